/- Printed by a program: the contracts of Go functions. -/
import Derived.Test.YtnfbcofieobkkaaGreatDoorPL11
import Derived.Test.YtnfbcofieobkkaaGreatDoorAA
namespace Go.Proofs.YtnfbcofieobkkaaGreatDoor
open Go Go.Proofs Ev
set_option linter.unusedVariables false
set_option linter.unusedSimpArgs false
noncomputable section

def law11_alive.cfg (_N : Nat) : Cfg := { T := tys, EQ := eqs, C := [(40, add_Add.ct)], lp := [], un := [], ks := [], keep := [0, 1, 2, 3] }
theorem law11_alive.ev (N : Nat)  : evFunc (law11_alive.cfg N) N Tryz.f44 [] [] 0 dB.dec = law11_alive.g  := by kernel_rfl
theorem law11_alive.hl (N : Nat) : ∀ body, Tryz.f44.body = some body → ∀ b ∈ loopsOf body, ∀ lc, lkL (firstReg b) (law11_alive.cfg N).lp = some lc → LCOk (law11_alive.cfg N) N b lc := HL_nil rfl
theorem law11_alive.cfg_ok (N : Nat) : CfgOk Tryz.prog (law11_alive.cfg N) := mkCfg (.cons add_Add.ok .nil) _ _ _ _
theorem law11_alive.ok : CTok Tryz.prog 44 law11_alive.ct := CTok.of0 Tryz.call44 mix Tryz.func44 (Nat.le_of_ble_eq_true (by kernel_rfl)) (fun  res hres  => ⟨law11_alive.cfg fuel, fuel, law11_alive.cfg_ok fuel, law11_alive.hl fuel, (law11_alive.ev fuel ).trans hres⟩)

def law11_AddSums.cfg (_N : Nat) : Cfg := { T := tys, EQ := eqs, C := [(40, add_Add.ct), (41, ref11_Add.ct), (42, add_Sub.ct), (43, ref11_Sub.ct), (44, law11_alive.ct)], lp := [], un := [], ks := [], keep := [0, 1, 2, 3, 6, 7, 8, 9, 10, 11, 12, 13, 14, 15, 16, 17, 18, 19, 20] }
theorem law11_AddSums.ev (N : Nat) (f : Int) (m_ : Int) (a : B2) (b : B2) : evFunc (law11_AddSums.cfg N) N Tryz.f11 [.v ((dI .u8).enc f), .v ((dI .u8).enc m_), .v (dBits.enc a), .v (dBits.enc b)] [] 0 dB.dec = law11_AddSums.g f m_ a b := by kernel_rfl
theorem law11_AddSums.hl (N : Nat) : ∀ body, Tryz.f11.body = some body → ∀ b ∈ loopsOf body, ∀ lc, lkL (firstReg b) (law11_AddSums.cfg N).lp = some lc → LCOk (law11_AddSums.cfg N) N b lc := HL_nil rfl
theorem law11_AddSums.cfg_ok (N : Nat) : CfgOk Tryz.prog (law11_AddSums.cfg N) := mkCfg (.cons add_Add.ok (.cons ref11_Add.ok (.cons add_Sub.ok (.cons ref11_Sub.ok (.cons law11_alive.ok .nil))))) _ _ _ _
theorem law11_AddSums.ok : CTok Tryz.prog 11 law11_AddSums.ct := CTok.of4 Tryz.call11 mix Tryz.func11 (Nat.le_of_ble_eq_true (by kernel_rfl)) (fun f m_ a b res hres _ _ _ _ => ⟨law11_AddSums.cfg fuel, fuel, law11_AddSums.cfg_ok fuel, law11_AddSums.hl fuel, (law11_AddSums.ev fuel f m_ a b).trans hres⟩)

end
end Go.Proofs.YtnfbcofieobkkaaGreatDoor
