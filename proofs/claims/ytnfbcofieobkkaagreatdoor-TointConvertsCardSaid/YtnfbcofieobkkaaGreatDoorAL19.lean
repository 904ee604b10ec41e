/- Printed by a program: the contracts of Go functions. -/
import Derived.Test.YtnfbcofieobkkaaGreatDoorPL19
import Derived.Test.YtnfbcofieobkkaaGreatDoorAT
namespace Go.Proofs.YtnfbcofieobkkaaGreatDoor
open Go Go.Proofs Ev
set_option linter.unusedVariables false
set_option linter.unusedSimpArgs false
noncomputable section

def law19_alive.cfg (_N : Nat) : Cfg := { T := tys, EQ := eqs, C := [(16, toint_Convert.ct)], lp := [], un := [], ks := [], keep := [0, 1, 2, 3] }
theorem law19_alive.ev (N : Nat)  : evFunc (law19_alive.cfg N) N Tryz.f18 [] [] 0 dB.dec = law19_alive.g  := by kernel_rfl
theorem law19_alive.hl (N : Nat) : ∀ body, Tryz.f18.body = some body → ∀ b ∈ loopsOf body, ∀ lc, lkL (firstReg b) (law19_alive.cfg N).lp = some lc → LCOk (law19_alive.cfg N) N b lc := HL_nil rfl
theorem law19_alive.cfg_ok (N : Nat) : CfgOk Tryz.prog (law19_alive.cfg N) := mkCfg (.cons toint_Convert.ok .nil) _ _ _ _
theorem law19_alive.ok : CTok Tryz.prog 18 law19_alive.ct := CTok.of0 Tryz.call18 mix Tryz.func18 (Nat.le_of_ble_eq_true (by kernel_rfl)) (fun  res hres  => ⟨law19_alive.cfg fuel, fuel, law19_alive.cfg_ok fuel, law19_alive.hl fuel, (law19_alive.ev fuel ).trans hres⟩)

def law19_TointConverts.cfg (_N : Nat) : Cfg := { T := tys, EQ := eqs, C := [(16, toint_Convert.ct), (17, ref19_Convert.ct), (18, law19_alive.ct)], lp := [], un := [], ks := [], keep := [0, 1, 2, 3, 7, 8, 9, 10, 11, 12, 13, 14] }
theorem law19_TointConverts.ev (N : Nat) (k_ : Int) (f : Int) (m_ : Int) (a : B2) : evFunc (law19_TointConverts.cfg N) N Tryz.f3 [.v ((dI .u8).enc k_), .v ((dI .u8).enc f), .v ((dI .u8).enc m_), .v (dBits.enc a)] [] 0 dB.dec = law19_TointConverts.g k_ f m_ a := by kernel_rfl
theorem law19_TointConverts.hl (N : Nat) : ∀ body, Tryz.f3.body = some body → ∀ b ∈ loopsOf body, ∀ lc, lkL (firstReg b) (law19_TointConverts.cfg N).lp = some lc → LCOk (law19_TointConverts.cfg N) N b lc := HL_nil rfl
theorem law19_TointConverts.cfg_ok (N : Nat) : CfgOk Tryz.prog (law19_TointConverts.cfg N) := mkCfg (.cons toint_Convert.ok (.cons ref19_Convert.ok (.cons law19_alive.ok .nil))) _ _ _ _
theorem law19_TointConverts.ok : CTok Tryz.prog 3 law19_TointConverts.ct := CTok.of4 Tryz.call3 mix Tryz.func3 (Nat.le_of_ble_eq_true (by kernel_rfl)) (fun k_ f m_ a res hres _ _ _ _ => ⟨law19_TointConverts.cfg fuel, fuel, law19_TointConverts.cfg_ok fuel, law19_TointConverts.hl fuel, (law19_TointConverts.ev fuel k_ f m_ a).trans hres⟩)

end
end Go.Proofs.YtnfbcofieobkkaaGreatDoor
