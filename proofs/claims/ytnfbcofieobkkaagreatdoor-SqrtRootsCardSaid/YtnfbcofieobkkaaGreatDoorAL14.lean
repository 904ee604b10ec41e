/- Printed by a program: the contracts of Go functions. -/
import Derived.Test.YtnfbcofieobkkaaGreatDoorPL14
import Derived.Test.YtnfbcofieobkkaaGreatDoorAQ
import Derived.Test.YtnfbcofieobkkaaGreatDoorAM
namespace Go.Proofs.YtnfbcofieobkkaaGreatDoor
open Go Go.Proofs Ev
set_option linter.unusedVariables false
set_option linter.unusedSimpArgs false
noncomputable section

def law14_alive.cfg (_N : Nat) : Cfg := { T := tys, EQ := eqs, C := [(32, sqrt_Sqrt.ct)], lp := [], un := [], ks := [], keep := [0, 1, 2, 3] }
theorem law14_alive.ev (N : Nat)  : evFunc (law14_alive.cfg N) N Tryz.f34 [] [] 0 dB.dec = law14_alive.g  := by kernel_rfl
theorem law14_alive.hl (N : Nat) : ∀ body, Tryz.f34.body = some body → ∀ b ∈ loopsOf body, ∀ lc, lkL (firstReg b) (law14_alive.cfg N).lp = some lc → LCOk (law14_alive.cfg N) N b lc := HL_nil rfl
theorem law14_alive.cfg_ok (N : Nat) : CfgOk Tryz.prog (law14_alive.cfg N) := mkCfg (.cons sqrt_Sqrt.ok .nil) _ _ _ _
theorem law14_alive.ok : CTok Tryz.prog 34 law14_alive.ct := CTok.of0 Tryz.call34 mix Tryz.func34 (Nat.le_of_ble_eq_true (by kernel_rfl)) (fun  res hres  => ⟨law14_alive.cfg fuel, fuel, law14_alive.cfg_ok fuel, law14_alive.hl fuel, (law14_alive.ev fuel ).trans hres⟩)

def law14_SqrtRoots.cfg (_N : Nat) : Cfg := { T := tys, EQ := eqs, C := [(32, sqrt_Sqrt.ct), (33, ref14_Sqrt.ct), (34, law14_alive.ct)], lp := [], un := [], ks := [], keep := [0, 1, 2, 5, 6, 7, 8, 9, 10, 11, 12] }
theorem law14_SqrtRoots.ev (N : Nat) (f : Int) (m_ : Int) (a : B2) : evFunc (law14_SqrtRoots.cfg N) N Tryz.f8 [.v ((dI .u8).enc f), .v ((dI .u8).enc m_), .v (dBits.enc a)] [] 0 dB.dec = law14_SqrtRoots.g f m_ a := by kernel_rfl
theorem law14_SqrtRoots.hl (N : Nat) : ∀ body, Tryz.f8.body = some body → ∀ b ∈ loopsOf body, ∀ lc, lkL (firstReg b) (law14_SqrtRoots.cfg N).lp = some lc → LCOk (law14_SqrtRoots.cfg N) N b lc := HL_nil rfl
theorem law14_SqrtRoots.cfg_ok (N : Nat) : CfgOk Tryz.prog (law14_SqrtRoots.cfg N) := mkCfg (.cons sqrt_Sqrt.ok (.cons ref14_Sqrt.ok (.cons law14_alive.ok .nil))) _ _ _ _
theorem law14_SqrtRoots.ok : CTok Tryz.prog 8 law14_SqrtRoots.ct := CTok.of3 Tryz.call8 mix Tryz.func8 (Nat.le_of_ble_eq_true (by kernel_rfl)) (fun f m_ a res hres _ _ _ => ⟨law14_SqrtRoots.cfg fuel, fuel, law14_SqrtRoots.cfg_ok fuel, law14_SqrtRoots.hl fuel, (law14_SqrtRoots.ev fuel f m_ a).trans hres⟩)

end
end Go.Proofs.YtnfbcofieobkkaaGreatDoor
