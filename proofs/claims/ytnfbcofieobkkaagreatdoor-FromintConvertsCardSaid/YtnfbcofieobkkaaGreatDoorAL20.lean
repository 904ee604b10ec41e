/- Printed by a program: the contracts of Go functions. -/
import Derived.Test.YtnfbcofieobkkaaGreatDoorPL20
import Derived.Test.YtnfbcofieobkkaaGreatDoorAF
import Derived.Test.YtnfbcofieobkkaaGreatDoorAT
namespace Go.Proofs.YtnfbcofieobkkaaGreatDoor
open Go Go.Proofs Ev
set_option linter.unusedVariables false
set_option linter.unusedSimpArgs false
noncomputable section

def law20_alive.cfg (_N : Nat) : Cfg := { T := tys, EQ := eqs, C := [(19, fromint_Convert.ct)], lp := [], un := [], ks := [], keep := [0, 1, 2, 3] }
theorem law20_alive.ev (N : Nat)  : evFunc (law20_alive.cfg N) N Tryz.f22 [] [] 0 dB.dec = law20_alive.g  := by kernel_rfl
theorem law20_alive.hl (N : Nat) : ∀ body, Tryz.f22.body = some body → ∀ b ∈ loopsOf body, ∀ lc, lkL (firstReg b) (law20_alive.cfg N).lp = some lc → LCOk (law20_alive.cfg N) N b lc := HL_nil rfl
theorem law20_alive.cfg_ok (N : Nat) : CfgOk Tryz.prog (law20_alive.cfg N) := mkCfg (.cons fromint_Convert.ok .nil) _ _ _ _
theorem law20_alive.ok : CTok Tryz.prog 22 law20_alive.ct := CTok.of0 Tryz.call22 mix Tryz.func22 (Nat.le_of_ble_eq_true (by kernel_rfl)) (fun  res hres  => ⟨law20_alive.cfg fuel, fuel, law20_alive.cfg_ok fuel, law20_alive.hl fuel, (law20_alive.ev fuel ).trans hres⟩)

def law20_FromintConverts.cfg (_N : Nat) : Cfg := { T := tys, EQ := eqs, C := [(19, fromint_Convert.ct), (20, ref20_Convert.ct), (21, fromint_Number.ct), (22, law20_alive.ct), (23, ref20_Number.ct)], lp := [], un := [], ks := [], keep := [0, 1, 2, 3, 8, 9, 10, 11, 12, 13, 14, 15, 16, 17, 18, 19, 50, 59] }
theorem law20_FromintConverts.ev (N : Nat) (f : Int) (k_ : Int) (m_ : Int) (x : Int) : evFunc (law20_FromintConverts.cfg N) N Tryz.f4 [.v ((dI .u8).enc f), .v ((dI .u8).enc k_), .v ((dI .u8).enc m_), .v ((dI .u64).enc x)] [] 0 dB.dec = law20_FromintConverts.g f k_ m_ x := by kernel_rfl
theorem law20_FromintConverts.hl (N : Nat) : ∀ body, Tryz.f4.body = some body → ∀ b ∈ loopsOf body, ∀ lc, lkL (firstReg b) (law20_FromintConverts.cfg N).lp = some lc → LCOk (law20_FromintConverts.cfg N) N b lc := HL_nil rfl
theorem law20_FromintConverts.cfg_ok (N : Nat) : CfgOk Tryz.prog (law20_FromintConverts.cfg N) := mkCfg (.cons fromint_Convert.ok (.cons ref20_Convert.ok (.cons fromint_Number.ok (.cons law20_alive.ok (.cons ref20_Number.ok .nil))))) _ _ _ _
theorem law20_FromintConverts.ok : CTok Tryz.prog 4 law20_FromintConverts.ct := CTok.of4 Tryz.call4 mix Tryz.func4 (Nat.le_of_ble_eq_true (by kernel_rfl)) (fun f k_ m_ x res hres _ _ _ _ => ⟨law20_FromintConverts.cfg fuel, fuel, law20_FromintConverts.cfg_ok fuel, law20_FromintConverts.hl fuel, (law20_FromintConverts.ev fuel f k_ m_ x).trans hres⟩)

end
end Go.Proofs.YtnfbcofieobkkaaGreatDoor
