/- Printed by a program: the contracts of Go functions. -/
import Derived.Test.YtnfbcofieobkkaaDoorPL19
import Derived.Test.YtnfbcofieobkkaaDoorAT
namespace Go.Proofs.YtnfbcofieobkkaaDoor
open Go Go.Proofs Ev
set_option linter.unusedVariables false
set_option linter.unusedSimpArgs false
noncomputable section

def law19_alive.cfg (_N : Nat) : Cfg := { T := tys, EQ := eqs, C := [(19, toint_Convert.ct)], lp := [], un := [], ks := [], keep := [0, 1, 2, 3] }
theorem law19_alive.ev (N : Nat)  : evFunc (law19_alive.cfg N) N Tryd.f15 [] [] 0 dB.dec = law19_alive.g  := by kernel_rfl
theorem law19_alive.hl (N : Nat) : ∀ body, Tryd.f15.body = some body → ∀ b ∈ loopsOf body, ∀ lc, lkL (firstReg b) (law19_alive.cfg N).lp = some lc → LCOk (law19_alive.cfg N) N b lc := HL_nil rfl
theorem law19_alive.cfg_ok (N : Nat) : CfgOk Tryd.prog (law19_alive.cfg N) := mkCfg (.cons toint_Convert.ok .nil) _ _ _ _
theorem law19_alive.ok : CTok Tryd.prog 15 law19_alive.ct := CTok.of0 Tryd.call15 mix Tryd.func15 (Nat.le_of_ble_eq_true (by kernel_rfl)) (fun  res hres  => ⟨law19_alive.cfg fuel, fuel, law19_alive.cfg_ok fuel, law19_alive.hl fuel, (law19_alive.ev fuel ).trans hres⟩)

def law19_TointEnds.cfg (_N : Nat) : Cfg := { T := tys, EQ := eqs, C := [(9, toint_Least.ct), (10, toint_Greatest.ct), (11, ref19_Least.ct), (12, ref19_Greatest.ct), (13, toint_Whole.ct), (14, ref19_Whole.ct), (15, law19_alive.ct)], lp := [], un := [], ks := [], keep := [0, 1, 2, 3, 7, 8, 9, 10, 11, 12, 13, 14, 15, 16, 17, 18, 19, 20, 32, 46, 64] }
theorem law19_TointEnds.ev (N : Nat) (k_ : Int) (f : Int) (m_ : Int) (a : B2) : evFunc (law19_TointEnds.cfg N) N Tryd.f3 [.v ((dI .u8).enc k_), .v ((dI .u8).enc f), .v ((dI .u8).enc m_), .v (dBits.enc a)] [] 0 dB.dec = law19_TointEnds.g k_ f m_ a := by kernel_rfl
theorem law19_TointEnds.hl (N : Nat) : ∀ body, Tryd.f3.body = some body → ∀ b ∈ loopsOf body, ∀ lc, lkL (firstReg b) (law19_TointEnds.cfg N).lp = some lc → LCOk (law19_TointEnds.cfg N) N b lc := HL_nil rfl
theorem law19_TointEnds.cfg_ok (N : Nat) : CfgOk Tryd.prog (law19_TointEnds.cfg N) := mkCfg (.cons toint_Least.ok (.cons toint_Greatest.ok (.cons ref19_Least.ok (.cons ref19_Greatest.ok (.cons toint_Whole.ok (.cons ref19_Whole.ok (.cons law19_alive.ok .nil))))))) _ _ _ _
theorem law19_TointEnds.ok : CTok Tryd.prog 3 law19_TointEnds.ct := CTok.of4 Tryd.call3 mix Tryd.func3 (Nat.le_of_ble_eq_true (by kernel_rfl)) (fun k_ f m_ a res hres _ _ _ _ => ⟨law19_TointEnds.cfg fuel, fuel, law19_TointEnds.cfg_ok fuel, law19_TointEnds.hl fuel, (law19_TointEnds.ev fuel k_ f m_ a).trans hres⟩)

end
end Go.Proofs.YtnfbcofieobkkaaDoor
