/- Printed by a program: the contracts of Go functions. -/
import Derived.Test.YtnfbcofieobkkaaGreatDoorPL18
import Derived.Test.YtnfbcofieobkkaaGreatDoorAV
namespace Go.Proofs.YtnfbcofieobkkaaGreatDoor
open Go Go.Proofs Ev
set_option linter.unusedVariables false
set_option linter.unusedSimpArgs false
noncomputable section

def law18_alive.cfg (_N : Nat) : Cfg := { T := tys, EQ := eqs, C := [(24, widen_Convert.ct)], lp := [], un := [], ks := [], keep := [0, 1, 2, 3] }
theorem law18_alive.ev (N : Nat)  : evFunc (law18_alive.cfg N) N Tryz.f26 [] [] 0 dB.dec = law18_alive.g  := by kernel_rfl
theorem law18_alive.hl (N : Nat) : ∀ body, Tryz.f26.body = some body → ∀ b ∈ loopsOf body, ∀ lc, lkL (firstReg b) (law18_alive.cfg N).lp = some lc → LCOk (law18_alive.cfg N) N b lc := HL_nil rfl
theorem law18_alive.cfg_ok (N : Nat) : CfgOk Tryz.prog (law18_alive.cfg N) := mkCfg (.cons widen_Convert.ok .nil) _ _ _ _
theorem law18_alive.ok : CTok Tryz.prog 26 law18_alive.ct := CTok.of0 Tryz.call26 mix Tryz.func26 (Nat.le_of_ble_eq_true (by kernel_rfl)) (fun  res hres  => ⟨law18_alive.cfg fuel, fuel, law18_alive.cfg_ok fuel, law18_alive.hl fuel, (law18_alive.ev fuel ).trans hres⟩)

def law18_WidenConverts.cfg (_N : Nat) : Cfg := { T := tys, EQ := eqs, C := [(24, widen_Convert.ct), (25, ref18_Convert.ct), (26, law18_alive.ct)], lp := [], un := [], ks := [], keep := [0, 1, 2, 3, 7, 8, 9, 10, 11, 12, 13, 14] }
theorem law18_WidenConverts.ev (N : Nat) (to_ : Int) (from_ : Int) (m_ : Int) (a : B2) : evFunc (law18_WidenConverts.cfg N) N Tryz.f5 [.v ((dI .u8).enc to_), .v ((dI .u8).enc from_), .v ((dI .u8).enc m_), .v (dBits.enc a)] [] 0 dB.dec = law18_WidenConverts.g to_ from_ m_ a := by kernel_rfl
theorem law18_WidenConverts.hl (N : Nat) : ∀ body, Tryz.f5.body = some body → ∀ b ∈ loopsOf body, ∀ lc, lkL (firstReg b) (law18_WidenConverts.cfg N).lp = some lc → LCOk (law18_WidenConverts.cfg N) N b lc := HL_nil rfl
theorem law18_WidenConverts.cfg_ok (N : Nat) : CfgOk Tryz.prog (law18_WidenConverts.cfg N) := mkCfg (.cons widen_Convert.ok (.cons ref18_Convert.ok (.cons law18_alive.ok .nil))) _ _ _ _
theorem law18_WidenConverts.ok : CTok Tryz.prog 5 law18_WidenConverts.ct := CTok.of4 Tryz.call5 mix Tryz.func5 (Nat.le_of_ble_eq_true (by kernel_rfl)) (fun to_ from_ m_ a res hres _ _ _ _ => ⟨law18_WidenConverts.cfg fuel, fuel, law18_WidenConverts.cfg_ok fuel, law18_WidenConverts.hl fuel, (law18_WidenConverts.ev fuel to_ from_ m_ a).trans hres⟩)

def law18_WidenFits.cfg (_N : Nat) : Cfg := { T := tys, EQ := eqs, C := [(26, law18_alive.ct), (27, widen_Fits.ct), (28, ref18_Fits.ct)], lp := [], un := [], ks := [], keep := [0, 1, 2, 5, 6, 7, 8, 9, 10] }
theorem law18_WidenFits.ev (N : Nat) (to_ : Int) (from_ : Int) (a : B2) : evFunc (law18_WidenFits.cfg N) N Tryz.f6 [.v ((dI .u8).enc to_), .v ((dI .u8).enc from_), .v (dBits.enc a)] [] 0 dB.dec = law18_WidenFits.g to_ from_ a := by kernel_rfl
theorem law18_WidenFits.hl (N : Nat) : ∀ body, Tryz.f6.body = some body → ∀ b ∈ loopsOf body, ∀ lc, lkL (firstReg b) (law18_WidenFits.cfg N).lp = some lc → LCOk (law18_WidenFits.cfg N) N b lc := HL_nil rfl
theorem law18_WidenFits.cfg_ok (N : Nat) : CfgOk Tryz.prog (law18_WidenFits.cfg N) := mkCfg (.cons law18_alive.ok (.cons widen_Fits.ok (.cons ref18_Fits.ok .nil))) _ _ _ _
theorem law18_WidenFits.ok : CTok Tryz.prog 6 law18_WidenFits.ct := CTok.of3 Tryz.call6 mix Tryz.func6 (Nat.le_of_ble_eq_true (by kernel_rfl)) (fun to_ from_ a res hres _ _ _ => ⟨law18_WidenFits.cfg fuel, fuel, law18_WidenFits.cfg_ok fuel, law18_WidenFits.hl fuel, (law18_WidenFits.ev fuel to_ from_ a).trans hres⟩)

end
end Go.Proofs.YtnfbcofieobkkaaGreatDoor
