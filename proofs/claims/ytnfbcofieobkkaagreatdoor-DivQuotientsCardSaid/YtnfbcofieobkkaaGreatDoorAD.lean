/- Printed by a program: the contracts of Go functions. -/
import Derived.Test.YtnfbcofieobkkaaGreatDoorPD
import Derived.Test.YtnfbcofieobkkaaGreatDoorAR
import Derived.Test.YtnfbcofieobkkaaGreatDoorAH
import Derived.Test.YtnfbcofieobkkaaGreatDoorAE
namespace Go.Proofs.YtnfbcofieobkkaaGreatDoor
open Go Go.Proofs Ev
set_option linter.unusedVariables false
set_option linter.unusedSimpArgs false
noncomputable section

def div_open_2.cfg (_N : Nat) : Cfg := { T := tys, EQ := eqs, C := [(85, kind_Unpack.ct), (86, shape_Check.ct), (87, shape_CheckMode.ct)], lp := [], un := [(4, 6)], ks := [(4, [0, 6, 7, 8, 9, 10, 11, 21, 22, 23, 24, 35])], keep := [0, 1, 2, 6, 7, 8, 9, 10, 11, 19, 21, 22, 23, 24, 35] }
theorem div_open_2.ev (N : Nat) (f : Int) (m_ : Int) (l : (B2 × B2)) : evFunc (div_open_2.cfg N) N Tryz.f121 [.v ((dI .u8).enc f), .v ((dI .u8).enc m_), .s 0 0 2 2] [(0, ⟨false, 27, mB2x2.enc l⟩)] 1 (dT2 dP3 dB).dec = div_open_2.g f m_ l := by kernel_rfl
theorem div_open_2.hl (N : Nat) : ∀ body, Tryz.f121.body = some body → ∀ b ∈ loopsOf body, ∀ lc, lkL (firstReg b) (div_open_2.cfg N).lp = some lc → LCOk (div_open_2.cfg N) N b lc := HL_nil rfl
theorem div_open_2.cfg_ok (N : Nat) : CfgOk Tryz.prog (div_open_2.cfg N) := mkCfg (.cons kind_Unpack.ok (.cons shape_Check.ok (.cons shape_CheckMode.ok .nil))) _ _ _ _
theorem div_open_2.ok : CTok Tryz.prog 121 div_open_2.ct := CTok.ofK2 Tryz.call121 mix Tryz.func121 (Nat.le_of_ble_eq_true (by kernel_rfl)) (fun f m_ l res hres  => ⟨div_open_2.cfg fuel, fuel, div_open_2.cfg_ok fuel, div_open_2.hl fuel, (div_open_2.ev fuel f m_ l).trans hres⟩)

def div_nan.cfg (_N : Nat) : Cfg := { T := tys, EQ := eqs, C := [], lp := [], un := [], ks := [], keep := [0, 1, 2] }
theorem div_nan.ev (N : Nat) (p : Pts) : evFunc (div_nan.cfg N) N Tryz.f122 [.v (dPts.enc p)] [] 0 dB.dec = div_nan.g p := by kernel_rfl
theorem div_nan.hl (N : Nat) : ∀ body, Tryz.f122.body = some body → ∀ b ∈ loopsOf body, ∀ lc, lkL (firstReg b) (div_nan.cfg N).lp = some lc → LCOk (div_nan.cfg N) N b lc := HL_nil rfl
theorem div_nan.cfg_ok (N : Nat) : CfgOk Tryz.prog (div_nan.cfg N) := mkCfg .nil _ _ _ _
theorem div_nan.ok : CTok Tryz.prog 122 div_nan.ct := CTok.of1 Tryz.call122 mix Tryz.func122 (Nat.le_of_ble_eq_true (by kernel_rfl)) (fun p res hres _ => ⟨div_nan.cfg fuel, fuel, div_nan.cfg_ok fuel, div_nan.hl fuel, (div_nan.ev fuel p).trans hres⟩)

def div_canonical_2.cfg (_N : Nat) : Cfg := { T := tys, EQ := eqs, C := [(88, shape_NaN.ct)], lp := [], un := [(3, 6)], ks := [(3, [0, 4, 5, 6, 7, 9, 10, 11, 12, 13, 18])], keep := [0, 1, 4, 5, 6, 7, 9, 10, 11, 12, 13, 18] }
theorem div_canonical_2.ev (N : Nat) (f : Int) (l : (Pts × Pts)) : evFunc (div_canonical_2.cfg N) N Tryz.f123 [.v ((dI .u8).enc f), .s 0 0 2 2] [(0, ⟨false, 111, mPx2.enc l⟩)] 1 (dT3 dBits (dI .u8) (dI .i64)).dec = div_canonical_2.g f l := by kernel_rfl
theorem div_canonical_2.hl (N : Nat) : ∀ body, Tryz.f123.body = some body → ∀ b ∈ loopsOf body, ∀ lc, lkL (firstReg b) (div_canonical_2.cfg N).lp = some lc → LCOk (div_canonical_2.cfg N) N b lc := HL_nil rfl
theorem div_canonical_2.cfg_ok (N : Nat) : CfgOk Tryz.prog (div_canonical_2.cfg N) := mkCfg (.cons shape_NaN.ok .nil) _ _ _ _
theorem div_canonical_2.ok : CTok Tryz.prog 123 div_canonical_2.ct := CTok.ofK1 Tryz.call123 mix Tryz.func123 (Nat.le_of_ble_eq_true (by kernel_rfl)) (fun f l res hres  => ⟨div_canonical_2.cfg fuel, fuel, div_canonical_2.cfg_ok fuel, div_canonical_2.hl fuel, (div_canonical_2.ev fuel f l).trans hres⟩)

def div_below.cfg (_N : Nat) : Cfg := { T := tys, EQ := eqs, C := [], lp := [], un := [], ks := [], keep := [0, 1, 2] }
theorem div_below.ev (N : Nat) (p : Pts) : evFunc (div_below.cfg N) N Tryz.f124 [.v (dPts.enc p)] [] 0 dB.dec = div_below.g p := by kernel_rfl
theorem div_below.hl (N : Nat) : ∀ body, Tryz.f124.body = some body → ∀ b ∈ loopsOf body, ∀ lc, lkL (firstReg b) (div_below.cfg N).lp = some lc → LCOk (div_below.cfg N) N b lc := HL_nil rfl
theorem div_below.cfg_ok (N : Nat) : CfgOk Tryz.prog (div_below.cfg N) := mkCfg .nil _ _ _ _
theorem div_below.ok : CTok Tryz.prog 124 div_below.ct := CTok.of1 Tryz.call124 mix Tryz.func124 (Nat.le_of_ble_eq_true (by kernel_rfl)) (fun p res hres _ => ⟨div_below.cfg fuel, fuel, div_below.cfg_ok fuel, div_below.hl fuel, (div_below.ev fuel p).trans hres⟩)

def div_nought.cfg (_N : Nat) : Cfg := { T := tys, EQ := eqs, C := [], lp := [], un := [], ks := [], keep := [0, 1, 2] }
theorem div_nought.ev (N : Nat) (p : Pts) : evFunc (div_nought.cfg N) N Tryz.f206 [.v (dPts.enc p)] [] 0 dB.dec = div_nought.g p := by kernel_rfl
theorem div_nought.hl (N : Nat) : ∀ body, Tryz.f206.body = some body → ∀ b ∈ loopsOf body, ∀ lc, lkL (firstReg b) (div_nought.cfg N).lp = some lc → LCOk (div_nought.cfg N) N b lc := HL_nil rfl
theorem div_nought.cfg_ok (N : Nat) : CfgOk Tryz.prog (div_nought.cfg N) := mkCfg .nil _ _ _ _
theorem div_nought.ok : CTok Tryz.prog 206 div_nought.ct := CTok.of1 Tryz.call206 mix Tryz.func206 (Nat.le_of_ble_eq_true (by kernel_rfl)) (fun p res hres _ => ⟨div_nought.cfg fuel, fuel, div_nought.cfg_ok fuel, div_nought.hl fuel, (div_nought.ev fuel p).trans hres⟩)

def div_inf.cfg (_N : Nat) : Cfg := { T := tys, EQ := eqs, C := [], lp := [], un := [], ks := [], keep := [0, 1, 2] }
theorem div_inf.ev (N : Nat) (p : Pts) : evFunc (div_inf.cfg N) N Tryz.f207 [.v (dPts.enc p)] [] 0 dB.dec = div_inf.g p := by kernel_rfl
theorem div_inf.hl (N : Nat) : ∀ body, Tryz.f207.body = some body → ∀ b ∈ loopsOf body, ∀ lc, lkL (firstReg b) (div_inf.cfg N).lp = some lc → LCOk (div_inf.cfg N) N b lc := HL_nil rfl
theorem div_inf.cfg_ok (N : Nat) : CfgOk Tryz.prog (div_inf.cfg N) := mkCfg .nil _ _ _ _
theorem div_inf.ok : CTok Tryz.prog 207 div_inf.ct := CTok.of1 Tryz.call207 mix Tryz.func207 (Nat.le_of_ble_eq_true (by kernel_rfl)) (fun p res hres _ => ⟨div_inf.cfg fuel, fuel, div_inf.cfg_ok fuel, div_inf.hl fuel, (div_inf.ev fuel p).trans hres⟩)

def div_sort.cfg (_N : Nat) : Cfg := { T := tys, EQ := eqs, C := [(206, div_nought.ct), (207, div_inf.ct)], lp := [], un := [], ks := [], keep := [0, 1, 2, 3, 6] }
theorem div_sort.ev (N : Nat) (p : Pts) : evFunc (div_sort.cfg N) N Tryz.f125 [.v (dPts.enc p)] [] 0 (dI .u8).dec = div_sort.g p := by kernel_rfl
theorem div_sort.hl (N : Nat) : ∀ body, Tryz.f125.body = some body → ∀ b ∈ loopsOf body, ∀ lc, lkL (firstReg b) (div_sort.cfg N).lp = some lc → LCOk (div_sort.cfg N) N b lc := HL_nil rfl
theorem div_sort.cfg_ok (N : Nat) : CfgOk Tryz.prog (div_sort.cfg N) := mkCfg (.cons div_nought.ok (.cons div_inf.ok .nil)) _ _ _ _
theorem div_sort.ok : CTok Tryz.prog 125 div_sort.ct := CTok.of1 Tryz.call125 mix Tryz.func125 (Nat.le_of_ble_eq_true (by kernel_rfl)) (fun p res hres _ => ⟨div_sort.cfg fuel, fuel, div_sort.cfg_ok fuel, div_sort.hl fuel, (div_sort.ev fuel p).trans hres⟩)

def div_Div.cfg (_N : Nat) : Cfg := { T := tys, EQ := eqs, C := [(75, round_Pack.ct), (88, shape_NaN.ct), (90, shape_Inf.ct), (105, shape_Zero.ct), (116, shape_Precision.ct), (117, wide_Len.ct), (121, div_open_2.ct), (122, div_nan.ct), (123, div_canonical_2.ct), (124, div_below.ct), (125, div_sort.ct), (126, quot_Digits.ct)], lp := [], un := [], ks := [], keep := [0, 1, 2, 3, 6, 7, 8, 9, 10, 11, 12, 13, 14, 15, 16, 17, 18, 30, 41, 59, 60, 67, 75, 85] }
theorem div_Div.ev (N : Nat) (f : Int) (m_ : Int) (a : B2) (b : B2) : evFunc (div_Div.cfg N) N Tryz.f35 [.v ((dI .u8).enc f), .v ((dI .u8).enc m_), .v (dBits.enc a), .v (dBits.enc b)] [] 0 (dT3 dBits (dI .u8) (dI .i64)).dec = div_Div.g f m_ a b := by kernel_rfl
theorem div_Div.hl (N : Nat) : ∀ body, Tryz.f35.body = some body → ∀ b ∈ loopsOf body, ∀ lc, lkL (firstReg b) (div_Div.cfg N).lp = some lc → LCOk (div_Div.cfg N) N b lc := HL_nil rfl
theorem div_Div.cfg_ok (N : Nat) : CfgOk Tryz.prog (div_Div.cfg N) := mkCfg (.cons round_Pack.ok (.cons shape_NaN.ok (.cons shape_Inf.ok (.cons shape_Zero.ok (.cons shape_Precision.ok (.cons wide_Len.ok (.cons div_open_2.ok (.cons div_nan.ok (.cons div_canonical_2.ok (.cons div_below.ok (.cons div_sort.ok (.cons quot_Digits.ok .nil)))))))))))) _ _ _ _
theorem div_Div.ok : CTok Tryz.prog 35 div_Div.ct := CTok.of4 Tryz.call35 mix Tryz.func35 (Nat.le_of_ble_eq_true (by kernel_rfl)) (fun f m_ a b res hres _ _ _ _ => ⟨div_Div.cfg fuel, fuel, div_Div.cfg_ok fuel, div_Div.hl fuel, (div_Div.ev fuel f m_ a b).trans hres⟩)

def ref13_Div.cfg (_N : Nat) : Cfg := { T := tys, EQ := eqs, C := [(64, ref08_Sign.ct), (65, ref08_IsNaN.ct), (67, ref08_IsInf.ct), (78, ref09_Round.ct), (92, ref07_NaN.ct), (93, ref07_Inf.ct), (94, ref08_IsZero.ct), (95, ref07_Zero.ct), (96, ref08_Value.ct), (107, ref11_Fits_2.ct), (108, ref11_Canonical_2.ct), (127, ref06_Quo.ct)], lp := [], un := [], ks := [], keep := [0, 1, 2, 3, 6, 7, 8, 9, 10, 11, 12, 13, 14, 16, 18, 26, 35, 70, 75, 86, 92] }
theorem ref13_Div.ev (N : Nat) (f : Int) (m_ : Int) (a : B2) (b : B2) : evFunc (ref13_Div.cfg N) N Tryz.f36 [.v ((dI .u8).enc f), .v ((dI .u8).enc m_), .v (dBits.enc a), .v (dBits.enc b)] [] 0 (dT3 dBits (dI .u8) (dI .i64)).dec = ref13_Div.g f m_ a b := by kernel_rfl
theorem ref13_Div.hl (N : Nat) : ∀ body, Tryz.f36.body = some body → ∀ b ∈ loopsOf body, ∀ lc, lkL (firstReg b) (ref13_Div.cfg N).lp = some lc → LCOk (ref13_Div.cfg N) N b lc := HL_nil rfl
theorem ref13_Div.cfg_ok (N : Nat) : CfgOk Tryz.prog (ref13_Div.cfg N) := mkCfg (.cons ref08_Sign.ok (.cons ref08_IsNaN.ok (.cons ref08_IsInf.ok (.cons ref09_Round.ok (.cons ref07_NaN.ok (.cons ref07_Inf.ok (.cons ref08_IsZero.ok (.cons ref07_Zero.ok (.cons ref08_Value.ok (.cons ref11_Fits_2.ok (.cons ref11_Canonical_2.ok (.cons ref06_Quo.ok .nil)))))))))))) _ _ _ _
theorem ref13_Div.ok : CTok Tryz.prog 36 ref13_Div.ct := CTok.of4 Tryz.call36 mix Tryz.func36 (Nat.le_of_ble_eq_true (by kernel_rfl)) (fun f m_ a b res hres _ _ _ _ => ⟨ref13_Div.cfg fuel, fuel, ref13_Div.cfg_ok fuel, ref13_Div.hl fuel, (ref13_Div.ev fuel f m_ a b).trans hres⟩)

end
end Go.Proofs.YtnfbcofieobkkaaGreatDoor
