/- Printed by a program: the contracts of Go functions. -/
import Derived.Test.YtnfbcofieobkkaaGreatDoorPQ
import Derived.Test.YtnfbcofieobkkaaGreatDoorAR
import Derived.Test.YtnfbcofieobkkaaGreatDoorAH
import Derived.Test.YtnfbcofieobkkaaGreatDoorAE
namespace Go.Proofs.YtnfbcofieobkkaaGreatDoor
open Go Go.Proofs Ev
set_option linter.unusedVariables false
set_option linter.unusedSimpArgs false
noncomputable section

def sqrt_open_1.cfg (_N : Nat) : Cfg := { T := tys, EQ := eqs, C := [(85, kind_Unpack.ct), (86, shape_Check.ct), (87, shape_CheckMode.ct)], lp := [], un := [(4, 6)], ks := [(4, [0, 6, 7, 8, 9, 10, 11, 21, 22, 23, 24, 35])], keep := [0, 1, 2, 6, 7, 8, 9, 10, 11, 19, 21, 22, 23, 24, 35] }
theorem sqrt_open_1.ev (N : Nat) (f : Int) (m_ : Int) (l : B2) : evFunc (sqrt_open_1.cfg N) N Tryz.f110 [.v ((dI .u8).enc f), .v ((dI .u8).enc m_), .s 0 0 1 1] [(0, ⟨false, 27, mBits.enc l⟩)] 1 (dT2 dP3 dB).dec = sqrt_open_1.g f m_ l := by kernel_rfl
theorem sqrt_open_1.hl (N : Nat) : ∀ body, Tryz.f110.body = some body → ∀ b ∈ loopsOf body, ∀ lc, lkL (firstReg b) (sqrt_open_1.cfg N).lp = some lc → LCOk (sqrt_open_1.cfg N) N b lc := HL_nil rfl
theorem sqrt_open_1.cfg_ok (N : Nat) : CfgOk Tryz.prog (sqrt_open_1.cfg N) := mkCfg (.cons kind_Unpack.ok (.cons shape_Check.ok (.cons shape_CheckMode.ok .nil))) _ _ _ _
theorem sqrt_open_1.ok : CTok Tryz.prog 110 sqrt_open_1.ct := CTok.ofK2 Tryz.call110 mix Tryz.func110 (Nat.le_of_ble_eq_true (by kernel_rfl)) (fun f m_ l res hres  => ⟨sqrt_open_1.cfg fuel, fuel, sqrt_open_1.cfg_ok fuel, sqrt_open_1.hl fuel, (sqrt_open_1.ev fuel f m_ l).trans hres⟩)

def sqrt_nan.cfg (_N : Nat) : Cfg := { T := tys, EQ := eqs, C := [], lp := [], un := [], ks := [], keep := [0, 1, 2] }
theorem sqrt_nan.ev (N : Nat) (p : Pts) : evFunc (sqrt_nan.cfg N) N Tryz.f111 [.v (dPts.enc p)] [] 0 dB.dec = sqrt_nan.g p := by kernel_rfl
theorem sqrt_nan.hl (N : Nat) : ∀ body, Tryz.f111.body = some body → ∀ b ∈ loopsOf body, ∀ lc, lkL (firstReg b) (sqrt_nan.cfg N).lp = some lc → LCOk (sqrt_nan.cfg N) N b lc := HL_nil rfl
theorem sqrt_nan.cfg_ok (N : Nat) : CfgOk Tryz.prog (sqrt_nan.cfg N) := mkCfg .nil _ _ _ _
theorem sqrt_nan.ok : CTok Tryz.prog 111 sqrt_nan.ct := CTok.of1 Tryz.call111 mix Tryz.func111 (Nat.le_of_ble_eq_true (by kernel_rfl)) (fun p res hres _ => ⟨sqrt_nan.cfg fuel, fuel, sqrt_nan.cfg_ok fuel, sqrt_nan.hl fuel, (sqrt_nan.ev fuel p).trans hres⟩)

def sqrt_canonical_1.cfg (_N : Nat) : Cfg := { T := tys, EQ := eqs, C := [(88, shape_NaN.ct)], lp := [], un := [(3, 6)], ks := [(3, [0, 4, 5, 6, 7, 9, 10, 11, 12, 13, 18])], keep := [0, 1, 4, 5, 6, 7, 9, 10, 11, 12, 13, 18] }
theorem sqrt_canonical_1.ev (N : Nat) (f : Int) (l : Pts) : evFunc (sqrt_canonical_1.cfg N) N Tryz.f112 [.v ((dI .u8).enc f), .s 0 0 1 1] [(0, ⟨false, 111, mPts.enc l⟩)] 1 (dT3 dBits (dI .u8) (dI .i64)).dec = sqrt_canonical_1.g f l := by kernel_rfl
theorem sqrt_canonical_1.hl (N : Nat) : ∀ body, Tryz.f112.body = some body → ∀ b ∈ loopsOf body, ∀ lc, lkL (firstReg b) (sqrt_canonical_1.cfg N).lp = some lc → LCOk (sqrt_canonical_1.cfg N) N b lc := HL_nil rfl
theorem sqrt_canonical_1.cfg_ok (N : Nat) : CfgOk Tryz.prog (sqrt_canonical_1.cfg N) := mkCfg (.cons shape_NaN.ok .nil) _ _ _ _
theorem sqrt_canonical_1.ok : CTok Tryz.prog 112 sqrt_canonical_1.ct := CTok.ofK1 Tryz.call112 mix Tryz.func112 (Nat.le_of_ble_eq_true (by kernel_rfl)) (fun f l res hres  => ⟨sqrt_canonical_1.cfg fuel, fuel, sqrt_canonical_1.cfg_ok fuel, sqrt_canonical_1.hl fuel, (sqrt_canonical_1.ev fuel f l).trans hres⟩)

def sqrt_nought.cfg (_N : Nat) : Cfg := { T := tys, EQ := eqs, C := [], lp := [], un := [], ks := [], keep := [0, 1, 2] }
theorem sqrt_nought.ev (N : Nat) (p : Pts) : evFunc (sqrt_nought.cfg N) N Tryz.f113 [.v (dPts.enc p)] [] 0 dB.dec = sqrt_nought.g p := by kernel_rfl
theorem sqrt_nought.hl (N : Nat) : ∀ body, Tryz.f113.body = some body → ∀ b ∈ loopsOf body, ∀ lc, lkL (firstReg b) (sqrt_nought.cfg N).lp = some lc → LCOk (sqrt_nought.cfg N) N b lc := HL_nil rfl
theorem sqrt_nought.cfg_ok (N : Nat) : CfgOk Tryz.prog (sqrt_nought.cfg N) := mkCfg .nil _ _ _ _
theorem sqrt_nought.ok : CTok Tryz.prog 113 sqrt_nought.ct := CTok.of1 Tryz.call113 mix Tryz.func113 (Nat.le_of_ble_eq_true (by kernel_rfl)) (fun p res hres _ => ⟨sqrt_nought.cfg fuel, fuel, sqrt_nought.cfg_ok fuel, sqrt_nought.hl fuel, (sqrt_nought.ev fuel p).trans hres⟩)

def sqrt_below.cfg (_N : Nat) : Cfg := { T := tys, EQ := eqs, C := [], lp := [], un := [], ks := [], keep := [0, 1, 2] }
theorem sqrt_below.ev (N : Nat) (p : Pts) : evFunc (sqrt_below.cfg N) N Tryz.f114 [.v (dPts.enc p)] [] 0 dB.dec = sqrt_below.g p := by kernel_rfl
theorem sqrt_below.hl (N : Nat) : ∀ body, Tryz.f114.body = some body → ∀ b ∈ loopsOf body, ∀ lc, lkL (firstReg b) (sqrt_below.cfg N).lp = some lc → LCOk (sqrt_below.cfg N) N b lc := HL_nil rfl
theorem sqrt_below.cfg_ok (N : Nat) : CfgOk Tryz.prog (sqrt_below.cfg N) := mkCfg .nil _ _ _ _
theorem sqrt_below.ok : CTok Tryz.prog 114 sqrt_below.ct := CTok.of1 Tryz.call114 mix Tryz.func114 (Nat.le_of_ble_eq_true (by kernel_rfl)) (fun p res hres _ => ⟨sqrt_below.cfg fuel, fuel, sqrt_below.cfg_ok fuel, sqrt_below.hl fuel, (sqrt_below.ev fuel p).trans hres⟩)

def sqrt_inf.cfg (_N : Nat) : Cfg := { T := tys, EQ := eqs, C := [], lp := [], un := [], ks := [], keep := [0, 1, 2] }
theorem sqrt_inf.ev (N : Nat) (p : Pts) : evFunc (sqrt_inf.cfg N) N Tryz.f115 [.v (dPts.enc p)] [] 0 dB.dec = sqrt_inf.g p := by kernel_rfl
theorem sqrt_inf.hl (N : Nat) : ∀ body, Tryz.f115.body = some body → ∀ b ∈ loopsOf body, ∀ lc, lkL (firstReg b) (sqrt_inf.cfg N).lp = some lc → LCOk (sqrt_inf.cfg N) N b lc := HL_nil rfl
theorem sqrt_inf.cfg_ok (N : Nat) : CfgOk Tryz.prog (sqrt_inf.cfg N) := mkCfg .nil _ _ _ _
theorem sqrt_inf.ok : CTok Tryz.prog 115 sqrt_inf.ct := CTok.of1 Tryz.call115 mix Tryz.func115 (Nat.le_of_ble_eq_true (by kernel_rfl)) (fun p res hres _ => ⟨sqrt_inf.cfg fuel, fuel, sqrt_inf.cfg_ok fuel, sqrt_inf.hl fuel, (sqrt_inf.ev fuel p).trans hres⟩)

def sqrt_Sqrt.cfg (_N : Nat) : Cfg := { T := tys, EQ := eqs, C := [(75, round_Pack.ct), (88, shape_NaN.ct), (110, sqrt_open_1.ct), (111, sqrt_nan.ct), (112, sqrt_canonical_1.ct), (113, sqrt_nought.ct), (114, sqrt_below.ct), (115, sqrt_inf.ct), (116, shape_Precision.ct), (117, wide_Len.ct), (118, wide_Left.ct), (119, quot_Sqrt.ct)], lp := [], un := [], ks := [], keep := [0, 1, 2, 5, 6, 7, 8, 9, 10, 11, 12, 13, 15, 16, 26, 30, 40, 44, 49, 67] }
theorem sqrt_Sqrt.ev (N : Nat) (f : Int) (m_ : Int) (a : B2) : evFunc (sqrt_Sqrt.cfg N) N Tryz.f32 [.v ((dI .u8).enc f), .v ((dI .u8).enc m_), .v (dBits.enc a)] [] 0 (dT3 dBits (dI .u8) (dI .i64)).dec = sqrt_Sqrt.g f m_ a := by kernel_rfl
theorem sqrt_Sqrt.hl (N : Nat) : ∀ body, Tryz.f32.body = some body → ∀ b ∈ loopsOf body, ∀ lc, lkL (firstReg b) (sqrt_Sqrt.cfg N).lp = some lc → LCOk (sqrt_Sqrt.cfg N) N b lc := HL_nil rfl
theorem sqrt_Sqrt.cfg_ok (N : Nat) : CfgOk Tryz.prog (sqrt_Sqrt.cfg N) := mkCfg (.cons round_Pack.ok (.cons shape_NaN.ok (.cons sqrt_open_1.ok (.cons sqrt_nan.ok (.cons sqrt_canonical_1.ok (.cons sqrt_nought.ok (.cons sqrt_below.ok (.cons sqrt_inf.ok (.cons shape_Precision.ok (.cons wide_Len.ok (.cons wide_Left.ok (.cons quot_Sqrt.ok .nil)))))))))))) _ _ _ _
theorem sqrt_Sqrt.ok : CTok Tryz.prog 32 sqrt_Sqrt.ct := CTok.of3 Tryz.call32 mix Tryz.func32 (Nat.le_of_ble_eq_true (by kernel_rfl)) (fun f m_ a res hres _ _ _ => ⟨sqrt_Sqrt.cfg fuel, fuel, sqrt_Sqrt.cfg_ok fuel, sqrt_Sqrt.hl fuel, (sqrt_Sqrt.ev fuel f m_ a).trans hres⟩)

def ref14_Sqrt.cfg (_N : Nat) : Cfg := { T := tys, EQ := eqs, C := [(64, ref08_Sign.ct), (65, ref08_IsNaN.ct), (67, ref08_IsInf.ct), (92, ref07_NaN.ct), (94, ref08_IsZero.ct), (96, ref08_Value.ct), (107, ref11_Fits_1.ct), (108, ref11_Canonical_1.ct), (120, ref09_Root.ct)], lp := [], un := [], ks := [], keep := [0, 1, 2, 5, 6, 7, 8, 9, 10, 11, 18, 22, 34, 38, 43] }
theorem ref14_Sqrt.ev (N : Nat) (f : Int) (m_ : Int) (a : B2) : evFunc (ref14_Sqrt.cfg N) N Tryz.f33 [.v ((dI .u8).enc f), .v ((dI .u8).enc m_), .v (dBits.enc a)] [] 0 (dT3 dBits (dI .u8) (dI .i64)).dec = ref14_Sqrt.g f m_ a := by kernel_rfl
theorem ref14_Sqrt.hl (N : Nat) : ∀ body, Tryz.f33.body = some body → ∀ b ∈ loopsOf body, ∀ lc, lkL (firstReg b) (ref14_Sqrt.cfg N).lp = some lc → LCOk (ref14_Sqrt.cfg N) N b lc := HL_nil rfl
theorem ref14_Sqrt.cfg_ok (N : Nat) : CfgOk Tryz.prog (ref14_Sqrt.cfg N) := mkCfg (.cons ref08_Sign.ok (.cons ref08_IsNaN.ok (.cons ref08_IsInf.ok (.cons ref07_NaN.ok (.cons ref08_IsZero.ok (.cons ref08_Value.ok (.cons ref11_Fits_1.ok (.cons ref11_Canonical_1.ok (.cons ref09_Root.ok .nil))))))))) _ _ _ _
theorem ref14_Sqrt.ok : CTok Tryz.prog 33 ref14_Sqrt.ct := CTok.of3 Tryz.call33 mix Tryz.func33 (Nat.le_of_ble_eq_true (by kernel_rfl)) (fun f m_ a res hres _ _ _ => ⟨ref14_Sqrt.cfg fuel, fuel, ref14_Sqrt.cfg_ok fuel, ref14_Sqrt.hl fuel, (ref14_Sqrt.ev fuel f m_ a).trans hres⟩)

end
end Go.Proofs.YtnfbcofieobkkaaGreatDoor
