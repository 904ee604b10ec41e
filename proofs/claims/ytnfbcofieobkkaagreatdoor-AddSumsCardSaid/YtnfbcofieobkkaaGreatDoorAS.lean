/- Printed by a program: the contracts of Go functions. -/
import Derived.Test.YtnfbcofieobkkaaGreatDoorPS
import Derived.Test.YtnfbcofieobkkaaGreatDoorAW
namespace Go.Proofs.YtnfbcofieobkkaaGreatDoor
open Go Go.Proofs Ev
set_option linter.unusedVariables false
set_option linter.unusedSimpArgs false
noncomputable section

theorem shape_numbers.ok : CTok Tryz.prog 203 shape_numbers.ct := CTok.of1 Tryz.call203 mix Tryz.func203 (Nat.le_of_ble_eq_true (by kernel_rfl)) (fun f res hres _ => ⟨shape_numbers.cfg, 10, mkCfg .nil _ _ _ _, HL_nil rfl, hres⟩)

def shape_Precision.cfg (_N : Nat) : Cfg := { T := tys, EQ := eqs, C := [(203, shape_numbers.ct)], lp := [], un := [], ks := [], keep := [0, 2, 4] }
theorem shape_Precision.ev (N : Nat) (f : Int) : evFunc (shape_Precision.cfg N) N Tryz.f116 [.v ((dI .u8).enc f)] [] 0 (dI .i64).dec = shape_Precision.g f := by kernel_rfl
theorem shape_Precision.hl (N : Nat) : ∀ body, Tryz.f116.body = some body → ∀ b ∈ loopsOf body, ∀ lc, lkL (firstReg b) (shape_Precision.cfg N).lp = some lc → LCOk (shape_Precision.cfg N) N b lc := HL_nil rfl
theorem shape_Precision.cfg_ok (N : Nat) : CfgOk Tryz.prog (shape_Precision.cfg N) := mkCfg (.cons shape_numbers.ok .nil) _ _ _ _
theorem shape_Precision.ok : CTok Tryz.prog 116 shape_Precision.ct := CTok.of1 Tryz.call116 mix Tryz.func116 (Nat.le_of_ble_eq_true (by kernel_rfl)) (fun f res hres _ => ⟨shape_Precision.cfg fuel, fuel, shape_Precision.cfg_ok fuel, shape_Precision.hl fuel, (shape_Precision.ev fuel f).trans hres⟩)

def shape_Width.cfg (_N : Nat) : Cfg := { T := tys, EQ := eqs, C := [(203, shape_numbers.ct)], lp := [], un := [], ks := [], keep := [0, 2, 3] }
theorem shape_Width.ev (N : Nat) (f : Int) : evFunc (shape_Width.cfg N) N Tryz.f209 [.v ((dI .u8).enc f)] [] 0 (dI .i64).dec = shape_Width.g f := by kernel_rfl
theorem shape_Width.hl (N : Nat) : ∀ body, Tryz.f209.body = some body → ∀ b ∈ loopsOf body, ∀ lc, lkL (firstReg b) (shape_Width.cfg N).lp = some lc → LCOk (shape_Width.cfg N) N b lc := HL_nil rfl
theorem shape_Width.cfg_ok (N : Nat) : CfgOk Tryz.prog (shape_Width.cfg N) := mkCfg (.cons shape_numbers.ok .nil) _ _ _ _
theorem shape_Width.ok : CTok Tryz.prog 209 shape_Width.ct := CTok.of1 Tryz.call209 mix Tryz.func209 (Nat.le_of_ble_eq_true (by kernel_rfl)) (fun f res hres _ => ⟨shape_Width.cfg fuel, fuel, shape_Width.cfg_ok fuel, shape_Width.hl fuel, (shape_Width.ev fuel f).trans hres⟩)

def shape_Fits.cfg (_N : Nat) : Cfg := { T := tys, EQ := eqs, C := [(209, shape_Width.ct)], lp := [], un := [], ks := [], keep := [0, 1, 3, 4, 5, 6, 8, 13] }
theorem shape_Fits.ev (N : Nat) (f : Int) (b : B2) : evFunc (shape_Fits.cfg N) N Tryz.f128 [.v ((dI .u8).enc f), .v (dBits.enc b)] [] 0 dB.dec = shape_Fits.g f b := by kernel_rfl
theorem shape_Fits.hl (N : Nat) : ∀ body, Tryz.f128.body = some body → ∀ b ∈ loopsOf body, ∀ lc, lkL (firstReg b) (shape_Fits.cfg N).lp = some lc → LCOk (shape_Fits.cfg N) N b lc := HL_nil rfl
theorem shape_Fits.cfg_ok (N : Nat) : CfgOk Tryz.prog (shape_Fits.cfg N) := mkCfg (.cons shape_Width.ok .nil) _ _ _ _
theorem shape_Fits.ok : CTok Tryz.prog 128 shape_Fits.ct := CTok.of2 Tryz.call128 mix Tryz.func128 (Nat.le_of_ble_eq_true (by kernel_rfl)) (fun f b res hres _ _ => ⟨shape_Fits.cfg fuel, fuel, shape_Fits.cfg_ok fuel, shape_Fits.hl fuel, (shape_Fits.ev fuel f b).trans hres⟩)

def shape_Emax.cfg (_N : Nat) : Cfg := { T := tys, EQ := eqs, C := [(203, shape_numbers.ct)], lp := [], un := [], ks := [], keep := [0, 2, 5] }
theorem shape_Emax.ev (N : Nat) (f : Int) : evFunc (shape_Emax.cfg N) N Tryz.f172 [.v ((dI .u8).enc f)] [] 0 (dI .i64).dec = shape_Emax.g f := by kernel_rfl
theorem shape_Emax.hl (N : Nat) : ∀ body, Tryz.f172.body = some body → ∀ b ∈ loopsOf body, ∀ lc, lkL (firstReg b) (shape_Emax.cfg N).lp = some lc → LCOk (shape_Emax.cfg N) N b lc := HL_nil rfl
theorem shape_Emax.cfg_ok (N : Nat) : CfgOk Tryz.prog (shape_Emax.cfg N) := mkCfg (.cons shape_numbers.ok .nil) _ _ _ _
theorem shape_Emax.ok : CTok Tryz.prog 172 shape_Emax.ct := CTok.of1 Tryz.call172 mix Tryz.func172 (Nat.le_of_ble_eq_true (by kernel_rfl)) (fun f res hres _ => ⟨shape_Emax.cfg fuel, fuel, shape_Emax.cfg_ok fuel, shape_Emax.hl fuel, (shape_Emax.ev fuel f).trans hres⟩)

def kind_fields.cfg (_N : Nat) : Cfg := { T := tys, EQ := eqs, C := [(116, shape_Precision.ct), (209, shape_Width.ct), (210, wide_Right.ct), (215, wide_Bit.ct), (216, wide_And.ct), (217, wide_Mask.ct), (237, wide_OfBits.ct)], lp := [], un := [], ks := [], keep := [0, 1, 3, 4, 5, 6, 7, 8, 9, 10] }
theorem kind_fields.ev (N : Nat) (f : Int) (b : B2) : evFunc (kind_fields.cfg N) N Tryz.f184 [.v ((dI .u8).enc f), .v (dBits.enc b)] [] 0 (dT3 dB (dI .i64) dW).dec = kind_fields.g f b := by kernel_rfl
theorem kind_fields.hl (N : Nat) : ∀ body, Tryz.f184.body = some body → ∀ b ∈ loopsOf body, ∀ lc, lkL (firstReg b) (kind_fields.cfg N).lp = some lc → LCOk (kind_fields.cfg N) N b lc := HL_nil rfl
theorem kind_fields.cfg_ok (N : Nat) : CfgOk Tryz.prog (kind_fields.cfg N) := mkCfg (.cons shape_Precision.ok (.cons shape_Width.ok (.cons wide_Right.ok (.cons wide_Bit.ok (.cons wide_And.ok (.cons wide_Mask.ok (.cons wide_OfBits.ok .nil))))))) _ _ _ _
theorem kind_fields.ok : CTok Tryz.prog 184 kind_fields.ct := CTok.of2 Tryz.call184 mix Tryz.func184 (Nat.le_of_ble_eq_true (by kernel_rfl)) (fun f b res hres _ _ => ⟨kind_fields.cfg fuel, fuel, kind_fields.cfg_ok fuel, kind_fields.hl fuel, (kind_fields.ev fuel f b).trans hres⟩)

def kind_class.cfg (_N : Nat) : Cfg := { T := tys, EQ := eqs, C := [(116, shape_Precision.ct), (172, shape_Emax.ct), (184, kind_fields.ct), (215, wide_Bit.ct)], lp := [], un := [], ks := [], keep := [0, 1, 3, 4, 5, 6, 7, 8, 19, 34, 35, 49, 52, 55] }
theorem kind_class.ev (N : Nat) (f : Int) (b : B2) : evFunc (kind_class.cfg N) N Tryz.f154 [.v ((dI .u8).enc f), .v (dBits.enc b)] [] 0 (dI .u8).dec = kind_class.g f b := by kernel_rfl
theorem kind_class.hl (N : Nat) : ∀ body, Tryz.f154.body = some body → ∀ b ∈ loopsOf body, ∀ lc, lkL (firstReg b) (kind_class.cfg N).lp = some lc → LCOk (kind_class.cfg N) N b lc := HL_nil rfl
theorem kind_class.cfg_ok (N : Nat) : CfgOk Tryz.prog (kind_class.cfg N) := mkCfg (.cons shape_Precision.ok (.cons shape_Emax.ok (.cons kind_fields.ok (.cons wide_Bit.ok .nil)))) _ _ _ _
theorem kind_class.ok : CTok Tryz.prog 154 kind_class.ct := CTok.of2 Tryz.call154 mix Tryz.func154 (Nat.le_of_ble_eq_true (by kernel_rfl)) (fun f b res hres _ _ => ⟨kind_class.cfg fuel, fuel, kind_class.cfg_ok fuel, kind_class.hl fuel, (kind_class.ev fuel f b).trans hres⟩)

def shape_Check.cfg (_N : Nat) : Cfg := { T := tys, EQ := eqs, C := [], lp := [], un := [], ks := [], keep := [0, 2, 4] }
theorem shape_Check.ev (N : Nat) (f : Int) : evFunc (shape_Check.cfg N) N Tryz.f86 [.v ((dI .u8).enc f)] [] 0 (dI .i64).dec = shape_Check.g f := by kernel_rfl
theorem shape_Check.hl (N : Nat) : ∀ body, Tryz.f86.body = some body → ∀ b ∈ loopsOf body, ∀ lc, lkL (firstReg b) (shape_Check.cfg N).lp = some lc → LCOk (shape_Check.cfg N) N b lc := HL_nil rfl
theorem shape_Check.cfg_ok (N : Nat) : CfgOk Tryz.prog (shape_Check.cfg N) := mkCfg .nil _ _ _ _
theorem shape_Check.ok : CTok Tryz.prog 86 shape_Check.ct := CTok.of1 Tryz.call86 mix Tryz.func86 (Nat.le_of_ble_eq_true (by kernel_rfl)) (fun f res hres _ => ⟨shape_Check.cfg fuel, fuel, shape_Check.cfg_ok fuel, shape_Check.hl fuel, (shape_Check.ev fuel f).trans hres⟩)

def shape_Emin.cfg (_N : Nat) : Cfg := { T := tys, EQ := eqs, C := [(86, shape_Check.ct), (172, shape_Emax.ct)], lp := [], un := [], ks := [], keep := [0, 2, 5] }
theorem shape_Emin.ev (N : Nat) (f : Int) : evFunc (shape_Emin.cfg N) N Tryz.f171 [.v ((dI .u8).enc f)] [] 0 (dI .i64).dec = shape_Emin.g f := by kernel_rfl
theorem shape_Emin.hl (N : Nat) : ∀ body, Tryz.f171.body = some body → ∀ b ∈ loopsOf body, ∀ lc, lkL (firstReg b) (shape_Emin.cfg N).lp = some lc → LCOk (shape_Emin.cfg N) N b lc := HL_nil rfl
theorem shape_Emin.cfg_ok (N : Nat) : CfgOk Tryz.prog (shape_Emin.cfg N) := mkCfg (.cons shape_Check.ok (.cons shape_Emax.ok .nil)) _ _ _ _
theorem shape_Emin.ok : CTok Tryz.prog 171 shape_Emin.ct := CTok.of1 Tryz.call171 mix Tryz.func171 (Nat.le_of_ble_eq_true (by kernel_rfl)) (fun f res hres _ => ⟨shape_Emin.cfg fuel, fuel, shape_Emin.cfg_ok fuel, shape_Emin.hl fuel, (shape_Emin.ev fuel f).trans hres⟩)

def kind_Unpack.cfg (_N : Nat) : Cfg := { T := tys, EQ := eqs, C := [(116, shape_Precision.ct), (128, shape_Fits.ct), (154, kind_class.ct), (171, shape_Emin.ct), (184, kind_fields.ct)], lp := [], un := [], ks := [], keep := [0, 1, 3, 4, 5, 6, 8, 9, 10, 14, 30, 31, 34, 37] }
theorem kind_Unpack.ev (N : Nat) (f : Int) (b : B2) : evFunc (kind_Unpack.cfg N) N Tryz.f85 [.v ((dI .u8).enc f), .v (dBits.enc b)] [] 0 (dT2 dPts (dI .i64)).dec = kind_Unpack.g f b := by kernel_rfl
theorem kind_Unpack.hl (N : Nat) : ∀ body, Tryz.f85.body = some body → ∀ b ∈ loopsOf body, ∀ lc, lkL (firstReg b) (kind_Unpack.cfg N).lp = some lc → LCOk (kind_Unpack.cfg N) N b lc := HL_nil rfl
theorem kind_Unpack.cfg_ok (N : Nat) : CfgOk Tryz.prog (kind_Unpack.cfg N) := mkCfg (.cons shape_Precision.ok (.cons shape_Fits.ok (.cons kind_class.ok (.cons shape_Emin.ok (.cons kind_fields.ok .nil))))) _ _ _ _
theorem kind_Unpack.ok : CTok Tryz.prog 85 kind_Unpack.ct := CTok.of2 Tryz.call85 mix Tryz.func85 (Nat.le_of_ble_eq_true (by kernel_rfl)) (fun f b res hres _ _ => ⟨kind_Unpack.cfg fuel, fuel, kind_Unpack.cfg_ok fuel, kind_Unpack.hl fuel, (kind_Unpack.ev fuel f b).trans hres⟩)

def shape_CheckMode.cfg (_N : Nat) : Cfg := { T := tys, EQ := eqs, C := [], lp := [], un := [], ks := [], keep := [0, 2, 4] }
theorem shape_CheckMode.ev (N : Nat) (m_ : Int) : evFunc (shape_CheckMode.cfg N) N Tryz.f87 [.v ((dI .u8).enc m_)] [] 0 (dI .i64).dec = shape_CheckMode.g m_ := by kernel_rfl
theorem shape_CheckMode.hl (N : Nat) : ∀ body, Tryz.f87.body = some body → ∀ b ∈ loopsOf body, ∀ lc, lkL (firstReg b) (shape_CheckMode.cfg N).lp = some lc → LCOk (shape_CheckMode.cfg N) N b lc := HL_nil rfl
theorem shape_CheckMode.cfg_ok (N : Nat) : CfgOk Tryz.prog (shape_CheckMode.cfg N) := mkCfg .nil _ _ _ _
theorem shape_CheckMode.ok : CTok Tryz.prog 87 shape_CheckMode.ct := CTok.of1 Tryz.call87 mix Tryz.func87 (Nat.le_of_ble_eq_true (by kernel_rfl)) (fun m_ res hres _ => ⟨shape_CheckMode.cfg fuel, fuel, shape_CheckMode.cfg_ok fuel, shape_CheckMode.hl fuel, (shape_CheckMode.ev fuel m_).trans hres⟩)

def kind_Class.cfg (_N : Nat) : Cfg := { T := tys, EQ := eqs, C := [(128, shape_Fits.ct), (154, kind_class.ct)], lp := [], un := [], ks := [], keep := [0, 1, 3, 4, 5, 9] }
theorem kind_Class.ev (N : Nat) (f : Int) (b : B2) : evFunc (kind_Class.cfg N) N Tryz.f58 [.v ((dI .u8).enc f), .v (dBits.enc b)] [] 0 (dT2 (dI .u8) (dI .i64)).dec = kind_Class.g f b := by kernel_rfl
theorem kind_Class.hl (N : Nat) : ∀ body, Tryz.f58.body = some body → ∀ b ∈ loopsOf body, ∀ lc, lkL (firstReg b) (kind_Class.cfg N).lp = some lc → LCOk (kind_Class.cfg N) N b lc := HL_nil rfl
theorem kind_Class.cfg_ok (N : Nat) : CfgOk Tryz.prog (kind_Class.cfg N) := mkCfg (.cons shape_Fits.ok (.cons kind_class.ok .nil)) _ _ _ _
theorem kind_Class.ok : CTok Tryz.prog 58 kind_Class.ct := CTok.of2 Tryz.call58 mix Tryz.func58 (Nat.le_of_ble_eq_true (by kernel_rfl)) (fun f b res hres _ _ => ⟨kind_Class.cfg fuel, fuel, kind_Class.cfg_ok fuel, kind_Class.hl fuel, (kind_Class.ev fuel f b).trans hres⟩)

def ref07_Right.cfg (_N : Nat) : Cfg := { T := tys, EQ := eqs, C := [], lp := [], un := [], ks := [], keep := [0, 2] }
theorem ref07_Right.ev (N : Nat) (f : Int) : evFunc (ref07_Right.cfg N) N Tryz.f76 [.v ((dI .u8).enc f)] [] 0 dB.dec = ref07_Right.g f := by kernel_rfl
theorem ref07_Right.hl (N : Nat) : ∀ body, Tryz.f76.body = some body → ∀ b ∈ loopsOf body, ∀ lc, lkL (firstReg b) (ref07_Right.cfg N).lp = some lc → LCOk (ref07_Right.cfg N) N b lc := HL_nil rfl
theorem ref07_Right.cfg_ok (N : Nat) : CfgOk Tryz.prog (ref07_Right.cfg N) := mkCfg .nil _ _ _ _
theorem ref07_Right.ok : CTok Tryz.prog 76 ref07_Right.ct := CTok.of1 Tryz.call76 mix Tryz.func76 (Nat.le_of_ble_eq_true (by kernel_rfl)) (fun f res hres _ => ⟨ref07_Right.cfg fuel, fuel, ref07_Right.cfg_ok fuel, ref07_Right.hl fuel, (ref07_Right.ev fuel f).trans hres⟩)

def ref07_Width.cfg (_N : Nat) : Cfg := { T := tys, EQ := eqs, C := [], lp := [], un := [], ks := [], keep := [0, 2, 3, 4, 6, 8, 10] }
theorem ref07_Width.ev (N : Nat) (f : Int) : evFunc (ref07_Width.cfg N) N Tryz.f157 [.v ((dI .u8).enc f)] [] 0 (dI .i64).dec = ref07_Width.g f := by kernel_rfl
theorem ref07_Width.hl (N : Nat) : ∀ body, Tryz.f157.body = some body → ∀ b ∈ loopsOf body, ∀ lc, lkL (firstReg b) (ref07_Width.cfg N).lp = some lc → LCOk (ref07_Width.cfg N) N b lc := HL_nil rfl
theorem ref07_Width.cfg_ok (N : Nat) : CfgOk Tryz.prog (ref07_Width.cfg N) := mkCfg .nil _ _ _ _
theorem ref07_Width.ok : CTok Tryz.prog 157 ref07_Width.ct := CTok.of1 Tryz.call157 mix Tryz.func157 (Nat.le_of_ble_eq_true (by kernel_rfl)) (fun f res hres _ => ⟨ref07_Width.cfg fuel, fuel, ref07_Width.cfg_ok fuel, ref07_Width.hl fuel, (ref07_Width.ev fuel f).trans hres⟩)

def ref07_Fits.cfg (_N : Nat) : Cfg := { T := tys, EQ := eqs, C := [(76, ref07_Right.ct), (155, ref02_Len.ct), (156, ref02_OfBits.ct), (157, ref07_Width.ct)], lp := [], un := [], ks := [], keep := [0, 1, 3, 4] }
theorem ref07_Fits.ev (N : Nat) (f : Int) (b : B2) : evFunc (ref07_Fits.cfg N) N Tryz.f62 [.v ((dI .u8).enc f), .v (dBits.enc b)] [] 0 dB.dec = ref07_Fits.g f b := by kernel_rfl
theorem ref07_Fits.hl (N : Nat) : ∀ body, Tryz.f62.body = some body → ∀ b ∈ loopsOf body, ∀ lc, lkL (firstReg b) (ref07_Fits.cfg N).lp = some lc → LCOk (ref07_Fits.cfg N) N b lc := HL_nil rfl
theorem ref07_Fits.cfg_ok (N : Nat) : CfgOk Tryz.prog (ref07_Fits.cfg N) := mkCfg (.cons ref07_Right.ok (.cons ref02_Len.ok (.cons ref02_OfBits.ok (.cons ref07_Width.ok .nil)))) _ _ _ _
theorem ref07_Fits.ok : CTok Tryz.prog 62 ref07_Fits.ct := CTok.of2 Tryz.call62 mix Tryz.func62 (Nat.le_of_ble_eq_true (by kernel_rfl)) (fun f b res hres _ _ => ⟨ref07_Fits.cfg fuel, fuel, ref07_Fits.cfg_ok fuel, ref07_Fits.hl fuel, (ref07_Fits.ev fuel f b).trans hres⟩)

def ref07_RightMode.cfg (_N : Nat) : Cfg := { T := tys, EQ := eqs, C := [], lp := [], un := [], ks := [], keep := [0, 2] }
theorem ref07_RightMode.ev (N : Nat) (m_ : Int) : evFunc (ref07_RightMode.cfg N) N Tryz.f63 [.v ((dI .u8).enc m_)] [] 0 dB.dec = ref07_RightMode.g m_ := by kernel_rfl
theorem ref07_RightMode.hl (N : Nat) : ∀ body, Tryz.f63.body = some body → ∀ b ∈ loopsOf body, ∀ lc, lkL (firstReg b) (ref07_RightMode.cfg N).lp = some lc → LCOk (ref07_RightMode.cfg N) N b lc := HL_nil rfl
theorem ref07_RightMode.cfg_ok (N : Nat) : CfgOk Tryz.prog (ref07_RightMode.cfg N) := mkCfg .nil _ _ _ _
theorem ref07_RightMode.ok : CTok Tryz.prog 63 ref07_RightMode.ct := CTok.of1 Tryz.call63 mix Tryz.func63 (Nat.le_of_ble_eq_true (by kernel_rfl)) (fun m_ res hres _ => ⟨ref07_RightMode.cfg fuel, fuel, ref07_RightMode.cfg_ok fuel, ref07_RightMode.hl fuel, (ref07_RightMode.ev fuel m_).trans hres⟩)

def ref07_Precision.cfg (_N : Nat) : Cfg := { T := tys, EQ := eqs, C := [], lp := [], un := [], ks := [], keep := [0, 2, 3, 4, 6, 8, 10] }
theorem ref07_Precision.ev (N : Nat) (f : Int) : evFunc (ref07_Precision.cfg N) N Tryz.f190 [.v ((dI .u8).enc f)] [] 0 (dI .i64).dec = ref07_Precision.g f := by kernel_rfl
theorem ref07_Precision.hl (N : Nat) : ∀ body, Tryz.f190.body = some body → ∀ b ∈ loopsOf body, ∀ lc, lkL (firstReg b) (ref07_Precision.cfg N).lp = some lc → LCOk (ref07_Precision.cfg N) N b lc := HL_nil rfl
theorem ref07_Precision.cfg_ok (N : Nat) : CfgOk Tryz.prog (ref07_Precision.cfg N) := mkCfg .nil _ _ _ _
theorem ref07_Precision.ok : CTok Tryz.prog 190 ref07_Precision.ct := CTok.of1 Tryz.call190 mix Tryz.func190 (Nat.le_of_ble_eq_true (by kernel_rfl)) (fun f res hres _ => ⟨ref07_Precision.cfg fuel, fuel, ref07_Precision.cfg_ok fuel, ref07_Precision.hl fuel, (ref07_Precision.ev fuel f).trans hres⟩)

def ref07_Emax.cfg (_N : Nat) : Cfg := { T := tys, EQ := eqs, C := [], lp := [], un := [], ks := [], keep := [0, 2, 3, 4, 6, 8, 10] }
theorem ref07_Emax.ev (N : Nat) (f : Int) : evFunc (ref07_Emax.cfg N) N Tryz.f196 [.v ((dI .u8).enc f)] [] 0 (dI .i64).dec = ref07_Emax.g f := by kernel_rfl
theorem ref07_Emax.hl (N : Nat) : ∀ body, Tryz.f196.body = some body → ∀ b ∈ loopsOf body, ∀ lc, lkL (firstReg b) (ref07_Emax.cfg N).lp = some lc → LCOk (ref07_Emax.cfg N) N b lc := HL_nil rfl
theorem ref07_Emax.cfg_ok (N : Nat) : CfgOk Tryz.prog (ref07_Emax.cfg N) := mkCfg .nil _ _ _ _
theorem ref07_Emax.ok : CTok Tryz.prog 196 ref07_Emax.ct := CTok.of1 Tryz.call196 mix Tryz.func196 (Nat.le_of_ble_eq_true (by kernel_rfl)) (fun f res hres _ => ⟨ref07_Emax.cfg fuel, fuel, ref07_Emax.cfg_ok fuel, ref07_Emax.hl fuel, (ref07_Emax.ev fuel f).trans hres⟩)

def ref07_Ones.cfg (_N : Nat) : Cfg := { T := tys, EQ := eqs, C := [(196, ref07_Emax.ct)], lp := [], un := [], ks := [], keep := [0, 2] }
theorem ref07_Ones.ev (N : Nat) (f : Int) : evFunc (ref07_Ones.cfg N) N Tryz.f192 [.v ((dI .u8).enc f)] [] 0 (dI .i64).dec = ref07_Ones.g f := by kernel_rfl
theorem ref07_Ones.hl (N : Nat) : ∀ body, Tryz.f192.body = some body → ∀ b ∈ loopsOf body, ∀ lc, lkL (firstReg b) (ref07_Ones.cfg N).lp = some lc → LCOk (ref07_Ones.cfg N) N b lc := HL_nil rfl
theorem ref07_Ones.cfg_ok (N : Nat) : CfgOk Tryz.prog (ref07_Ones.cfg N) := mkCfg (.cons ref07_Emax.ok .nil) _ _ _ _
theorem ref07_Ones.ok : CTok Tryz.prog 192 ref07_Ones.ct := CTok.of1 Tryz.call192 mix Tryz.func192 (Nat.le_of_ble_eq_true (by kernel_rfl)) (fun f res hres _ => ⟨ref07_Ones.cfg fuel, fuel, ref07_Ones.cfg_ok fuel, ref07_Ones.hl fuel, (ref07_Ones.ev fuel f).trans hres⟩)

def ref07_Fields.cfg (_N : Nat) : Cfg := { T := tys, EQ := eqs, C := [(156, ref02_OfBits.ct), (157, ref07_Width.ct), (190, ref07_Precision.ct), (192, ref07_Ones.ct), (198, ref02_And.ct), (199, ref02_Mask.ct), (219, ref02_Bit.ct), (220, ref02_Right.ct)], lp := [], un := [], ks := [], keep := [0, 1, 3, 4, 5, 6, 7, 8, 9, 10] }
theorem ref07_Fields.ev (N : Nat) (f : Int) (b : B2) : evFunc (ref07_Fields.cfg N) N Tryz.f158 [.v ((dI .u8).enc f), .v (dBits.enc b)] [] 0 (dT3 dB (dI .i64) dW).dec = ref07_Fields.g f b := by kernel_rfl
theorem ref07_Fields.hl (N : Nat) : ∀ body, Tryz.f158.body = some body → ∀ b ∈ loopsOf body, ∀ lc, lkL (firstReg b) (ref07_Fields.cfg N).lp = some lc → LCOk (ref07_Fields.cfg N) N b lc := HL_nil rfl
theorem ref07_Fields.cfg_ok (N : Nat) : CfgOk Tryz.prog (ref07_Fields.cfg N) := mkCfg (.cons ref02_OfBits.ok (.cons ref07_Width.ok (.cons ref07_Precision.ok (.cons ref07_Ones.ok (.cons ref02_And.ok (.cons ref02_Mask.ok (.cons ref02_Bit.ok (.cons ref02_Right.ok .nil)))))))) _ _ _ _
theorem ref07_Fields.ok : CTok Tryz.prog 158 ref07_Fields.ct := CTok.of2 Tryz.call158 mix Tryz.func158 (Nat.le_of_ble_eq_true (by kernel_rfl)) (fun f b res hres _ _ => ⟨ref07_Fields.cfg fuel, fuel, ref07_Fields.cfg_ok fuel, ref07_Fields.hl fuel, (ref07_Fields.ev fuel f b).trans hres⟩)

def ref08_Sign.cfg (_N : Nat) : Cfg := { T := tys, EQ := eqs, C := [(62, ref07_Fits.ct), (158, ref07_Fields.ct)], lp := [], un := [], ks := [], keep := [0, 1, 3, 4, 5, 11] }
theorem ref08_Sign.ev (N : Nat) (f : Int) (b : B2) : evFunc (ref08_Sign.cfg N) N Tryz.f64 [.v ((dI .u8).enc f), .v (dBits.enc b)] [] 0 dB.dec = ref08_Sign.g f b := by kernel_rfl
theorem ref08_Sign.hl (N : Nat) : ∀ body, Tryz.f64.body = some body → ∀ b ∈ loopsOf body, ∀ lc, lkL (firstReg b) (ref08_Sign.cfg N).lp = some lc → LCOk (ref08_Sign.cfg N) N b lc := HL_nil rfl
theorem ref08_Sign.cfg_ok (N : Nat) : CfgOk Tryz.prog (ref08_Sign.cfg N) := mkCfg (.cons ref07_Fits.ok (.cons ref07_Fields.ok .nil)) _ _ _ _
theorem ref08_Sign.ok : CTok Tryz.prog 64 ref08_Sign.ct := CTok.of2 Tryz.call64 mix Tryz.func64 (Nat.le_of_ble_eq_true (by kernel_rfl)) (fun f b res hres _ _ => ⟨ref08_Sign.cfg fuel, fuel, ref08_Sign.cfg_ok fuel, ref08_Sign.hl fuel, (ref08_Sign.ev fuel f b).trans hres⟩)

def ref08_Class.cfg (_N : Nat) : Cfg := { T := tys, EQ := eqs, C := [(158, ref07_Fields.ct), (190, ref07_Precision.ct), (192, ref07_Ones.ct), (219, ref02_Bit.ct)], lp := [], un := [], ks := [], keep := [0, 1, 3, 4, 5, 6, 7, 18, 21, 26, 27, 29, 30, 33, 34, 35] }
theorem ref08_Class.ev (N : Nat) (f : Int) (b : B2) : evFunc (ref08_Class.cfg N) N Tryz.f159 [.v ((dI .u8).enc f), .v (dBits.enc b)] [] 0 (dI .u8).dec = ref08_Class.g f b := by kernel_rfl
theorem ref08_Class.hl (N : Nat) : ∀ body, Tryz.f159.body = some body → ∀ b ∈ loopsOf body, ∀ lc, lkL (firstReg b) (ref08_Class.cfg N).lp = some lc → LCOk (ref08_Class.cfg N) N b lc := HL_nil rfl
theorem ref08_Class.cfg_ok (N : Nat) : CfgOk Tryz.prog (ref08_Class.cfg N) := mkCfg (.cons ref07_Fields.ok (.cons ref07_Precision.ok (.cons ref07_Ones.ok (.cons ref02_Bit.ok .nil)))) _ _ _ _
theorem ref08_Class.ok : CTok Tryz.prog 159 ref08_Class.ct := CTok.of2 Tryz.call159 mix Tryz.func159 (Nat.le_of_ble_eq_true (by kernel_rfl)) (fun f b res hres _ _ => ⟨ref08_Class.cfg fuel, fuel, ref08_Class.cfg_ok fuel, ref08_Class.hl fuel, (ref08_Class.ev fuel f b).trans hres⟩)

def ref08_IsNaN.cfg (_N : Nat) : Cfg := { T := tys, EQ := eqs, C := [(159, ref08_Class.ct)], lp := [], un := [], ks := [], keep := [0, 1, 3, 4] }
theorem ref08_IsNaN.ev (N : Nat) (f : Int) (b : B2) : evFunc (ref08_IsNaN.cfg N) N Tryz.f65 [.v ((dI .u8).enc f), .v (dBits.enc b)] [] 0 dB.dec = ref08_IsNaN.g f b := by kernel_rfl
theorem ref08_IsNaN.hl (N : Nat) : ∀ body, Tryz.f65.body = some body → ∀ b ∈ loopsOf body, ∀ lc, lkL (firstReg b) (ref08_IsNaN.cfg N).lp = some lc → LCOk (ref08_IsNaN.cfg N) N b lc := HL_nil rfl
theorem ref08_IsNaN.cfg_ok (N : Nat) : CfgOk Tryz.prog (ref08_IsNaN.cfg N) := mkCfg (.cons ref08_Class.ok .nil) _ _ _ _
theorem ref08_IsNaN.ok : CTok Tryz.prog 65 ref08_IsNaN.ct := CTok.of2 Tryz.call65 mix Tryz.func65 (Nat.le_of_ble_eq_true (by kernel_rfl)) (fun f b res hres _ _ => ⟨ref08_IsNaN.cfg fuel, fuel, ref08_IsNaN.cfg_ok fuel, ref08_IsNaN.hl fuel, (ref08_IsNaN.ev fuel f b).trans hres⟩)

def ref08_IsInf.cfg (_N : Nat) : Cfg := { T := tys, EQ := eqs, C := [(159, ref08_Class.ct)], lp := [], un := [], ks := [], keep := [0, 1, 3, 4, 5] }
theorem ref08_IsInf.ev (N : Nat) (f : Int) (b : B2) : evFunc (ref08_IsInf.cfg N) N Tryz.f67 [.v ((dI .u8).enc f), .v (dBits.enc b)] [] 0 dB.dec = ref08_IsInf.g f b := by kernel_rfl
theorem ref08_IsInf.hl (N : Nat) : ∀ body, Tryz.f67.body = some body → ∀ b ∈ loopsOf body, ∀ lc, lkL (firstReg b) (ref08_IsInf.cfg N).lp = some lc → LCOk (ref08_IsInf.cfg N) N b lc := HL_nil rfl
theorem ref08_IsInf.cfg_ok (N : Nat) : CfgOk Tryz.prog (ref08_IsInf.cfg N) := mkCfg (.cons ref08_Class.ok .nil) _ _ _ _
theorem ref08_IsInf.ok : CTok Tryz.prog 67 ref08_IsInf.ct := CTok.of2 Tryz.call67 mix Tryz.func67 (Nat.le_of_ble_eq_true (by kernel_rfl)) (fun f b res hres _ _ => ⟨ref08_IsInf.cfg fuel, fuel, ref08_IsInf.cfg_ok fuel, ref08_IsInf.hl fuel, (ref08_IsInf.ev fuel f b).trans hres⟩)

def ref07_Emin.cfg (_N : Nat) : Cfg := { T := tys, EQ := eqs, C := [(76, ref07_Right.ct), (196, ref07_Emax.ct)], lp := [], un := [], ks := [], keep := [0, 2, 5] }
theorem ref07_Emin.ev (N : Nat) (f : Int) : evFunc (ref07_Emin.cfg N) N Tryz.f197 [.v ((dI .u8).enc f)] [] 0 (dI .i64).dec = ref07_Emin.g f := by kernel_rfl
theorem ref07_Emin.hl (N : Nat) : ∀ body, Tryz.f197.body = some body → ∀ b ∈ loopsOf body, ∀ lc, lkL (firstReg b) (ref07_Emin.cfg N).lp = some lc → LCOk (ref07_Emin.cfg N) N b lc := HL_nil rfl
theorem ref07_Emin.cfg_ok (N : Nat) : CfgOk Tryz.prog (ref07_Emin.cfg N) := mkCfg (.cons ref07_Right.ok (.cons ref07_Emax.ok .nil)) _ _ _ _
theorem ref07_Emin.ok : CTok Tryz.prog 197 ref07_Emin.ct := CTok.of1 Tryz.call197 mix Tryz.func197 (Nat.le_of_ble_eq_true (by kernel_rfl)) (fun f res hres _ => ⟨ref07_Emin.cfg fuel, fuel, ref07_Emin.cfg_ok fuel, ref07_Emin.hl fuel, (ref07_Emin.ev fuel f).trans hres⟩)

def ref08_Unpack.cfg (_N : Nat) : Cfg := { T := tys, EQ := eqs, C := [(158, ref07_Fields.ct), (159, ref08_Class.ct), (188, ref02_Left.ct), (189, ref02_Of.ct), (190, ref07_Precision.ct), (196, ref07_Emax.ct), (197, ref07_Emin.ct), (239, ref02_Add.ct)], lp := [], un := [], ks := [], keep := [0, 1, 3, 4, 5, 7, 8, 9, 10, 26, 27, 32, 43] }
theorem ref08_Unpack.ev (N : Nat) (f : Int) (b : B2) : evFunc (ref08_Unpack.cfg N) N Tryz.f193 [.v ((dI .u8).enc f), .v (dBits.enc b)] [] 0 dPts.dec = ref08_Unpack.g f b := by kernel_rfl
theorem ref08_Unpack.hl (N : Nat) : ∀ body, Tryz.f193.body = some body → ∀ b ∈ loopsOf body, ∀ lc, lkL (firstReg b) (ref08_Unpack.cfg N).lp = some lc → LCOk (ref08_Unpack.cfg N) N b lc := HL_nil rfl
theorem ref08_Unpack.cfg_ok (N : Nat) : CfgOk Tryz.prog (ref08_Unpack.cfg N) := mkCfg (.cons ref07_Fields.ok (.cons ref08_Class.ok (.cons ref02_Left.ok (.cons ref02_Of.ok (.cons ref07_Precision.ok (.cons ref07_Emax.ok (.cons ref07_Emin.ok (.cons ref02_Add.ok .nil)))))))) _ _ _ _
theorem ref08_Unpack.ok : CTok Tryz.prog 193 ref08_Unpack.ct := CTok.of2 Tryz.call193 mix Tryz.func193 (Nat.le_of_ble_eq_true (by kernel_rfl)) (fun f b res hres _ _ => ⟨ref08_Unpack.cfg fuel, fuel, ref08_Unpack.cfg_ok fuel, ref08_Unpack.hl fuel, (ref08_Unpack.ev fuel f b).trans hres⟩)

def shape_at.cfg (_N : Nat) : Cfg := { T := tys, EQ := eqs, C := [], lp := [], un := [], ks := [], keep := [0, 1, 4, 5, 7, 20] }
theorem shape_at.ev (N : Nat) (x : Int) (n : Int) : evFunc (shape_at.cfg N) N Tryz.f185 [.v ((dI .u64).enc x), .v ((dI .i64).enc n)] [] 0 dBits.dec = shape_at.g x n := by kernel_rfl
theorem shape_at.hl (N : Nat) : ∀ body, Tryz.f185.body = some body → ∀ b ∈ loopsOf body, ∀ lc, lkL (firstReg b) (shape_at.cfg N).lp = some lc → LCOk (shape_at.cfg N) N b lc := HL_nil rfl
theorem shape_at.cfg_ok (N : Nat) : CfgOk Tryz.prog (shape_at.cfg N) := mkCfg .nil _ _ _ _
theorem shape_at.ok : CTok Tryz.prog 185 shape_at.ct := CTok.of2 Tryz.call185 mix Tryz.func185 (Nat.le_of_ble_eq_true (by kernel_rfl)) (fun x n res hres _ _ => ⟨shape_at.cfg fuel, fuel, shape_at.cfg_ok fuel, shape_at.hl fuel, (shape_at.ev fuel x n).trans hres⟩)

def shape_with.cfg (_N : Nat) : Cfg := { T := tys, EQ := eqs, C := [(86, shape_Check.ct), (185, shape_at.ct), (209, shape_Width.ct)], lp := [], un := [], ks := [], keep := [0, 1, 2, 4, 6, 7, 10, 12] }
theorem shape_with.ev (N : Nat) (f : Int) (b : B2) (neg : Bool) : evFunc (shape_with.cfg N) N Tryz.f186 [.v ((dI .u8).enc f), .v (dBits.enc b), .v (dB.enc neg)] [] 0 dBits.dec = shape_with.g f b neg := by kernel_rfl
theorem shape_with.hl (N : Nat) : ∀ body, Tryz.f186.body = some body → ∀ b ∈ loopsOf body, ∀ lc, lkL (firstReg b) (shape_with.cfg N).lp = some lc → LCOk (shape_with.cfg N) N b lc := HL_nil rfl
theorem shape_with.cfg_ok (N : Nat) : CfgOk Tryz.prog (shape_with.cfg N) := mkCfg (.cons shape_Check.ok (.cons shape_at.ok (.cons shape_Width.ok .nil))) _ _ _ _
theorem shape_with.ok : CTok Tryz.prog 186 shape_with.ct := CTok.of3 Tryz.call186 mix Tryz.func186 (Nat.le_of_ble_eq_true (by kernel_rfl)) (fun f b neg res hres _ _ _ => ⟨shape_with.cfg fuel, fuel, shape_with.cfg_ok fuel, shape_with.hl fuel, (shape_with.ev fuel f b neg).trans hres⟩)

def shape_Zero.cfg (_N : Nat) : Cfg := { T := tys, EQ := eqs, C := [(186, shape_with.ct)], lp := [], un := [], ks := [], keep := [0, 1, 4] }
theorem shape_Zero.ev (N : Nat) (f : Int) (neg : Bool) : evFunc (shape_Zero.cfg N) N Tryz.f105 [.v ((dI .u8).enc f), .v (dB.enc neg)] [] 0 dBits.dec = shape_Zero.g f neg := by kernel_rfl
theorem shape_Zero.hl (N : Nat) : ∀ body, Tryz.f105.body = some body → ∀ b ∈ loopsOf body, ∀ lc, lkL (firstReg b) (shape_Zero.cfg N).lp = some lc → LCOk (shape_Zero.cfg N) N b lc := HL_nil rfl
theorem shape_Zero.cfg_ok (N : Nat) : CfgOk Tryz.prog (shape_Zero.cfg N) := mkCfg (.cons shape_with.ok .nil) _ _ _ _
theorem shape_Zero.ok : CTok Tryz.prog 105 shape_Zero.ct := CTok.of2 Tryz.call105 mix Tryz.func105 (Nat.le_of_ble_eq_true (by kernel_rfl)) (fun f neg res hres _ _ => ⟨shape_Zero.cfg fuel, fuel, shape_Zero.cfg_ok fuel, shape_Zero.hl fuel, (shape_Zero.ev fuel f neg).trans hres⟩)

def shape_field.cfg (_N : Nat) : Cfg := { T := tys, EQ := eqs, C := [(116, shape_Precision.ct), (185, shape_at.ct)], lp := [], un := [], ks := [], keep := [0, 1, 4] }
theorem shape_field.ev (N : Nat) (f : Int) (e_ : Int) : evFunc (shape_field.cfg N) N Tryz.f187 [.v ((dI .u8).enc f), .v ((dI .i64).enc e_)] [] 0 dBits.dec = shape_field.g f e_ := by kernel_rfl
theorem shape_field.hl (N : Nat) : ∀ body, Tryz.f187.body = some body → ∀ b ∈ loopsOf body, ∀ lc, lkL (firstReg b) (shape_field.cfg N).lp = some lc → LCOk (shape_field.cfg N) N b lc := HL_nil rfl
theorem shape_field.cfg_ok (N : Nat) : CfgOk Tryz.prog (shape_field.cfg N) := mkCfg (.cons shape_Precision.ok (.cons shape_at.ok .nil)) _ _ _ _
theorem shape_field.ok : CTok Tryz.prog 187 shape_field.ct := CTok.of2 Tryz.call187 mix Tryz.func187 (Nat.le_of_ble_eq_true (by kernel_rfl)) (fun f e_ res hres _ _ => ⟨shape_field.cfg fuel, fuel, shape_field.cfg_ok fuel, shape_field.hl fuel, (shape_field.ev fuel f e_).trans hres⟩)

def shape_Inf.cfg (_N : Nat) : Cfg := { T := tys, EQ := eqs, C := [(86, shape_Check.ct), (172, shape_Emax.ct), (186, shape_with.ct), (187, shape_field.ct)], lp := [], un := [], ks := [], keep := [0, 1, 4, 7] }
theorem shape_Inf.ev (N : Nat) (f : Int) (neg : Bool) : evFunc (shape_Inf.cfg N) N Tryz.f90 [.v ((dI .u8).enc f), .v (dB.enc neg)] [] 0 dBits.dec = shape_Inf.g f neg := by kernel_rfl
theorem shape_Inf.hl (N : Nat) : ∀ body, Tryz.f90.body = some body → ∀ b ∈ loopsOf body, ∀ lc, lkL (firstReg b) (shape_Inf.cfg N).lp = some lc → LCOk (shape_Inf.cfg N) N b lc := HL_nil rfl
theorem shape_Inf.cfg_ok (N : Nat) : CfgOk Tryz.prog (shape_Inf.cfg N) := mkCfg (.cons shape_Check.ok (.cons shape_Emax.ok (.cons shape_with.ok (.cons shape_field.ok .nil)))) _ _ _ _
theorem shape_Inf.ok : CTok Tryz.prog 90 shape_Inf.ct := CTok.of2 Tryz.call90 mix Tryz.func90 (Nat.le_of_ble_eq_true (by kernel_rfl)) (fun f neg res hres _ _ => ⟨shape_Inf.cfg fuel, fuel, shape_Inf.cfg_ok fuel, shape_Inf.hl fuel, (shape_Inf.ev fuel f neg).trans hres⟩)

def shape_Greatest.cfg (_N : Nat) : Cfg := { T := tys, EQ := eqs, C := [(86, shape_Check.ct), (90, shape_Inf.ct), (186, shape_with.ct), (209, shape_Width.ct)], lp := [], un := [], ks := [], keep := [0, 1, 4, 5, 10, 14, 30] }
theorem shape_Greatest.ev (N : Nat) (f : Int) (neg : Bool) : evFunc (shape_Greatest.cfg N) N Tryz.f226 [.v ((dI .u8).enc f), .v (dB.enc neg)] [] 0 dBits.dec = shape_Greatest.g f neg := by kernel_rfl
theorem shape_Greatest.hl (N : Nat) : ∀ body, Tryz.f226.body = some body → ∀ b ∈ loopsOf body, ∀ lc, lkL (firstReg b) (shape_Greatest.cfg N).lp = some lc → LCOk (shape_Greatest.cfg N) N b lc := HL_nil rfl
theorem shape_Greatest.cfg_ok (N : Nat) : CfgOk Tryz.prog (shape_Greatest.cfg N) := mkCfg (.cons shape_Check.ok (.cons shape_Inf.ok (.cons shape_with.ok (.cons shape_Width.ok .nil)))) _ _ _ _
theorem shape_Greatest.ok : CTok Tryz.prog 226 shape_Greatest.ct := CTok.of2 Tryz.call226 mix Tryz.func226 (Nat.le_of_ble_eq_true (by kernel_rfl)) (fun f neg res hres _ _ => ⟨shape_Greatest.cfg fuel, fuel, shape_Greatest.cfg_ok fuel, shape_Greatest.hl fuel, (shape_Greatest.ev fuel f neg).trans hres⟩)

def ref07_Build.cfg (_N : Nat) : Cfg := { T := tys, EQ := eqs, C := [(76, ref07_Right.ct), (157, ref07_Width.ct), (188, ref02_Left.ct), (189, ref02_Of.ct), (190, ref07_Precision.ct), (239, ref02_Add.ct), (240, ref02_ToBits.ct)], lp := [], un := [], ks := [], keep := [0, 1, 2, 3, 7, 8, 9, 11, 13, 17, 35] }
theorem ref07_Build.ev (N : Nat) (f : Int) (neg : Bool) (e_ : Int) (t : W6) : evFunc (ref07_Build.cfg N) N Tryz.f191 [.v ((dI .u8).enc f), .v (dB.enc neg), .v ((dI .i64).enc e_), .v (dW.enc t)] [] 0 dBits.dec = ref07_Build.g f neg e_ t := by kernel_rfl
theorem ref07_Build.hl (N : Nat) : ∀ body, Tryz.f191.body = some body → ∀ b ∈ loopsOf body, ∀ lc, lkL (firstReg b) (ref07_Build.cfg N).lp = some lc → LCOk (ref07_Build.cfg N) N b lc := HL_nil rfl
theorem ref07_Build.cfg_ok (N : Nat) : CfgOk Tryz.prog (ref07_Build.cfg N) := mkCfg (.cons ref07_Right.ok (.cons ref07_Width.ok (.cons ref02_Left.ok (.cons ref02_Of.ok (.cons ref07_Precision.ok (.cons ref02_Add.ok (.cons ref02_ToBits.ok .nil))))))) _ _ _ _
theorem ref07_Build.ok : CTok Tryz.prog 191 ref07_Build.ct := CTok.of4 Tryz.call191 mix Tryz.func191 (Nat.le_of_ble_eq_true (by kernel_rfl)) (fun f neg e_ t res hres _ _ _ _ => ⟨ref07_Build.cfg fuel, fuel, ref07_Build.cfg_ok fuel, ref07_Build.hl fuel, (ref07_Build.ev fuel f neg e_ t).trans hres⟩)

def ref07_Zero.cfg (_N : Nat) : Cfg := { T := tys, EQ := eqs, C := [(191, ref07_Build.ct)], lp := [], un := [], ks := [], keep := [0, 1, 4] }
theorem ref07_Zero.ev (N : Nat) (f : Int) (neg : Bool) : evFunc (ref07_Zero.cfg N) N Tryz.f95 [.v ((dI .u8).enc f), .v (dB.enc neg)] [] 0 dBits.dec = ref07_Zero.g f neg := by kernel_rfl
theorem ref07_Zero.hl (N : Nat) : ∀ body, Tryz.f95.body = some body → ∀ b ∈ loopsOf body, ∀ lc, lkL (firstReg b) (ref07_Zero.cfg N).lp = some lc → LCOk (ref07_Zero.cfg N) N b lc := HL_nil rfl
theorem ref07_Zero.cfg_ok (N : Nat) : CfgOk Tryz.prog (ref07_Zero.cfg N) := mkCfg (.cons ref07_Build.ok .nil) _ _ _ _
theorem ref07_Zero.ok : CTok Tryz.prog 95 ref07_Zero.ct := CTok.of2 Tryz.call95 mix Tryz.func95 (Nat.le_of_ble_eq_true (by kernel_rfl)) (fun f neg res hres _ _ => ⟨ref07_Zero.cfg fuel, fuel, ref07_Zero.cfg_ok fuel, ref07_Zero.hl fuel, (ref07_Zero.ev fuel f neg).trans hres⟩)

def ref07_Inf.cfg (_N : Nat) : Cfg := { T := tys, EQ := eqs, C := [(191, ref07_Build.ct), (192, ref07_Ones.ct)], lp := [], un := [], ks := [], keep := [0, 1, 4] }
theorem ref07_Inf.ev (N : Nat) (f : Int) (neg : Bool) : evFunc (ref07_Inf.cfg N) N Tryz.f93 [.v ((dI .u8).enc f), .v (dB.enc neg)] [] 0 dBits.dec = ref07_Inf.g f neg := by kernel_rfl
theorem ref07_Inf.hl (N : Nat) : ∀ body, Tryz.f93.body = some body → ∀ b ∈ loopsOf body, ∀ lc, lkL (firstReg b) (ref07_Inf.cfg N).lp = some lc → LCOk (ref07_Inf.cfg N) N b lc := HL_nil rfl
theorem ref07_Inf.cfg_ok (N : Nat) : CfgOk Tryz.prog (ref07_Inf.cfg N) := mkCfg (.cons ref07_Build.ok (.cons ref07_Ones.ok .nil)) _ _ _ _
theorem ref07_Inf.ok : CTok Tryz.prog 93 ref07_Inf.ct := CTok.of2 Tryz.call93 mix Tryz.func93 (Nat.le_of_ble_eq_true (by kernel_rfl)) (fun f neg res hres _ _ => ⟨ref07_Inf.cfg fuel, fuel, ref07_Inf.cfg_ok fuel, ref07_Inf.hl fuel, (ref07_Inf.ev fuel f neg).trans hres⟩)

def ref07_Greatest.cfg (_N : Nat) : Cfg := { T := tys, EQ := eqs, C := [(190, ref07_Precision.ct), (191, ref07_Build.ct), (192, ref07_Ones.ct), (199, ref02_Mask.ct)], lp := [], un := [], ks := [], keep := [0, 1, 4] }
theorem ref07_Greatest.ev (N : Nat) (f : Int) (neg : Bool) : evFunc (ref07_Greatest.cfg N) N Tryz.f248 [.v ((dI .u8).enc f), .v (dB.enc neg)] [] 0 dBits.dec = ref07_Greatest.g f neg := by kernel_rfl
theorem ref07_Greatest.hl (N : Nat) : ∀ body, Tryz.f248.body = some body → ∀ b ∈ loopsOf body, ∀ lc, lkL (firstReg b) (ref07_Greatest.cfg N).lp = some lc → LCOk (ref07_Greatest.cfg N) N b lc := HL_nil rfl
theorem ref07_Greatest.cfg_ok (N : Nat) : CfgOk Tryz.prog (ref07_Greatest.cfg N) := mkCfg (.cons ref07_Precision.ok (.cons ref07_Build.ok (.cons ref07_Ones.ok (.cons ref02_Mask.ok .nil)))) _ _ _ _
theorem ref07_Greatest.ok : CTok Tryz.prog 248 ref07_Greatest.ct := CTok.of2 Tryz.call248 mix Tryz.func248 (Nat.le_of_ble_eq_true (by kernel_rfl)) (fun f neg res hres _ _ => ⟨ref07_Greatest.cfg fuel, fuel, ref07_Greatest.cfg_ok fuel, ref07_Greatest.hl fuel, (ref07_Greatest.ev fuel f neg).trans hres⟩)

def shape_NaN.cfg (_N : Nat) : Cfg := { T := tys, EQ := eqs, C := [(86, shape_Check.ct), (116, shape_Precision.ct), (172, shape_Emax.ct), (185, shape_at.ct)], lp := [], un := [], ks := [], keep := [0, 2, 5] }
theorem shape_NaN.ev (N : Nat) (f : Int) : evFunc (shape_NaN.cfg N) N Tryz.f88 [.v ((dI .u8).enc f)] [] 0 dBits.dec = shape_NaN.g f := by kernel_rfl
theorem shape_NaN.hl (N : Nat) : ∀ body, Tryz.f88.body = some body → ∀ b ∈ loopsOf body, ∀ lc, lkL (firstReg b) (shape_NaN.cfg N).lp = some lc → LCOk (shape_NaN.cfg N) N b lc := HL_nil rfl
theorem shape_NaN.cfg_ok (N : Nat) : CfgOk Tryz.prog (shape_NaN.cfg N) := mkCfg (.cons shape_Check.ok (.cons shape_Precision.ok (.cons shape_Emax.ok (.cons shape_at.ok .nil)))) _ _ _ _
theorem shape_NaN.ok : CTok Tryz.prog 88 shape_NaN.ct := CTok.of1 Tryz.call88 mix Tryz.func88 (Nat.le_of_ble_eq_true (by kernel_rfl)) (fun f res hres _ => ⟨shape_NaN.cfg fuel, fuel, shape_NaN.cfg_ok fuel, shape_NaN.hl fuel, (shape_NaN.ev fuel f).trans hres⟩)

def ref08_IsSignaling.cfg (_N : Nat) : Cfg := { T := tys, EQ := eqs, C := [(159, ref08_Class.ct)], lp := [], un := [], ks := [], keep := [0, 1, 3, 4] }
theorem ref08_IsSignaling.ev (N : Nat) (f : Int) (b : B2) : evFunc (ref08_IsSignaling.cfg N) N Tryz.f91 [.v ((dI .u8).enc f), .v (dBits.enc b)] [] 0 dB.dec = ref08_IsSignaling.g f b := by kernel_rfl
theorem ref08_IsSignaling.hl (N : Nat) : ∀ body, Tryz.f91.body = some body → ∀ b ∈ loopsOf body, ∀ lc, lkL (firstReg b) (ref08_IsSignaling.cfg N).lp = some lc → LCOk (ref08_IsSignaling.cfg N) N b lc := HL_nil rfl
theorem ref08_IsSignaling.cfg_ok (N : Nat) : CfgOk Tryz.prog (ref08_IsSignaling.cfg N) := mkCfg (.cons ref08_Class.ok .nil) _ _ _ _
theorem ref08_IsSignaling.ok : CTok Tryz.prog 91 ref08_IsSignaling.ct := CTok.of2 Tryz.call91 mix Tryz.func91 (Nat.le_of_ble_eq_true (by kernel_rfl)) (fun f b res hres _ _ => ⟨ref08_IsSignaling.cfg fuel, fuel, ref08_IsSignaling.cfg_ok fuel, ref08_IsSignaling.hl fuel, (ref08_IsSignaling.ev fuel f b).trans hres⟩)

def ref07_NaN.cfg (_N : Nat) : Cfg := { T := tys, EQ := eqs, C := [(188, ref02_Left.ct), (189, ref02_Of.ct), (190, ref07_Precision.ct), (191, ref07_Build.ct), (192, ref07_Ones.ct)], lp := [], un := [], ks := [], keep := [0, 2, 3] }
theorem ref07_NaN.ev (N : Nat) (f : Int) : evFunc (ref07_NaN.cfg N) N Tryz.f92 [.v ((dI .u8).enc f)] [] 0 dBits.dec = ref07_NaN.g f := by kernel_rfl
theorem ref07_NaN.hl (N : Nat) : ∀ body, Tryz.f92.body = some body → ∀ b ∈ loopsOf body, ∀ lc, lkL (firstReg b) (ref07_NaN.cfg N).lp = some lc → LCOk (ref07_NaN.cfg N) N b lc := HL_nil rfl
theorem ref07_NaN.cfg_ok (N : Nat) : CfgOk Tryz.prog (ref07_NaN.cfg N) := mkCfg (.cons ref02_Left.ok (.cons ref02_Of.ok (.cons ref07_Precision.ok (.cons ref07_Build.ok (.cons ref07_Ones.ok .nil))))) _ _ _ _
theorem ref07_NaN.ok : CTok Tryz.prog 92 ref07_NaN.ct := CTok.of1 Tryz.call92 mix Tryz.func92 (Nat.le_of_ble_eq_true (by kernel_rfl)) (fun f res hres _ => ⟨ref07_NaN.cfg fuel, fuel, ref07_NaN.cfg_ok fuel, ref07_NaN.hl fuel, (ref07_NaN.ev fuel f).trans hres⟩)

def ref08_IsZero.cfg (_N : Nat) : Cfg := { T := tys, EQ := eqs, C := [(159, ref08_Class.ct)], lp := [], un := [], ks := [], keep := [0, 1, 3, 4, 5] }
theorem ref08_IsZero.ev (N : Nat) (f : Int) (b : B2) : evFunc (ref08_IsZero.cfg N) N Tryz.f94 [.v ((dI .u8).enc f), .v (dBits.enc b)] [] 0 dB.dec = ref08_IsZero.g f b := by kernel_rfl
theorem ref08_IsZero.hl (N : Nat) : ∀ body, Tryz.f94.body = some body → ∀ b ∈ loopsOf body, ∀ lc, lkL (firstReg b) (ref08_IsZero.cfg N).lp = some lc → LCOk (ref08_IsZero.cfg N) N b lc := HL_nil rfl
theorem ref08_IsZero.cfg_ok (N : Nat) : CfgOk Tryz.prog (ref08_IsZero.cfg N) := mkCfg (.cons ref08_Class.ok .nil) _ _ _ _
theorem ref08_IsZero.ok : CTok Tryz.prog 94 ref08_IsZero.ct := CTok.of2 Tryz.call94 mix Tryz.func94 (Nat.le_of_ble_eq_true (by kernel_rfl)) (fun f b res hres _ _ => ⟨ref08_IsZero.cfg fuel, fuel, ref08_IsZero.cfg_ok fuel, ref08_IsZero.hl fuel, (ref08_IsZero.ev fuel f b).trans hres⟩)

def kind_Flip.cfg (_N : Nat) : Cfg := { T := tys, EQ := eqs, C := [(105, shape_Zero.ct), (128, shape_Fits.ct)], lp := [], un := [], ks := [], keep := [0, 1, 3, 4, 5, 9] }
theorem kind_Flip.ev (N : Nat) (f : Int) (b : B2) : evFunc (kind_Flip.cfg N) N Tryz.f142 [.v ((dI .u8).enc f), .v (dBits.enc b)] [] 0 dBits.dec = kind_Flip.g f b := by kernel_rfl
theorem kind_Flip.hl (N : Nat) : ∀ body, Tryz.f142.body = some body → ∀ b ∈ loopsOf body, ∀ lc, lkL (firstReg b) (kind_Flip.cfg N).lp = some lc → LCOk (kind_Flip.cfg N) N b lc := HL_nil rfl
theorem kind_Flip.cfg_ok (N : Nat) : CfgOk Tryz.prog (kind_Flip.cfg N) := mkCfg (.cons shape_Zero.ok (.cons shape_Fits.ok .nil)) _ _ _ _
theorem kind_Flip.ok : CTok Tryz.prog 142 kind_Flip.ct := CTok.of2 Tryz.call142 mix Tryz.func142 (Nat.le_of_ble_eq_true (by kernel_rfl)) (fun f b res hres _ _ => ⟨kind_Flip.cfg fuel, fuel, kind_Flip.cfg_ok fuel, kind_Flip.hl fuel, (kind_Flip.ev fuel f b).trans hres⟩)

def ref08_Flip.cfg (_N : Nat) : Cfg := { T := tys, EQ := eqs, C := [(62, ref07_Fits.ct), (158, ref07_Fields.ct), (191, ref07_Build.ct)], lp := [], un := [], ks := [], keep := [0, 1, 3, 4, 5, 6, 7, 11] }
theorem ref08_Flip.ev (N : Nat) (f : Int) (b : B2) : evFunc (ref08_Flip.cfg N) N Tryz.f143 [.v ((dI .u8).enc f), .v (dBits.enc b)] [] 0 dBits.dec = ref08_Flip.g f b := by kernel_rfl
theorem ref08_Flip.hl (N : Nat) : ∀ body, Tryz.f143.body = some body → ∀ b ∈ loopsOf body, ∀ lc, lkL (firstReg b) (ref08_Flip.cfg N).lp = some lc → LCOk (ref08_Flip.cfg N) N b lc := HL_nil rfl
theorem ref08_Flip.cfg_ok (N : Nat) : CfgOk Tryz.prog (ref08_Flip.cfg N) := mkCfg (.cons ref07_Fits.ok (.cons ref07_Fields.ok (.cons ref07_Build.ok .nil))) _ _ _ _
theorem ref08_Flip.ok : CTok Tryz.prog 143 ref08_Flip.ct := CTok.of2 Tryz.call143 mix Tryz.func143 (Nat.le_of_ble_eq_true (by kernel_rfl)) (fun f b res hres _ _ => ⟨ref08_Flip.cfg fuel, fuel, ref08_Flip.cfg_ok fuel, ref08_Flip.hl fuel, (ref08_Flip.ev fuel f b).trans hres⟩)

end
end Go.Proofs.YtnfbcofieobkkaaGreatDoor
