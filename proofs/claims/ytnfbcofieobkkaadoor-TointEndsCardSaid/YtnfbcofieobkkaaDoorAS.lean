/- Printed by a program: the contracts of Go functions. -/
import Derived.Test.YtnfbcofieobkkaaDoorPS
import Derived.Test.YtnfbcofieobkkaaDoorAW
namespace Go.Proofs.YtnfbcofieobkkaaDoor
open Go Go.Proofs Ev
set_option linter.unusedVariables false
set_option linter.unusedSimpArgs false
noncomputable section

def shape_CheckMode.cfg (_N : Nat) : Cfg := { T := tys, EQ := eqs, C := [], lp := [], un := [], ks := [], keep := [0, 2, 4] }
theorem shape_CheckMode.ev (N : Nat) (m_ : Int) : evFunc (shape_CheckMode.cfg N) N Tryd.f17 [.v ((dI .u8).enc m_)] [] 0 (dI .i64).dec = shape_CheckMode.g m_ := by kernel_rfl
theorem shape_CheckMode.hl (N : Nat) : ∀ body, Tryd.f17.body = some body → ∀ b ∈ loopsOf body, ∀ lc, lkL (firstReg b) (shape_CheckMode.cfg N).lp = some lc → LCOk (shape_CheckMode.cfg N) N b lc := HL_nil rfl
theorem shape_CheckMode.cfg_ok (N : Nat) : CfgOk Tryd.prog (shape_CheckMode.cfg N) := mkCfg .nil _ _ _ _
theorem shape_CheckMode.ok : CTok Tryd.prog 17 shape_CheckMode.ct := CTok.of1 Tryd.call17 mix Tryd.func17 (Nat.le_of_ble_eq_true (by kernel_rfl)) (fun m_ res hres _ => ⟨shape_CheckMode.cfg fuel, fuel, shape_CheckMode.cfg_ok fuel, shape_CheckMode.hl fuel, (shape_CheckMode.ev fuel m_).trans hres⟩)

theorem shape_numbers.ok : CTok Tryd.prog 128 shape_numbers.ct := CTok.of1 Tryd.call128 mix Tryd.func128 (Nat.le_of_ble_eq_true (by kernel_rfl)) (fun f res hres _ => ⟨shape_numbers.cfg, 10, mkCfg .nil _ _ _ _, HL_nil rfl, hres⟩)

def shape_Width.cfg (_N : Nat) : Cfg := { T := tys, EQ := eqs, C := [(128, shape_numbers.ct)], lp := [], un := [], ks := [], keep := [0, 2, 3] }
theorem shape_Width.ev (N : Nat) (f : Int) : evFunc (shape_Width.cfg N) N Tryd.f60 [.v ((dI .u8).enc f)] [] 0 (dI .i64).dec = shape_Width.g f := by kernel_rfl
theorem shape_Width.hl (N : Nat) : ∀ body, Tryd.f60.body = some body → ∀ b ∈ loopsOf body, ∀ lc, lkL (firstReg b) (shape_Width.cfg N).lp = some lc → LCOk (shape_Width.cfg N) N b lc := HL_nil rfl
theorem shape_Width.cfg_ok (N : Nat) : CfgOk Tryd.prog (shape_Width.cfg N) := mkCfg (.cons shape_numbers.ok .nil) _ _ _ _
theorem shape_Width.ok : CTok Tryd.prog 60 shape_Width.ct := CTok.of1 Tryd.call60 mix Tryd.func60 (Nat.le_of_ble_eq_true (by kernel_rfl)) (fun f res hres _ => ⟨shape_Width.cfg fuel, fuel, shape_Width.cfg_ok fuel, shape_Width.hl fuel, (shape_Width.ev fuel f).trans hres⟩)

def shape_Fits.cfg (_N : Nat) : Cfg := { T := tys, EQ := eqs, C := [(60, shape_Width.ct)], lp := [], un := [], ks := [], keep := [0, 1, 3, 4, 5, 6, 8, 13] }
theorem shape_Fits.ev (N : Nat) (f : Int) (b : B2) : evFunc (shape_Fits.cfg N) N Tryd.f30 [.v ((dI .u8).enc f), .v (dBits.enc b)] [] 0 dB.dec = shape_Fits.g f b := by kernel_rfl
theorem shape_Fits.hl (N : Nat) : ∀ body, Tryd.f30.body = some body → ∀ b ∈ loopsOf body, ∀ lc, lkL (firstReg b) (shape_Fits.cfg N).lp = some lc → LCOk (shape_Fits.cfg N) N b lc := HL_nil rfl
theorem shape_Fits.cfg_ok (N : Nat) : CfgOk Tryd.prog (shape_Fits.cfg N) := mkCfg (.cons shape_Width.ok .nil) _ _ _ _
theorem shape_Fits.ok : CTok Tryd.prog 30 shape_Fits.ct := CTok.of2 Tryd.call30 mix Tryd.func30 (Nat.le_of_ble_eq_true (by kernel_rfl)) (fun f b res hres _ _ => ⟨shape_Fits.cfg fuel, fuel, shape_Fits.cfg_ok fuel, shape_Fits.hl fuel, (shape_Fits.ev fuel f b).trans hres⟩)

def shape_Precision.cfg (_N : Nat) : Cfg := { T := tys, EQ := eqs, C := [(128, shape_numbers.ct)], lp := [], un := [], ks := [], keep := [0, 2, 4] }
theorem shape_Precision.ev (N : Nat) (f : Int) : evFunc (shape_Precision.cfg N) N Tryd.f82 [.v ((dI .u8).enc f)] [] 0 (dI .i64).dec = shape_Precision.g f := by kernel_rfl
theorem shape_Precision.hl (N : Nat) : ∀ body, Tryd.f82.body = some body → ∀ b ∈ loopsOf body, ∀ lc, lkL (firstReg b) (shape_Precision.cfg N).lp = some lc → LCOk (shape_Precision.cfg N) N b lc := HL_nil rfl
theorem shape_Precision.cfg_ok (N : Nat) : CfgOk Tryd.prog (shape_Precision.cfg N) := mkCfg (.cons shape_numbers.ok .nil) _ _ _ _
theorem shape_Precision.ok : CTok Tryd.prog 82 shape_Precision.ct := CTok.of1 Tryd.call82 mix Tryd.func82 (Nat.le_of_ble_eq_true (by kernel_rfl)) (fun f res hres _ => ⟨shape_Precision.cfg fuel, fuel, shape_Precision.cfg_ok fuel, shape_Precision.hl fuel, (shape_Precision.ev fuel f).trans hres⟩)

def kind_fields.cfg (_N : Nat) : Cfg := { T := tys, EQ := eqs, C := [(58, wide_Bit.ct), (59, wide_OfBits.ct), (60, shape_Width.ct), (82, shape_Precision.ct), (101, wide_Right.ct), (102, wide_And.ct), (103, wide_Mask.ct)], lp := [], un := [], ks := [], keep := [0, 1, 3, 4, 5, 6, 7, 8, 9, 10] }
theorem kind_fields.ev (N : Nat) (f : Int) (b : B2) : evFunc (kind_fields.cfg N) N Tryd.f97 [.v ((dI .u8).enc f), .v (dBits.enc b)] [] 0 (dT3 dB (dI .i64) dW).dec = kind_fields.g f b := by kernel_rfl
theorem kind_fields.hl (N : Nat) : ∀ body, Tryd.f97.body = some body → ∀ b ∈ loopsOf body, ∀ lc, lkL (firstReg b) (kind_fields.cfg N).lp = some lc → LCOk (kind_fields.cfg N) N b lc := HL_nil rfl
theorem kind_fields.cfg_ok (N : Nat) : CfgOk Tryd.prog (kind_fields.cfg N) := mkCfg (.cons wide_Bit.ok (.cons wide_OfBits.ok (.cons shape_Width.ok (.cons shape_Precision.ok (.cons wide_Right.ok (.cons wide_And.ok (.cons wide_Mask.ok .nil))))))) _ _ _ _
theorem kind_fields.ok : CTok Tryd.prog 97 kind_fields.ct := CTok.of2 Tryd.call97 mix Tryd.func97 (Nat.le_of_ble_eq_true (by kernel_rfl)) (fun f b res hres _ _ => ⟨kind_fields.cfg fuel, fuel, kind_fields.cfg_ok fuel, kind_fields.hl fuel, (kind_fields.ev fuel f b).trans hres⟩)

def shape_Emax.cfg (_N : Nat) : Cfg := { T := tys, EQ := eqs, C := [(128, shape_numbers.ct)], lp := [], un := [], ks := [], keep := [0, 2, 5] }
theorem shape_Emax.ev (N : Nat) (f : Int) : evFunc (shape_Emax.cfg N) N Tryd.f72 [.v ((dI .u8).enc f)] [] 0 (dI .i64).dec = shape_Emax.g f := by kernel_rfl
theorem shape_Emax.hl (N : Nat) : ∀ body, Tryd.f72.body = some body → ∀ b ∈ loopsOf body, ∀ lc, lkL (firstReg b) (shape_Emax.cfg N).lp = some lc → LCOk (shape_Emax.cfg N) N b lc := HL_nil rfl
theorem shape_Emax.cfg_ok (N : Nat) : CfgOk Tryd.prog (shape_Emax.cfg N) := mkCfg (.cons shape_numbers.ok .nil) _ _ _ _
theorem shape_Emax.ok : CTok Tryd.prog 72 shape_Emax.ct := CTok.of1 Tryd.call72 mix Tryd.func72 (Nat.le_of_ble_eq_true (by kernel_rfl)) (fun f res hres _ => ⟨shape_Emax.cfg fuel, fuel, shape_Emax.cfg_ok fuel, shape_Emax.hl fuel, (shape_Emax.ev fuel f).trans hres⟩)

def kind_class.cfg (_N : Nat) : Cfg := { T := tys, EQ := eqs, C := [(58, wide_Bit.ct), (72, shape_Emax.ct), (82, shape_Precision.ct), (97, kind_fields.ct)], lp := [], un := [], ks := [], keep := [0, 1, 3, 4, 5, 6, 7, 8, 19, 34, 35, 49, 52, 55] }
theorem kind_class.ev (N : Nat) (f : Int) (b : B2) : evFunc (kind_class.cfg N) N Tryd.f98 [.v ((dI .u8).enc f), .v (dBits.enc b)] [] 0 (dI .u8).dec = kind_class.g f b := by kernel_rfl
theorem kind_class.hl (N : Nat) : ∀ body, Tryd.f98.body = some body → ∀ b ∈ loopsOf body, ∀ lc, lkL (firstReg b) (kind_class.cfg N).lp = some lc → LCOk (kind_class.cfg N) N b lc := HL_nil rfl
theorem kind_class.cfg_ok (N : Nat) : CfgOk Tryd.prog (kind_class.cfg N) := mkCfg (.cons wide_Bit.ok (.cons shape_Emax.ok (.cons shape_Precision.ok (.cons kind_fields.ok .nil)))) _ _ _ _
theorem kind_class.ok : CTok Tryd.prog 98 kind_class.ct := CTok.of2 Tryd.call98 mix Tryd.func98 (Nat.le_of_ble_eq_true (by kernel_rfl)) (fun f b res hres _ _ => ⟨kind_class.cfg fuel, fuel, kind_class.cfg_ok fuel, kind_class.hl fuel, (kind_class.ev fuel f b).trans hres⟩)

def shape_Check.cfg (_N : Nat) : Cfg := { T := tys, EQ := eqs, C := [], lp := [], un := [], ks := [], keep := [0, 2, 4] }
theorem shape_Check.ev (N : Nat) (f : Int) : evFunc (shape_Check.cfg N) N Tryd.f29 [.v ((dI .u8).enc f)] [] 0 (dI .i64).dec = shape_Check.g f := by kernel_rfl
theorem shape_Check.hl (N : Nat) : ∀ body, Tryd.f29.body = some body → ∀ b ∈ loopsOf body, ∀ lc, lkL (firstReg b) (shape_Check.cfg N).lp = some lc → LCOk (shape_Check.cfg N) N b lc := HL_nil rfl
theorem shape_Check.cfg_ok (N : Nat) : CfgOk Tryd.prog (shape_Check.cfg N) := mkCfg .nil _ _ _ _
theorem shape_Check.ok : CTok Tryd.prog 29 shape_Check.ct := CTok.of1 Tryd.call29 mix Tryd.func29 (Nat.le_of_ble_eq_true (by kernel_rfl)) (fun f res hres _ => ⟨shape_Check.cfg fuel, fuel, shape_Check.cfg_ok fuel, shape_Check.hl fuel, (shape_Check.ev fuel f).trans hres⟩)

def shape_Emin.cfg (_N : Nat) : Cfg := { T := tys, EQ := eqs, C := [(29, shape_Check.ct), (72, shape_Emax.ct)], lp := [], un := [], ks := [], keep := [0, 2, 5] }
theorem shape_Emin.ev (N : Nat) (f : Int) : evFunc (shape_Emin.cfg N) N Tryd.f99 [.v ((dI .u8).enc f)] [] 0 (dI .i64).dec = shape_Emin.g f := by kernel_rfl
theorem shape_Emin.hl (N : Nat) : ∀ body, Tryd.f99.body = some body → ∀ b ∈ loopsOf body, ∀ lc, lkL (firstReg b) (shape_Emin.cfg N).lp = some lc → LCOk (shape_Emin.cfg N) N b lc := HL_nil rfl
theorem shape_Emin.cfg_ok (N : Nat) : CfgOk Tryd.prog (shape_Emin.cfg N) := mkCfg (.cons shape_Check.ok (.cons shape_Emax.ok .nil)) _ _ _ _
theorem shape_Emin.ok : CTok Tryd.prog 99 shape_Emin.ct := CTok.of1 Tryd.call99 mix Tryd.func99 (Nat.le_of_ble_eq_true (by kernel_rfl)) (fun f res hres _ => ⟨shape_Emin.cfg fuel, fuel, shape_Emin.cfg_ok fuel, shape_Emin.hl fuel, (shape_Emin.ev fuel f).trans hres⟩)

def kind_Unpack.cfg (_N : Nat) : Cfg := { T := tys, EQ := eqs, C := [(30, shape_Fits.ct), (82, shape_Precision.ct), (97, kind_fields.ct), (98, kind_class.ct), (99, shape_Emin.ct)], lp := [], un := [], ks := [], keep := [0, 1, 3, 4, 5, 6, 8, 9, 10, 14, 30, 31, 34, 37] }
theorem kind_Unpack.ev (N : Nat) (f : Int) (b : B2) : evFunc (kind_Unpack.cfg N) N Tryd.f41 [.v ((dI .u8).enc f), .v (dBits.enc b)] [] 0 (dT2 dPts (dI .i64)).dec = kind_Unpack.g f b := by kernel_rfl
theorem kind_Unpack.hl (N : Nat) : ∀ body, Tryd.f41.body = some body → ∀ b ∈ loopsOf body, ∀ lc, lkL (firstReg b) (kind_Unpack.cfg N).lp = some lc → LCOk (kind_Unpack.cfg N) N b lc := HL_nil rfl
theorem kind_Unpack.cfg_ok (N : Nat) : CfgOk Tryd.prog (kind_Unpack.cfg N) := mkCfg (.cons shape_Fits.ok (.cons shape_Precision.ok (.cons kind_fields.ok (.cons kind_class.ok (.cons shape_Emin.ok .nil))))) _ _ _ _
theorem kind_Unpack.ok : CTok Tryd.prog 41 kind_Unpack.ct := CTok.of2 Tryd.call41 mix Tryd.func41 (Nat.le_of_ble_eq_true (by kernel_rfl)) (fun f b res hres _ _ => ⟨kind_Unpack.cfg fuel, fuel, kind_Unpack.cfg_ok fuel, kind_Unpack.hl fuel, (kind_Unpack.ev fuel f b).trans hres⟩)

def ref07_Width.cfg (_N : Nat) : Cfg := { T := tys, EQ := eqs, C := [], lp := [], un := [], ks := [], keep := [0, 2, 3, 4, 6, 8, 10] }
theorem ref07_Width.ev (N : Nat) (f : Int) : evFunc (ref07_Width.cfg N) N Tryd.f108 [.v ((dI .u8).enc f)] [] 0 (dI .i64).dec = ref07_Width.g f := by kernel_rfl
theorem ref07_Width.hl (N : Nat) : ∀ body, Tryd.f108.body = some body → ∀ b ∈ loopsOf body, ∀ lc, lkL (firstReg b) (ref07_Width.cfg N).lp = some lc → LCOk (ref07_Width.cfg N) N b lc := HL_nil rfl
theorem ref07_Width.cfg_ok (N : Nat) : CfgOk Tryd.prog (ref07_Width.cfg N) := mkCfg .nil _ _ _ _
theorem ref07_Width.ok : CTok Tryd.prog 108 ref07_Width.ct := CTok.of1 Tryd.call108 mix Tryd.func108 (Nat.le_of_ble_eq_true (by kernel_rfl)) (fun f res hres _ => ⟨ref07_Width.cfg fuel, fuel, ref07_Width.cfg_ok fuel, ref07_Width.hl fuel, (ref07_Width.ev fuel f).trans hres⟩)

def ref07_Emax.cfg (_N : Nat) : Cfg := { T := tys, EQ := eqs, C := [], lp := [], un := [], ks := [], keep := [0, 2, 3, 4, 6, 8, 10] }
theorem ref07_Emax.ev (N : Nat) (f : Int) : evFunc (ref07_Emax.cfg N) N Tryd.f153 [.v ((dI .u8).enc f)] [] 0 (dI .i64).dec = ref07_Emax.g f := by kernel_rfl
theorem ref07_Emax.hl (N : Nat) : ∀ body, Tryd.f153.body = some body → ∀ b ∈ loopsOf body, ∀ lc, lkL (firstReg b) (ref07_Emax.cfg N).lp = some lc → LCOk (ref07_Emax.cfg N) N b lc := HL_nil rfl
theorem ref07_Emax.cfg_ok (N : Nat) : CfgOk Tryd.prog (ref07_Emax.cfg N) := mkCfg .nil _ _ _ _
theorem ref07_Emax.ok : CTok Tryd.prog 153 ref07_Emax.ct := CTok.of1 Tryd.call153 mix Tryd.func153 (Nat.le_of_ble_eq_true (by kernel_rfl)) (fun f res hres _ => ⟨ref07_Emax.cfg fuel, fuel, ref07_Emax.cfg_ok fuel, ref07_Emax.hl fuel, (ref07_Emax.ev fuel f).trans hres⟩)

def ref07_Ones.cfg (_N : Nat) : Cfg := { T := tys, EQ := eqs, C := [(153, ref07_Emax.ct)], lp := [], un := [], ks := [], keep := [0, 2] }
theorem ref07_Ones.ev (N : Nat) (f : Int) : evFunc (ref07_Ones.cfg N) N Tryd.f129 [.v ((dI .u8).enc f)] [] 0 (dI .i64).dec = ref07_Ones.g f := by kernel_rfl
theorem ref07_Ones.hl (N : Nat) : ∀ body, Tryd.f129.body = some body → ∀ b ∈ loopsOf body, ∀ lc, lkL (firstReg b) (ref07_Ones.cfg N).lp = some lc → LCOk (ref07_Ones.cfg N) N b lc := HL_nil rfl
theorem ref07_Ones.cfg_ok (N : Nat) : CfgOk Tryd.prog (ref07_Ones.cfg N) := mkCfg (.cons ref07_Emax.ok .nil) _ _ _ _
theorem ref07_Ones.ok : CTok Tryd.prog 129 ref07_Ones.ct := CTok.of1 Tryd.call129 mix Tryd.func129 (Nat.le_of_ble_eq_true (by kernel_rfl)) (fun f res hres _ => ⟨ref07_Ones.cfg fuel, fuel, ref07_Ones.cfg_ok fuel, ref07_Ones.hl fuel, (ref07_Ones.ev fuel f).trans hres⟩)

def ref07_Precision.cfg (_N : Nat) : Cfg := { T := tys, EQ := eqs, C := [], lp := [], un := [], ks := [], keep := [0, 2, 3, 4, 6, 8, 10] }
theorem ref07_Precision.ev (N : Nat) (f : Int) : evFunc (ref07_Precision.cfg N) N Tryd.f131 [.v ((dI .u8).enc f)] [] 0 (dI .i64).dec = ref07_Precision.g f := by kernel_rfl
theorem ref07_Precision.hl (N : Nat) : ∀ body, Tryd.f131.body = some body → ∀ b ∈ loopsOf body, ∀ lc, lkL (firstReg b) (ref07_Precision.cfg N).lp = some lc → LCOk (ref07_Precision.cfg N) N b lc := HL_nil rfl
theorem ref07_Precision.cfg_ok (N : Nat) : CfgOk Tryd.prog (ref07_Precision.cfg N) := mkCfg .nil _ _ _ _
theorem ref07_Precision.ok : CTok Tryd.prog 131 ref07_Precision.ct := CTok.of1 Tryd.call131 mix Tryd.func131 (Nat.le_of_ble_eq_true (by kernel_rfl)) (fun f res hres _ => ⟨ref07_Precision.cfg fuel, fuel, ref07_Precision.cfg_ok fuel, ref07_Precision.hl fuel, (ref07_Precision.ev fuel f).trans hres⟩)

def ref07_Fields.cfg (_N : Nat) : Cfg := { T := tys, EQ := eqs, C := [(107, ref02_OfBits.ct), (108, ref07_Width.ct), (129, ref07_Ones.ct), (130, ref02_Bit.ct), (131, ref07_Precision.ct), (149, ref02_And.ct), (150, ref02_Mask.ct), (151, ref02_Right.ct)], lp := [], un := [], ks := [], keep := [0, 1, 3, 4, 5, 6, 7, 8, 9, 10] }
theorem ref07_Fields.ev (N : Nat) (f : Int) (b : B2) : evFunc (ref07_Fields.cfg N) N Tryd.f117 [.v ((dI .u8).enc f), .v (dBits.enc b)] [] 0 (dT3 dB (dI .i64) dW).dec = ref07_Fields.g f b := by kernel_rfl
theorem ref07_Fields.hl (N : Nat) : ∀ body, Tryd.f117.body = some body → ∀ b ∈ loopsOf body, ∀ lc, lkL (firstReg b) (ref07_Fields.cfg N).lp = some lc → LCOk (ref07_Fields.cfg N) N b lc := HL_nil rfl
theorem ref07_Fields.cfg_ok (N : Nat) : CfgOk Tryd.prog (ref07_Fields.cfg N) := mkCfg (.cons ref02_OfBits.ok (.cons ref07_Width.ok (.cons ref07_Ones.ok (.cons ref02_Bit.ok (.cons ref07_Precision.ok (.cons ref02_And.ok (.cons ref02_Mask.ok (.cons ref02_Right.ok .nil)))))))) _ _ _ _
theorem ref07_Fields.ok : CTok Tryd.prog 117 ref07_Fields.ct := CTok.of2 Tryd.call117 mix Tryd.func117 (Nat.le_of_ble_eq_true (by kernel_rfl)) (fun f b res hres _ _ => ⟨ref07_Fields.cfg fuel, fuel, ref07_Fields.cfg_ok fuel, ref07_Fields.hl fuel, (ref07_Fields.ev fuel f b).trans hres⟩)

def ref08_Class.cfg (_N : Nat) : Cfg := { T := tys, EQ := eqs, C := [(117, ref07_Fields.ct), (129, ref07_Ones.ct), (130, ref02_Bit.ct), (131, ref07_Precision.ct)], lp := [], un := [], ks := [], keep := [0, 1, 3, 4, 5, 6, 7, 18, 21, 26, 27, 29, 30, 33, 34, 35] }
theorem ref08_Class.ev (N : Nat) (f : Int) (b : B2) : evFunc (ref08_Class.cfg N) N Tryd.f61 [.v ((dI .u8).enc f), .v (dBits.enc b)] [] 0 (dI .u8).dec = ref08_Class.g f b := by kernel_rfl
theorem ref08_Class.hl (N : Nat) : ∀ body, Tryd.f61.body = some body → ∀ b ∈ loopsOf body, ∀ lc, lkL (firstReg b) (ref08_Class.cfg N).lp = some lc → LCOk (ref08_Class.cfg N) N b lc := HL_nil rfl
theorem ref08_Class.cfg_ok (N : Nat) : CfgOk Tryd.prog (ref08_Class.cfg N) := mkCfg (.cons ref07_Fields.ok (.cons ref07_Ones.ok (.cons ref02_Bit.ok (.cons ref07_Precision.ok .nil)))) _ _ _ _
theorem ref08_Class.ok : CTok Tryd.prog 61 ref08_Class.ct := CTok.of2 Tryd.call61 mix Tryd.func61 (Nat.le_of_ble_eq_true (by kernel_rfl)) (fun f b res hres _ _ => ⟨ref08_Class.cfg fuel, fuel, ref08_Class.cfg_ok fuel, ref08_Class.hl fuel, (ref08_Class.ev fuel f b).trans hres⟩)

def ref08_IsInf.cfg (_N : Nat) : Cfg := { T := tys, EQ := eqs, C := [(61, ref08_Class.ct)], lp := [], un := [], ks := [], keep := [0, 1, 3, 4, 5] }
theorem ref08_IsInf.ev (N : Nat) (f : Int) (b : B2) : evFunc (ref08_IsInf.cfg N) N Tryd.f33 [.v ((dI .u8).enc f), .v (dBits.enc b)] [] 0 dB.dec = ref08_IsInf.g f b := by kernel_rfl
theorem ref08_IsInf.hl (N : Nat) : ∀ body, Tryd.f33.body = some body → ∀ b ∈ loopsOf body, ∀ lc, lkL (firstReg b) (ref08_IsInf.cfg N).lp = some lc → LCOk (ref08_IsInf.cfg N) N b lc := HL_nil rfl
theorem ref08_IsInf.cfg_ok (N : Nat) : CfgOk Tryd.prog (ref08_IsInf.cfg N) := mkCfg (.cons ref08_Class.ok .nil) _ _ _ _
theorem ref08_IsInf.ok : CTok Tryd.prog 33 ref08_IsInf.ct := CTok.of2 Tryd.call33 mix Tryd.func33 (Nat.le_of_ble_eq_true (by kernel_rfl)) (fun f b res hres _ _ => ⟨ref08_IsInf.cfg fuel, fuel, ref08_IsInf.cfg_ok fuel, ref08_IsInf.hl fuel, (ref08_IsInf.ev fuel f b).trans hres⟩)

def ref07_Right.cfg (_N : Nat) : Cfg := { T := tys, EQ := eqs, C := [], lp := [], un := [], ks := [], keep := [0, 2] }
theorem ref07_Right.ev (N : Nat) (f : Int) : evFunc (ref07_Right.cfg N) N Tryd.f105 [.v ((dI .u8).enc f)] [] 0 dB.dec = ref07_Right.g f := by kernel_rfl
theorem ref07_Right.hl (N : Nat) : ∀ body, Tryd.f105.body = some body → ∀ b ∈ loopsOf body, ∀ lc, lkL (firstReg b) (ref07_Right.cfg N).lp = some lc → LCOk (ref07_Right.cfg N) N b lc := HL_nil rfl
theorem ref07_Right.cfg_ok (N : Nat) : CfgOk Tryd.prog (ref07_Right.cfg N) := mkCfg .nil _ _ _ _
theorem ref07_Right.ok : CTok Tryd.prog 105 ref07_Right.ct := CTok.of1 Tryd.call105 mix Tryd.func105 (Nat.le_of_ble_eq_true (by kernel_rfl)) (fun f res hres _ => ⟨ref07_Right.cfg fuel, fuel, ref07_Right.cfg_ok fuel, ref07_Right.hl fuel, (ref07_Right.ev fuel f).trans hres⟩)

def ref07_Fits.cfg (_N : Nat) : Cfg := { T := tys, EQ := eqs, C := [(105, ref07_Right.ct), (106, ref02_Len.ct), (107, ref02_OfBits.ct), (108, ref07_Width.ct)], lp := [], un := [], ks := [], keep := [0, 1, 3, 4] }
theorem ref07_Fits.ev (N : Nat) (f : Int) (b : B2) : evFunc (ref07_Fits.cfg N) N Tryd.f47 [.v ((dI .u8).enc f), .v (dBits.enc b)] [] 0 dB.dec = ref07_Fits.g f b := by kernel_rfl
theorem ref07_Fits.hl (N : Nat) : ∀ body, Tryd.f47.body = some body → ∀ b ∈ loopsOf body, ∀ lc, lkL (firstReg b) (ref07_Fits.cfg N).lp = some lc → LCOk (ref07_Fits.cfg N) N b lc := HL_nil rfl
theorem ref07_Fits.cfg_ok (N : Nat) : CfgOk Tryd.prog (ref07_Fits.cfg N) := mkCfg (.cons ref07_Right.ok (.cons ref02_Len.ok (.cons ref02_OfBits.ok (.cons ref07_Width.ok .nil)))) _ _ _ _
theorem ref07_Fits.ok : CTok Tryd.prog 47 ref07_Fits.ct := CTok.of2 Tryd.call47 mix Tryd.func47 (Nat.le_of_ble_eq_true (by kernel_rfl)) (fun f b res hres _ _ => ⟨ref07_Fits.cfg fuel, fuel, ref07_Fits.cfg_ok fuel, ref07_Fits.hl fuel, (ref07_Fits.ev fuel f b).trans hres⟩)

def ref07_RightMode.cfg (_N : Nat) : Cfg := { T := tys, EQ := eqs, C := [], lp := [], un := [], ks := [], keep := [0, 2] }
theorem ref07_RightMode.ev (N : Nat) (m_ : Int) : evFunc (ref07_RightMode.cfg N) N Tryd.f48 [.v ((dI .u8).enc m_)] [] 0 dB.dec = ref07_RightMode.g m_ := by kernel_rfl
theorem ref07_RightMode.hl (N : Nat) : ∀ body, Tryd.f48.body = some body → ∀ b ∈ loopsOf body, ∀ lc, lkL (firstReg b) (ref07_RightMode.cfg N).lp = some lc → LCOk (ref07_RightMode.cfg N) N b lc := HL_nil rfl
theorem ref07_RightMode.cfg_ok (N : Nat) : CfgOk Tryd.prog (ref07_RightMode.cfg N) := mkCfg .nil _ _ _ _
theorem ref07_RightMode.ok : CTok Tryd.prog 48 ref07_RightMode.ct := CTok.of1 Tryd.call48 mix Tryd.func48 (Nat.le_of_ble_eq_true (by kernel_rfl)) (fun m_ res hres _ => ⟨ref07_RightMode.cfg fuel, fuel, ref07_RightMode.cfg_ok fuel, ref07_RightMode.hl fuel, (ref07_RightMode.ev fuel m_).trans hres⟩)

def ref08_IsNaN.cfg (_N : Nat) : Cfg := { T := tys, EQ := eqs, C := [(61, ref08_Class.ct)], lp := [], un := [], ks := [], keep := [0, 1, 3, 4] }
theorem ref08_IsNaN.ev (N : Nat) (f : Int) (b : B2) : evFunc (ref08_IsNaN.cfg N) N Tryd.f49 [.v ((dI .u8).enc f), .v (dBits.enc b)] [] 0 dB.dec = ref08_IsNaN.g f b := by kernel_rfl
theorem ref08_IsNaN.hl (N : Nat) : ∀ body, Tryd.f49.body = some body → ∀ b ∈ loopsOf body, ∀ lc, lkL (firstReg b) (ref08_IsNaN.cfg N).lp = some lc → LCOk (ref08_IsNaN.cfg N) N b lc := HL_nil rfl
theorem ref08_IsNaN.cfg_ok (N : Nat) : CfgOk Tryd.prog (ref08_IsNaN.cfg N) := mkCfg (.cons ref08_Class.ok .nil) _ _ _ _
theorem ref08_IsNaN.ok : CTok Tryd.prog 49 ref08_IsNaN.ct := CTok.of2 Tryd.call49 mix Tryd.func49 (Nat.le_of_ble_eq_true (by kernel_rfl)) (fun f b res hres _ _ => ⟨ref08_IsNaN.cfg fuel, fuel, ref08_IsNaN.cfg_ok fuel, ref08_IsNaN.hl fuel, (ref08_IsNaN.ev fuel f b).trans hres⟩)

def ref08_Sign.cfg (_N : Nat) : Cfg := { T := tys, EQ := eqs, C := [(47, ref07_Fits.ct), (117, ref07_Fields.ct)], lp := [], un := [], ks := [], keep := [0, 1, 3, 4, 5, 11] }
theorem ref08_Sign.ev (N : Nat) (f : Int) (b : B2) : evFunc (ref08_Sign.cfg N) N Tryd.f53 [.v ((dI .u8).enc f), .v (dBits.enc b)] [] 0 dB.dec = ref08_Sign.g f b := by kernel_rfl
theorem ref08_Sign.hl (N : Nat) : ∀ body, Tryd.f53.body = some body → ∀ b ∈ loopsOf body, ∀ lc, lkL (firstReg b) (ref08_Sign.cfg N).lp = some lc → LCOk (ref08_Sign.cfg N) N b lc := HL_nil rfl
theorem ref08_Sign.cfg_ok (N : Nat) : CfgOk Tryd.prog (ref08_Sign.cfg N) := mkCfg (.cons ref07_Fits.ok (.cons ref07_Fields.ok .nil)) _ _ _ _
theorem ref08_Sign.ok : CTok Tryd.prog 53 ref08_Sign.ct := CTok.of2 Tryd.call53 mix Tryd.func53 (Nat.le_of_ble_eq_true (by kernel_rfl)) (fun f b res hres _ _ => ⟨ref08_Sign.cfg fuel, fuel, ref08_Sign.cfg_ok fuel, ref08_Sign.hl fuel, (ref08_Sign.ev fuel f b).trans hres⟩)

def ref07_Emin.cfg (_N : Nat) : Cfg := { T := tys, EQ := eqs, C := [(105, ref07_Right.ct), (153, ref07_Emax.ct)], lp := [], un := [], ks := [], keep := [0, 2, 5] }
theorem ref07_Emin.ev (N : Nat) (f : Int) : evFunc (ref07_Emin.cfg N) N Tryd.f158 [.v ((dI .u8).enc f)] [] 0 (dI .i64).dec = ref07_Emin.g f := by kernel_rfl
theorem ref07_Emin.hl (N : Nat) : ∀ body, Tryd.f158.body = some body → ∀ b ∈ loopsOf body, ∀ lc, lkL (firstReg b) (ref07_Emin.cfg N).lp = some lc → LCOk (ref07_Emin.cfg N) N b lc := HL_nil rfl
theorem ref07_Emin.cfg_ok (N : Nat) : CfgOk Tryd.prog (ref07_Emin.cfg N) := mkCfg (.cons ref07_Right.ok (.cons ref07_Emax.ok .nil)) _ _ _ _
theorem ref07_Emin.ok : CTok Tryd.prog 158 ref07_Emin.ct := CTok.of1 Tryd.call158 mix Tryd.func158 (Nat.le_of_ble_eq_true (by kernel_rfl)) (fun f res hres _ => ⟨ref07_Emin.cfg fuel, fuel, ref07_Emin.cfg_ok fuel, ref07_Emin.hl fuel, (ref07_Emin.ev fuel f).trans hres⟩)

def ref08_Unpack.cfg (_N : Nat) : Cfg := { T := tys, EQ := eqs, C := [(61, ref08_Class.ct), (117, ref07_Fields.ct), (131, ref07_Precision.ct), (153, ref07_Emax.ct), (158, ref07_Emin.ct), (159, ref02_Left.ct), (160, ref02_Of.ct), (161, ref02_Add.ct)], lp := [], un := [], ks := [], keep := [0, 1, 3, 4, 5, 7, 8, 9, 10, 26, 27, 32, 43] }
theorem ref08_Unpack.ev (N : Nat) (f : Int) (b : B2) : evFunc (ref08_Unpack.cfg N) N Tryd.f139 [.v ((dI .u8).enc f), .v (dBits.enc b)] [] 0 dPts.dec = ref08_Unpack.g f b := by kernel_rfl
theorem ref08_Unpack.hl (N : Nat) : ∀ body, Tryd.f139.body = some body → ∀ b ∈ loopsOf body, ∀ lc, lkL (firstReg b) (ref08_Unpack.cfg N).lp = some lc → LCOk (ref08_Unpack.cfg N) N b lc := HL_nil rfl
theorem ref08_Unpack.cfg_ok (N : Nat) : CfgOk Tryd.prog (ref08_Unpack.cfg N) := mkCfg (.cons ref08_Class.ok (.cons ref07_Fields.ok (.cons ref07_Precision.ok (.cons ref07_Emax.ok (.cons ref07_Emin.ok (.cons ref02_Left.ok (.cons ref02_Of.ok (.cons ref02_Add.ok .nil)))))))) _ _ _ _
theorem ref08_Unpack.ok : CTok Tryd.prog 139 ref08_Unpack.ct := CTok.of2 Tryd.call139 mix Tryd.func139 (Nat.le_of_ble_eq_true (by kernel_rfl)) (fun f b res hres _ _ => ⟨ref08_Unpack.cfg fuel, fuel, ref08_Unpack.cfg_ok fuel, ref08_Unpack.hl fuel, (ref08_Unpack.ev fuel f b).trans hres⟩)

def kind_Class.cfg (_N : Nat) : Cfg := { T := tys, EQ := eqs, C := [(30, shape_Fits.ct), (98, kind_class.ct)], lp := [], un := [], ks := [], keep := [0, 1, 3, 4, 5, 9] }
theorem kind_Class.ev (N : Nat) (f : Int) (b : B2) : evFunc (kind_Class.cfg N) N Tryd.f56 [.v ((dI .u8).enc f), .v (dBits.enc b)] [] 0 (dT2 (dI .u8) (dI .i64)).dec = kind_Class.g f b := by kernel_rfl
theorem kind_Class.hl (N : Nat) : ∀ body, Tryd.f56.body = some body → ∀ b ∈ loopsOf body, ∀ lc, lkL (firstReg b) (kind_Class.cfg N).lp = some lc → LCOk (kind_Class.cfg N) N b lc := HL_nil rfl
theorem kind_Class.cfg_ok (N : Nat) : CfgOk Tryd.prog (kind_Class.cfg N) := mkCfg (.cons shape_Fits.ok (.cons kind_class.ok .nil)) _ _ _ _
theorem kind_Class.ok : CTok Tryd.prog 56 kind_Class.ct := CTok.of2 Tryd.call56 mix Tryd.func56 (Nat.le_of_ble_eq_true (by kernel_rfl)) (fun f b res hres _ _ => ⟨kind_Class.cfg fuel, fuel, kind_Class.cfg_ok fuel, kind_Class.hl fuel, (kind_Class.ev fuel f b).trans hres⟩)

def shape_at.cfg (_N : Nat) : Cfg := { T := tys, EQ := eqs, C := [], lp := [], un := [], ks := [], keep := [0, 1, 4, 5, 7, 20] }
theorem shape_at.ev (N : Nat) (x : Int) (n : Int) : evFunc (shape_at.cfg N) N Tryd.f81 [.v ((dI .u64).enc x), .v ((dI .i64).enc n)] [] 0 dBits.dec = shape_at.g x n := by kernel_rfl
theorem shape_at.hl (N : Nat) : ∀ body, Tryd.f81.body = some body → ∀ b ∈ loopsOf body, ∀ lc, lkL (firstReg b) (shape_at.cfg N).lp = some lc → LCOk (shape_at.cfg N) N b lc := HL_nil rfl
theorem shape_at.cfg_ok (N : Nat) : CfgOk Tryd.prog (shape_at.cfg N) := mkCfg .nil _ _ _ _
theorem shape_at.ok : CTok Tryd.prog 81 shape_at.ct := CTok.of2 Tryd.call81 mix Tryd.func81 (Nat.le_of_ble_eq_true (by kernel_rfl)) (fun x n res hres _ _ => ⟨shape_at.cfg fuel, fuel, shape_at.cfg_ok fuel, shape_at.hl fuel, (shape_at.ev fuel x n).trans hres⟩)

def shape_with.cfg (_N : Nat) : Cfg := { T := tys, EQ := eqs, C := [(29, shape_Check.ct), (60, shape_Width.ct), (81, shape_at.ct)], lp := [], un := [], ks := [], keep := [0, 1, 2, 4, 6, 7, 10, 12] }
theorem shape_with.ev (N : Nat) (f : Int) (b : B2) (neg : Bool) : evFunc (shape_with.cfg N) N Tryd.f70 [.v ((dI .u8).enc f), .v (dBits.enc b), .v (dB.enc neg)] [] 0 dBits.dec = shape_with.g f b neg := by kernel_rfl
theorem shape_with.hl (N : Nat) : ∀ body, Tryd.f70.body = some body → ∀ b ∈ loopsOf body, ∀ lc, lkL (firstReg b) (shape_with.cfg N).lp = some lc → LCOk (shape_with.cfg N) N b lc := HL_nil rfl
theorem shape_with.cfg_ok (N : Nat) : CfgOk Tryd.prog (shape_with.cfg N) := mkCfg (.cons shape_Check.ok (.cons shape_Width.ok (.cons shape_at.ok .nil))) _ _ _ _
theorem shape_with.ok : CTok Tryd.prog 70 shape_with.ct := CTok.of3 Tryd.call70 mix Tryd.func70 (Nat.le_of_ble_eq_true (by kernel_rfl)) (fun f b neg res hres _ _ _ => ⟨shape_with.cfg fuel, fuel, shape_with.cfg_ok fuel, shape_with.hl fuel, (shape_with.ev fuel f b neg).trans hres⟩)

def shape_Zero.cfg (_N : Nat) : Cfg := { T := tys, EQ := eqs, C := [(70, shape_with.ct)], lp := [], un := [], ks := [], keep := [0, 1, 4] }
theorem shape_Zero.ev (N : Nat) (f : Int) (neg : Bool) : evFunc (shape_Zero.cfg N) N Tryd.f27 [.v ((dI .u8).enc f), .v (dB.enc neg)] [] 0 dBits.dec = shape_Zero.g f neg := by kernel_rfl
theorem shape_Zero.hl (N : Nat) : ∀ body, Tryd.f27.body = some body → ∀ b ∈ loopsOf body, ∀ lc, lkL (firstReg b) (shape_Zero.cfg N).lp = some lc → LCOk (shape_Zero.cfg N) N b lc := HL_nil rfl
theorem shape_Zero.cfg_ok (N : Nat) : CfgOk Tryd.prog (shape_Zero.cfg N) := mkCfg (.cons shape_with.ok .nil) _ _ _ _
theorem shape_Zero.ok : CTok Tryd.prog 27 shape_Zero.ct := CTok.of2 Tryd.call27 mix Tryd.func27 (Nat.le_of_ble_eq_true (by kernel_rfl)) (fun f neg res hres _ _ => ⟨shape_Zero.cfg fuel, fuel, shape_Zero.cfg_ok fuel, shape_Zero.hl fuel, (shape_Zero.ev fuel f neg).trans hres⟩)

def shape_field.cfg (_N : Nat) : Cfg := { T := tys, EQ := eqs, C := [(81, shape_at.ct), (82, shape_Precision.ct)], lp := [], un := [], ks := [], keep := [0, 1, 4] }
theorem shape_field.ev (N : Nat) (f : Int) (e_ : Int) : evFunc (shape_field.cfg N) N Tryd.f71 [.v ((dI .u8).enc f), .v ((dI .i64).enc e_)] [] 0 dBits.dec = shape_field.g f e_ := by kernel_rfl
theorem shape_field.hl (N : Nat) : ∀ body, Tryd.f71.body = some body → ∀ b ∈ loopsOf body, ∀ lc, lkL (firstReg b) (shape_field.cfg N).lp = some lc → LCOk (shape_field.cfg N) N b lc := HL_nil rfl
theorem shape_field.cfg_ok (N : Nat) : CfgOk Tryd.prog (shape_field.cfg N) := mkCfg (.cons shape_at.ok (.cons shape_Precision.ok .nil)) _ _ _ _
theorem shape_field.ok : CTok Tryd.prog 71 shape_field.ct := CTok.of2 Tryd.call71 mix Tryd.func71 (Nat.le_of_ble_eq_true (by kernel_rfl)) (fun f e_ res hres _ _ => ⟨shape_field.cfg fuel, fuel, shape_field.cfg_ok fuel, shape_field.hl fuel, (shape_field.ev fuel f e_).trans hres⟩)

def shape_Inf.cfg (_N : Nat) : Cfg := { T := tys, EQ := eqs, C := [(29, shape_Check.ct), (70, shape_with.ct), (71, shape_field.ct), (72, shape_Emax.ct)], lp := [], un := [], ks := [], keep := [0, 1, 4, 7] }
theorem shape_Inf.ev (N : Nat) (f : Int) (neg : Bool) : evFunc (shape_Inf.cfg N) N Tryd.f26 [.v ((dI .u8).enc f), .v (dB.enc neg)] [] 0 dBits.dec = shape_Inf.g f neg := by kernel_rfl
theorem shape_Inf.hl (N : Nat) : ∀ body, Tryd.f26.body = some body → ∀ b ∈ loopsOf body, ∀ lc, lkL (firstReg b) (shape_Inf.cfg N).lp = some lc → LCOk (shape_Inf.cfg N) N b lc := HL_nil rfl
theorem shape_Inf.cfg_ok (N : Nat) : CfgOk Tryd.prog (shape_Inf.cfg N) := mkCfg (.cons shape_Check.ok (.cons shape_with.ok (.cons shape_field.ok (.cons shape_Emax.ok .nil)))) _ _ _ _
theorem shape_Inf.ok : CTok Tryd.prog 26 shape_Inf.ct := CTok.of2 Tryd.call26 mix Tryd.func26 (Nat.le_of_ble_eq_true (by kernel_rfl)) (fun f neg res hres _ _ => ⟨shape_Inf.cfg fuel, fuel, shape_Inf.cfg_ok fuel, shape_Inf.hl fuel, (shape_Inf.ev fuel f neg).trans hres⟩)

def shape_Greatest.cfg (_N : Nat) : Cfg := { T := tys, EQ := eqs, C := [(26, shape_Inf.ct), (29, shape_Check.ct), (60, shape_Width.ct), (70, shape_with.ct)], lp := [], un := [], ks := [], keep := [0, 1, 4, 5, 10, 14, 30] }
theorem shape_Greatest.ev (N : Nat) (f : Int) (neg : Bool) : evFunc (shape_Greatest.cfg N) N Tryd.f152 [.v ((dI .u8).enc f), .v (dB.enc neg)] [] 0 dBits.dec = shape_Greatest.g f neg := by kernel_rfl
theorem shape_Greatest.hl (N : Nat) : ∀ body, Tryd.f152.body = some body → ∀ b ∈ loopsOf body, ∀ lc, lkL (firstReg b) (shape_Greatest.cfg N).lp = some lc → LCOk (shape_Greatest.cfg N) N b lc := HL_nil rfl
theorem shape_Greatest.cfg_ok (N : Nat) : CfgOk Tryd.prog (shape_Greatest.cfg N) := mkCfg (.cons shape_Inf.ok (.cons shape_Check.ok (.cons shape_Width.ok (.cons shape_with.ok .nil)))) _ _ _ _
theorem shape_Greatest.ok : CTok Tryd.prog 152 shape_Greatest.ct := CTok.of2 Tryd.call152 mix Tryd.func152 (Nat.le_of_ble_eq_true (by kernel_rfl)) (fun f neg res hres _ _ => ⟨shape_Greatest.cfg fuel, fuel, shape_Greatest.cfg_ok fuel, shape_Greatest.hl fuel, (shape_Greatest.ev fuel f neg).trans hres⟩)

def kind_Sign.cfg (_N : Nat) : Cfg := { T := tys, EQ := eqs, C := [(30, shape_Fits.ct), (58, wide_Bit.ct), (59, wide_OfBits.ct), (60, shape_Width.ct)], lp := [], un := [], ks := [], keep := [0, 1, 3, 4] }
theorem kind_Sign.ev (N : Nat) (f : Int) (b : B2) : evFunc (kind_Sign.cfg N) N Tryd.f21 [.v ((dI .u8).enc f), .v (dBits.enc b)] [] 0 dB.dec = kind_Sign.g f b := by kernel_rfl
theorem kind_Sign.hl (N : Nat) : ∀ body, Tryd.f21.body = some body → ∀ b ∈ loopsOf body, ∀ lc, lkL (firstReg b) (kind_Sign.cfg N).lp = some lc → LCOk (kind_Sign.cfg N) N b lc := HL_nil rfl
theorem kind_Sign.cfg_ok (N : Nat) : CfgOk Tryd.prog (kind_Sign.cfg N) := mkCfg (.cons shape_Fits.ok (.cons wide_Bit.ok (.cons wide_OfBits.ok (.cons shape_Width.ok .nil)))) _ _ _ _
theorem kind_Sign.ok : CTok Tryd.prog 21 kind_Sign.ct := CTok.of2 Tryd.call21 mix Tryd.func21 (Nat.le_of_ble_eq_true (by kernel_rfl)) (fun f b res hres _ _ => ⟨kind_Sign.cfg fuel, fuel, kind_Sign.cfg_ok fuel, kind_Sign.hl fuel, (kind_Sign.ev fuel f b).trans hres⟩)

def ref08_IsZero.cfg (_N : Nat) : Cfg := { T := tys, EQ := eqs, C := [(61, ref08_Class.ct)], lp := [], un := [], ks := [], keep := [0, 1, 3, 4, 5] }
theorem ref08_IsZero.ev (N : Nat) (f : Int) (b : B2) : evFunc (ref08_IsZero.cfg N) N Tryd.f22 [.v ((dI .u8).enc f), .v (dBits.enc b)] [] 0 dB.dec = ref08_IsZero.g f b := by kernel_rfl
theorem ref08_IsZero.hl (N : Nat) : ∀ body, Tryd.f22.body = some body → ∀ b ∈ loopsOf body, ∀ lc, lkL (firstReg b) (ref08_IsZero.cfg N).lp = some lc → LCOk (ref08_IsZero.cfg N) N b lc := HL_nil rfl
theorem ref08_IsZero.cfg_ok (N : Nat) : CfgOk Tryd.prog (ref08_IsZero.cfg N) := mkCfg (.cons ref08_Class.ok .nil) _ _ _ _
theorem ref08_IsZero.ok : CTok Tryd.prog 22 ref08_IsZero.ct := CTok.of2 Tryd.call22 mix Tryd.func22 (Nat.le_of_ble_eq_true (by kernel_rfl)) (fun f b res hres _ _ => ⟨ref08_IsZero.cfg fuel, fuel, ref08_IsZero.cfg_ok fuel, ref08_IsZero.hl fuel, (ref08_IsZero.ev fuel f b).trans hres⟩)

def shape_NaN.cfg (_N : Nat) : Cfg := { T := tys, EQ := eqs, C := [(29, shape_Check.ct), (72, shape_Emax.ct), (81, shape_at.ct), (82, shape_Precision.ct)], lp := [], un := [], ks := [], keep := [0, 2, 5] }
theorem shape_NaN.ev (N : Nat) (f : Int) : evFunc (shape_NaN.cfg N) N Tryd.f32 [.v ((dI .u8).enc f)] [] 0 dBits.dec = shape_NaN.g f := by kernel_rfl
theorem shape_NaN.hl (N : Nat) : ∀ body, Tryd.f32.body = some body → ∀ b ∈ loopsOf body, ∀ lc, lkL (firstReg b) (shape_NaN.cfg N).lp = some lc → LCOk (shape_NaN.cfg N) N b lc := HL_nil rfl
theorem shape_NaN.cfg_ok (N : Nat) : CfgOk Tryd.prog (shape_NaN.cfg N) := mkCfg (.cons shape_Check.ok (.cons shape_Emax.ok (.cons shape_at.ok (.cons shape_Precision.ok .nil)))) _ _ _ _
theorem shape_NaN.ok : CTok Tryd.prog 32 shape_NaN.ct := CTok.of1 Tryd.call32 mix Tryd.func32 (Nat.le_of_ble_eq_true (by kernel_rfl)) (fun f res hres _ => ⟨shape_NaN.cfg fuel, fuel, shape_NaN.cfg_ok fuel, shape_NaN.hl fuel, (shape_NaN.ev fuel f).trans hres⟩)

def kind_Flip.cfg (_N : Nat) : Cfg := { T := tys, EQ := eqs, C := [(27, shape_Zero.ct), (30, shape_Fits.ct)], lp := [], un := [], ks := [], keep := [0, 1, 3, 4, 5, 9] }
theorem kind_Flip.ev (N : Nat) (f : Int) (b : B2) : evFunc (kind_Flip.cfg N) N Tryd.f37 [.v ((dI .u8).enc f), .v (dBits.enc b)] [] 0 dBits.dec = kind_Flip.g f b := by kernel_rfl
theorem kind_Flip.hl (N : Nat) : ∀ body, Tryd.f37.body = some body → ∀ b ∈ loopsOf body, ∀ lc, lkL (firstReg b) (kind_Flip.cfg N).lp = some lc → LCOk (kind_Flip.cfg N) N b lc := HL_nil rfl
theorem kind_Flip.cfg_ok (N : Nat) : CfgOk Tryd.prog (kind_Flip.cfg N) := mkCfg (.cons shape_Zero.ok (.cons shape_Fits.ok .nil)) _ _ _ _
theorem kind_Flip.ok : CTok Tryd.prog 37 kind_Flip.ct := CTok.of2 Tryd.call37 mix Tryd.func37 (Nat.le_of_ble_eq_true (by kernel_rfl)) (fun f b res hres _ _ => ⟨kind_Flip.cfg fuel, fuel, kind_Flip.cfg_ok fuel, kind_Flip.hl fuel, (kind_Flip.ev fuel f b).trans hres⟩)

def shape_One.cfg (_N : Nat) : Cfg := { T := tys, EQ := eqs, C := [(29, shape_Check.ct), (70, shape_with.ct), (71, shape_field.ct), (72, shape_Emax.ct)], lp := [], un := [], ks := [], keep := [0, 1, 4, 7] }
theorem shape_One.ev (N : Nat) (f : Int) (neg : Bool) : evFunc (shape_One.cfg N) N Tryd.f38 [.v ((dI .u8).enc f), .v (dB.enc neg)] [] 0 dBits.dec = shape_One.g f neg := by kernel_rfl
theorem shape_One.hl (N : Nat) : ∀ body, Tryd.f38.body = some body → ∀ b ∈ loopsOf body, ∀ lc, lkL (firstReg b) (shape_One.cfg N).lp = some lc → LCOk (shape_One.cfg N) N b lc := HL_nil rfl
theorem shape_One.cfg_ok (N : Nat) : CfgOk Tryd.prog (shape_One.cfg N) := mkCfg (.cons shape_Check.ok (.cons shape_with.ok (.cons shape_field.ok (.cons shape_Emax.ok .nil)))) _ _ _ _
theorem shape_One.ok : CTok Tryd.prog 38 shape_One.ct := CTok.of2 Tryd.call38 mix Tryd.func38 (Nat.le_of_ble_eq_true (by kernel_rfl)) (fun f neg res hres _ _ => ⟨shape_One.cfg fuel, fuel, shape_One.cfg_ok fuel, shape_One.hl fuel, (shape_One.ev fuel f neg).trans hres⟩)

end
end Go.Proofs.YtnfbcofieobkkaaDoor
