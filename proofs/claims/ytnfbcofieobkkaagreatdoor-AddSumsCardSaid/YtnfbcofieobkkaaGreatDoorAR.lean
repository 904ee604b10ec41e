/- Printed by a program: the contracts of Go functions. -/
import Derived.Test.YtnfbcofieobkkaaGreatDoorPR
import Derived.Test.YtnfbcofieobkkaaGreatDoorAN
namespace Go.Proofs.YtnfbcofieobkkaaGreatDoor
open Go Go.Proofs Ev
set_option linter.unusedVariables false
set_option linter.unusedSimpArgs false
noncomputable section

def jam_Cut.cfg (_N : Nat) : Cfg := { T := tys, EQ := eqs, C := [(210, wide_Right.ct), (215, wide_Bit.ct), (216, wide_And.ct), (217, wide_Mask.ct)], lp := [], un := [], ks := [], keep := [0, 1, 2, 4, 5, 6, 7, 17, 31] }
theorem jam_Cut.ev (N : Nat) (a : W6) (n : Int) : evFunc (jam_Cut.cfg N) N Tryz.f152 [.v (dW.enc a), .v ((dI .i64).enc n)] [] 0 (dT3 dW (dI .i64) dB).dec = jam_Cut.g a n := by kernel_rfl
theorem jam_Cut.hl (N : Nat) : ∀ body, Tryz.f152.body = some body → ∀ b ∈ loopsOf body, ∀ lc, lkL (firstReg b) (jam_Cut.cfg N).lp = some lc → LCOk (jam_Cut.cfg N) N b lc := HL_nil rfl
theorem jam_Cut.cfg_ok (N : Nat) : CfgOk Tryz.prog (jam_Cut.cfg N) := mkCfg (.cons wide_Right.ok (.cons wide_Bit.ok (.cons wide_And.ok (.cons wide_Mask.ok .nil)))) _ _ _ _
theorem jam_Cut.ok : CTok Tryz.prog 152 jam_Cut.ct := CTok.of2 Tryz.call152 mix Tryz.func152 (Nat.le_of_ble_eq_true (by kernel_rfl)) (fun a n res hres _ _ => ⟨jam_Cut.cfg fuel, fuel, jam_Cut.cfg_ok fuel, jam_Cut.hl fuel, (jam_Cut.ev fuel a n).trans hres⟩)

def round_Up.cfg (_N : Nat) : Cfg := { T := tys, EQ := eqs, C := [], lp := [], un := [], ks := [], keep := [0, 1, 2, 3, 4, 10, 11, 12, 13, 24, 28] }
theorem round_Up.ev (N : Nat) (m_ : Int) (neg : Bool) (odd : Bool) (half : Int) (exact : Bool) : evFunc (round_Up.cfg N) N Tryz.f153 [.v ((dI .u8).enc m_), .v (dB.enc neg), .v (dB.enc odd), .v ((dI .i64).enc half), .v (dB.enc exact)] [] 0 dB.dec = round_Up.g m_ neg odd half exact := by kernel_rfl
theorem round_Up.hl (N : Nat) : ∀ body, Tryz.f153.body = some body → ∀ b ∈ loopsOf body, ∀ lc, lkL (firstReg b) (round_Up.cfg N).lp = some lc → LCOk (round_Up.cfg N) N b lc := HL_nil rfl
theorem round_Up.cfg_ok (N : Nat) : CfgOk Tryz.prog (round_Up.cfg N) := mkCfg .nil _ _ _ _
theorem round_Up.ok : CTok Tryz.prog 153 round_Up.ct := CTok.of5 Tryz.call153 mix Tryz.func153 (Nat.le_of_ble_eq_true (by kernel_rfl)) (fun m_ neg odd half exact res hres _ _ _ _ _ => ⟨round_Up.cfg fuel, fuel, round_Up.cfg_ok fuel, round_Up.hl fuel, (round_Up.ev fuel m_ neg odd half exact).trans hres⟩)

def ref10_Up.cfg (_N : Nat) : Cfg := { T := tys, EQ := eqs, C := [], lp := [], un := [], ks := [], keep := [0, 1, 2, 3, 4, 10, 11, 12, 13, 16, 20, 31] }
theorem ref10_Up.ev (N : Nat) (m_ : Int) (neg : Bool) (odd : Bool) (half : Int) (exact : Bool) : evFunc (ref10_Up.cfg N) N Tryz.f162 [.v ((dI .u8).enc m_), .v (dB.enc neg), .v (dB.enc odd), .v ((dI .i64).enc half), .v (dB.enc exact)] [] 0 dB.dec = ref10_Up.g m_ neg odd half exact := by kernel_rfl
theorem ref10_Up.hl (N : Nat) : ∀ body, Tryz.f162.body = some body → ∀ b ∈ loopsOf body, ∀ lc, lkL (firstReg b) (ref10_Up.cfg N).lp = some lc → LCOk (ref10_Up.cfg N) N b lc := HL_nil rfl
theorem ref10_Up.cfg_ok (N : Nat) : CfgOk Tryz.prog (ref10_Up.cfg N) := mkCfg .nil _ _ _ _
theorem ref10_Up.ok : CTok Tryz.prog 162 ref10_Up.ct := CTok.of5 Tryz.call162 mix Tryz.func162 (Nat.le_of_ble_eq_true (by kernel_rfl)) (fun m_ neg odd half exact res hres _ _ _ _ _ => ⟨ref10_Up.cfg fuel, fuel, ref10_Up.cfg_ok fuel, ref10_Up.hl fuel, (ref10_Up.ev fuel m_ neg odd half exact).trans hres⟩)

def round_right.cfg (_N : Nat) : Cfg := { T := tys, EQ := eqs, C := [(86, shape_Check.ct), (87, shape_CheckMode.ct)], lp := [], un := [], ks := [], keep := [0, 1, 4] }
theorem round_right.ev (N : Nat) (f : Int) (m_ : Int) : evFunc (round_right.cfg N) N Tryz.f170 [.v ((dI .u8).enc f), .v ((dI .u8).enc m_)] [] 0 dB.dec = round_right.g f m_ := by kernel_rfl
theorem round_right.hl (N : Nat) : ∀ body, Tryz.f170.body = some body → ∀ b ∈ loopsOf body, ∀ lc, lkL (firstReg b) (round_right.cfg N).lp = some lc → LCOk (round_right.cfg N) N b lc := HL_nil rfl
theorem round_right.cfg_ok (N : Nat) : CfgOk Tryz.prog (round_right.cfg N) := mkCfg (.cons shape_Check.ok (.cons shape_CheckMode.ok .nil)) _ _ _ _
theorem round_right.ok : CTok Tryz.prog 170 round_right.ct := CTok.of2 Tryz.call170 mix Tryz.func170 (Nat.le_of_ble_eq_true (by kernel_rfl)) (fun f m_ res hres _ _ => ⟨round_right.cfg fuel, fuel, round_right.cfg_ok fuel, round_right.hl fuel, (round_right.ev fuel f m_).trans hres⟩)

def round_Over.cfg (_N : Nat) : Cfg := { T := tys, EQ := eqs, C := [(90, shape_Inf.ct), (170, round_right.ct), (226, shape_Greatest.ct)], lp := [], un := [], ks := [], keep := [0, 1, 2, 6, 7, 8, 9, 13, 17] }
theorem round_Over.ev (N : Nat) (f : Int) (m_ : Int) (neg : Bool) : evFunc (round_Over.cfg N) N Tryz.f173 [.v ((dI .u8).enc f), .v ((dI .u8).enc m_), .v (dB.enc neg)] [] 0 (dT3 dBits (dI .u8) (dI .i64)).dec = round_Over.g f m_ neg := by kernel_rfl
theorem round_Over.hl (N : Nat) : ∀ body, Tryz.f173.body = some body → ∀ b ∈ loopsOf body, ∀ lc, lkL (firstReg b) (round_Over.cfg N).lp = some lc → LCOk (round_Over.cfg N) N b lc := HL_nil rfl
theorem round_Over.cfg_ok (N : Nat) : CfgOk Tryz.prog (round_Over.cfg N) := mkCfg (.cons shape_Inf.ok (.cons round_right.ok (.cons shape_Greatest.ok .nil))) _ _ _ _
theorem round_Over.ok : CTok Tryz.prog 173 round_Over.ct := CTok.of3 Tryz.call173 mix Tryz.func173 (Nat.le_of_ble_eq_true (by kernel_rfl)) (fun f m_ neg res hres _ _ _ => ⟨round_Over.cfg fuel, fuel, round_Over.cfg_ok fuel, round_Over.hl fuel, (round_Over.ev fuel f m_ neg).trans hres⟩)

def round_grid.cfg (_N : Nat) : Cfg := { T := tys, EQ := eqs, C := [(61, wide_Of.ct), (118, wide_Left.ct), (138, wide_Add.ct), (152, jam_Cut.ct), (153, round_Up.ct)], lp := [], un := [], ks := [], keep := [0, 1, 2, 4, 6, 7, 8, 9, 15, 37, 39, 49] }
theorem round_grid.ev (N : Nat) (m_ : Int) (x : Rgh) (at_ : Int) : evFunc (round_grid.cfg N) N Tryz.f174 [.v ((dI .u8).enc m_), .v (dRgh.enc x), .v ((dI .i64).enc at_)] [] 0 (dT2 dW dB).dec = round_grid.g m_ x at_ := by kernel_rfl
theorem round_grid.hl (N : Nat) : ∀ body, Tryz.f174.body = some body → ∀ b ∈ loopsOf body, ∀ lc, lkL (firstReg b) (round_grid.cfg N).lp = some lc → LCOk (round_grid.cfg N) N b lc := HL_nil rfl
theorem round_grid.cfg_ok (N : Nat) : CfgOk Tryz.prog (round_grid.cfg N) := mkCfg (.cons wide_Of.ok (.cons wide_Left.ok (.cons wide_Add.ok (.cons jam_Cut.ok (.cons round_Up.ok .nil))))) _ _ _ _
theorem round_grid.ok : CTok Tryz.prog 174 round_grid.ct := CTok.of3 Tryz.call174 mix Tryz.func174 (Nat.le_of_ble_eq_true (by kernel_rfl)) (fun m_ x at_ res hres _ _ _ => ⟨round_grid.cfg fuel, fuel, round_grid.cfg_ok fuel, round_grid.hl fuel, (round_grid.ev fuel m_ x at_).trans hres⟩)

def round_tiny.cfg (_N : Nat) : Cfg := { T := tys, EQ := eqs, C := [(116, shape_Precision.ct), (117, wide_Len.ct), (171, shape_Emin.ct), (174, round_grid.ct)], lp := [], un := [], ks := [], keep := [0, 1, 2, 3, 6, 8, 9, 10, 11, 20] }
theorem round_tiny.ev (N : Nat) (f : Int) (m_ : Int) (x : Rgh) (top : Int) : evFunc (round_tiny.cfg N) N Tryz.f175 [.v ((dI .u8).enc f), .v ((dI .u8).enc m_), .v (dRgh.enc x), .v ((dI .i64).enc top)] [] 0 dB.dec = round_tiny.g f m_ x top := by kernel_rfl
theorem round_tiny.hl (N : Nat) : ∀ body, Tryz.f175.body = some body → ∀ b ∈ loopsOf body, ∀ lc, lkL (firstReg b) (round_tiny.cfg N).lp = some lc → LCOk (round_tiny.cfg N) N b lc := HL_nil rfl
theorem round_tiny.cfg_ok (N : Nat) : CfgOk Tryz.prog (round_tiny.cfg N) := mkCfg (.cons shape_Precision.ok (.cons wide_Len.ok (.cons shape_Emin.ok (.cons round_grid.ok .nil)))) _ _ _ _
theorem round_tiny.ok : CTok Tryz.prog 175 round_tiny.ct := CTok.of4 Tryz.call175 mix Tryz.func175 (Nat.le_of_ble_eq_true (by kernel_rfl)) (fun f m_ x top res hres _ _ _ _ => ⟨round_tiny.cfg fuel, fuel, round_tiny.cfg_ok fuel, round_tiny.hl fuel, (round_tiny.ev fuel f m_ x top).trans hres⟩)

def round_Pack.cfg (_N : Nat) : Cfg := { T := tys, EQ := eqs, C := [(61, wide_Of.ct), (105, shape_Zero.ct), (116, shape_Precision.ct), (117, wide_Len.ct), (118, wide_Left.ct), (138, wide_Add.ct), (170, round_right.ct), (171, shape_Emin.ct), (172, shape_Emax.ct), (173, round_Over.ct), (174, round_grid.ct), (175, round_tiny.ct), (176, wide_ToBits.ct)], lp := [], un := [], ks := [], keep := [0, 1, 2, 5, 6, 7, 8, 9, 10, 11, 12, 13, 14, 15, 16, 18, 20, 22, 50, 55, 72, 101, 111, 118] }
theorem round_Pack.ev (N : Nat) (f : Int) (m_ : Int) (x : Rgh) : evFunc (round_Pack.cfg N) N Tryz.f75 [.v ((dI .u8).enc f), .v ((dI .u8).enc m_), .v (dRgh.enc x)] [] 0 (dT3 dBits (dI .u8) (dI .i64)).dec = round_Pack.g f m_ x := by kernel_rfl
theorem round_Pack.hl (N : Nat) : ∀ body, Tryz.f75.body = some body → ∀ b ∈ loopsOf body, ∀ lc, lkL (firstReg b) (round_Pack.cfg N).lp = some lc → LCOk (round_Pack.cfg N) N b lc := HL_nil rfl
theorem round_Pack.cfg_ok (N : Nat) : CfgOk Tryz.prog (round_Pack.cfg N) := mkCfg (.cons wide_Of.ok (.cons shape_Zero.ok (.cons shape_Precision.ok (.cons wide_Len.ok (.cons wide_Left.ok (.cons wide_Add.ok (.cons round_right.ok (.cons shape_Emin.ok (.cons shape_Emax.ok (.cons round_Over.ok (.cons round_grid.ok (.cons round_tiny.ok (.cons wide_ToBits.ok .nil))))))))))))) _ _ _ _
theorem round_Pack.ok : CTok Tryz.prog 75 round_Pack.ct := CTok.of3 Tryz.call75 mix Tryz.func75 (Nat.le_of_ble_eq_true (by kernel_rfl)) (fun f m_ x res hres _ _ _ => ⟨round_Pack.cfg fuel, fuel, round_Pack.cfg_ok fuel, round_Pack.hl fuel, (round_Pack.ev fuel f m_ x).trans hres⟩)

def ref09_Fault.cfg (_N : Nat) : Cfg := { T := tys, EQ := eqs, C := [(63, ref07_RightMode.ct), (76, ref07_Right.ct), (231, ref06_May.ct)], lp := [], un := [], ks := [], keep := [0, 1, 2, 5, 6, 19, 29] }
theorem ref09_Fault.ev (N : Nat) (f : Int) (m_ : Int) (x : Exc) : evFunc (ref09_Fault.cfg N) N Tryz.f181 [.v ((dI .u8).enc f), .v ((dI .u8).enc m_), .v (dExc.enc x)] [] 0 (dI .i64).dec = ref09_Fault.g f m_ x := by kernel_rfl
theorem ref09_Fault.hl (N : Nat) : ∀ body, Tryz.f181.body = some body → ∀ b ∈ loopsOf body, ∀ lc, lkL (firstReg b) (ref09_Fault.cfg N).lp = some lc → LCOk (ref09_Fault.cfg N) N b lc := HL_nil rfl
theorem ref09_Fault.cfg_ok (N : Nat) : CfgOk Tryz.prog (ref09_Fault.cfg N) := mkCfg (.cons ref07_RightMode.ok (.cons ref07_Right.ok (.cons ref06_May.ok .nil))) _ _ _ _
theorem ref09_Fault.ok : CTok Tryz.prog 181 ref09_Fault.ct := CTok.of3 Tryz.call181 mix Tryz.func181 (Nat.le_of_ble_eq_true (by kernel_rfl)) (fun f m_ x res hres _ _ _ => ⟨ref09_Fault.cfg fuel, fuel, ref09_Fault.cfg_ok fuel, ref09_Fault.hl fuel, (ref09_Fault.ev fuel f m_ x).trans hres⟩)

def ref09_top.cfg (_N : Nat) : Cfg := { T := tys, EQ := eqs, C := [(195, ref06_Top.ct)], lp := [], un := [], ks := [], keep := [0, 1, 2, 4, 5, 12, 19] }
theorem ref09_top.ev (N : Nat) (x : Exc) (root : Bool) : evFunc (ref09_top.cfg N) N Tryz.f232 [.v (dExc.enc x), .v (dB.enc root)] [] 0 (dI .i64).dec = ref09_top.g x root := by kernel_rfl
theorem ref09_top.hl (N : Nat) : ∀ body, Tryz.f232.body = some body → ∀ b ∈ loopsOf body, ∀ lc, lkL (firstReg b) (ref09_top.cfg N).lp = some lc → LCOk (ref09_top.cfg N) N b lc := HL_nil rfl
theorem ref09_top.cfg_ok (N : Nat) : CfgOk Tryz.prog (ref09_top.cfg N) := mkCfg (.cons ref06_Top.ok .nil) _ _ _ _
theorem ref09_top.ok : CTok Tryz.prog 232 ref09_top.ct := CTok.of2 Tryz.call232 mix Tryz.func232 (Nat.le_of_ble_eq_true (by kernel_rfl)) (fun x root res hres _ _ => ⟨ref09_top.cfg fuel, fuel, ref09_top.cfg_ok fuel, ref09_top.hl fuel, (ref09_top.ev fuel x root).trans hres⟩)

def ref09_Over.cfg (_N : Nat) : Cfg := { T := tys, EQ := eqs, C := [(93, ref07_Inf.ct), (248, ref07_Greatest.ct)], lp := [], un := [], ks := [], keep := [0, 1, 2, 6, 23] }
theorem ref09_Over.ev (N : Nat) (f : Int) (m_ : Int) (neg : Bool) : evFunc (ref09_Over.cfg N) N Tryz.f233 [.v ((dI .u8).enc f), .v ((dI .u8).enc m_), .v (dB.enc neg)] [] 0 dBits.dec = ref09_Over.g f m_ neg := by kernel_rfl
theorem ref09_Over.hl (N : Nat) : ∀ body, Tryz.f233.body = some body → ∀ b ∈ loopsOf body, ∀ lc, lkL (firstReg b) (ref09_Over.cfg N).lp = some lc → LCOk (ref09_Over.cfg N) N b lc := HL_nil rfl
theorem ref09_Over.cfg_ok (N : Nat) : CfgOk Tryz.prog (ref09_Over.cfg N) := mkCfg (.cons ref07_Inf.ok (.cons ref07_Greatest.ok .nil)) _ _ _ _
theorem ref09_Over.ok : CTok Tryz.prog 233 ref09_Over.ct := CTok.of3 Tryz.call233 mix Tryz.func233 (Nat.le_of_ble_eq_true (by kernel_rfl)) (fun f m_ neg res hres _ _ _ => ⟨ref09_Over.cfg fuel, fuel, ref09_Over.cfg_ok fuel, ref09_Over.hl fuel, (ref09_Over.ev fuel f m_ neg).trans hres⟩)

def ref09_last.cfg (_N : Nat) : Cfg := { T := tys, EQ := eqs, C := [], lp := [], un := [], ks := [], keep := [0, 2] }
theorem ref09_last.ev (N : Nat) (a : ByteArray) : evFunc (ref09_last.cfg N) N Tryz.f249 [.v (dS.enc a)] [] 0 dB.dec = ref09_last.g a := by kernel_rfl
theorem ref09_last.hl (N : Nat) : ∀ body, Tryz.f249.body = some body → ∀ b ∈ loopsOf body, ∀ lc, lkL (firstReg b) (ref09_last.cfg N).lp = some lc → LCOk (ref09_last.cfg N) N b lc := HL_nil rfl
theorem ref09_last.cfg_ok (N : Nat) : CfgOk Tryz.prog (ref09_last.cfg N) := mkCfg .nil _ _ _ _
theorem ref09_last.ok : CTok Tryz.prog 249 ref09_last.ct := CTok.of1 Tryz.call249 mix Tryz.func249 (Nat.le_of_ble_eq_true (by kernel_rfl)) (fun a res hres _ => ⟨ref09_last.cfg fuel, fuel, ref09_last.cfg_ok fuel, ref09_last.hl fuel, (ref09_last.ev fuel a).trans hres⟩)

def ref09_find.cfg (_N : Nat) : Cfg := { T := tys, EQ := eqs, C := [(160, ref06_Floor.ct), (249, ref09_last.ct), (250, ref05_Sqrt.ct)], lp := [], un := [], ks := [], keep := [0, 1, 2, 3, 6, 7, 8, 9, 11, 12, 14, 15, 17, 18, 19, 23, 35, 46, 48, 73, 90, 96] }
theorem ref09_find.ev (N : Nat) (x : Exc) (root : Bool) (at_ : Int) : evFunc (ref09_find.cfg N) N Tryz.f234 [.v (dExc.enc x), .v (dB.enc root), .v ((dI .i64).enc at_)] [] 0 dFnd.dec = ref09_find.g x root at_ := by kernel_rfl
theorem ref09_find.hl (N : Nat) : ∀ body, Tryz.f234.body = some body → ∀ b ∈ loopsOf body, ∀ lc, lkL (firstReg b) (ref09_find.cfg N).lp = some lc → LCOk (ref09_find.cfg N) N b lc := HL_nil rfl
theorem ref09_find.cfg_ok (N : Nat) : CfgOk Tryz.prog (ref09_find.cfg N) := mkCfg (.cons ref06_Floor.ok (.cons ref09_last.ok (.cons ref05_Sqrt.ok .nil))) _ _ _ _
theorem ref09_find.ok : CTok Tryz.prog 234 ref09_find.ct := CTok.of3 Tryz.call234 mix Tryz.func234 (Nat.le_of_ble_eq_true (by kernel_rfl)) (fun x root at_ res hres _ _ _ => ⟨ref09_find.cfg fuel, fuel, ref09_find.cfg_ok fuel, ref09_find.hl fuel, (ref09_find.ev fuel x root at_).trans hres⟩)

def ref09_up.cfg (_N : Nat) : Cfg := { T := tys, EQ := eqs, C := [(249, ref09_last.ct)], lp := [], un := [], ks := [], keep := [0, 1, 2, 5, 6, 8, 9, 10, 13, 17, 32] }
theorem ref09_up.ev (N : Nat) (m_ : Int) (neg : Bool) (d : Fnd) : evFunc (ref09_up.cfg N) N Tryz.f251 [.v ((dI .u8).enc m_), .v (dB.enc neg), .v (dFnd.enc d)] [] 0 dB.dec = ref09_up.g m_ neg d := by kernel_rfl
theorem ref09_up.hl (N : Nat) : ∀ body, Tryz.f251.body = some body → ∀ b ∈ loopsOf body, ∀ lc, lkL (firstReg b) (ref09_up.cfg N).lp = some lc → LCOk (ref09_up.cfg N) N b lc := HL_nil rfl
theorem ref09_up.cfg_ok (N : Nat) : CfgOk Tryz.prog (ref09_up.cfg N) := mkCfg (.cons ref09_last.ok .nil) _ _ _ _
theorem ref09_up.ok : CTok Tryz.prog 251 ref09_up.ct := CTok.of3 Tryz.call251 mix Tryz.func251 (Nat.le_of_ble_eq_true (by kernel_rfl)) (fun m_ neg d res hres _ _ _ => ⟨ref09_up.cfg fuel, fuel, ref09_up.cfg_ok fuel, ref09_up.hl fuel, (ref09_up.ev fuel m_ neg d).trans hres⟩)

def ref09_taken.cfg (_N : Nat) : Cfg := { T := tys, EQ := eqs, C := [(163, ref05_Add.ct), (251, ref09_up.ct)], lp := [], un := [], ks := [], keep := [0, 1, 2, 5, 6, 7, 13] }
theorem ref09_taken.ev (N : Nat) (m_ : Int) (neg : Bool) (d : Fnd) : evFunc (ref09_taken.cfg N) N Tryz.f235 [.v ((dI .u8).enc m_), .v (dB.enc neg), .v (dFnd.enc d)] [] 0 dS.dec = ref09_taken.g m_ neg d := by kernel_rfl
theorem ref09_taken.hl (N : Nat) : ∀ body, Tryz.f235.body = some body → ∀ b ∈ loopsOf body, ∀ lc, lkL (firstReg b) (ref09_taken.cfg N).lp = some lc → LCOk (ref09_taken.cfg N) N b lc := HL_nil rfl
theorem ref09_taken.cfg_ok (N : Nat) : CfgOk Tryz.prog (ref09_taken.cfg N) := mkCfg (.cons ref05_Add.ok (.cons ref09_up.ok .nil)) _ _ _ _
theorem ref09_taken.ok : CTok Tryz.prog 235 ref09_taken.ct := CTok.of3 Tryz.call235 mix Tryz.func235 (Nat.le_of_ble_eq_true (by kernel_rfl)) (fun m_ neg d res hres _ _ _ => ⟨ref09_taken.cfg fuel, fuel, ref09_taken.cfg_ok fuel, ref09_taken.hl fuel, (ref09_taken.ev fuel m_ neg d).trans hres⟩)

def ref09_tiny.cfg (_N : Nat) : Cfg := { T := tys, EQ := eqs, C := [(190, ref07_Precision.ct), (197, ref07_Emin.ct), (227, ref05_Len.ct), (232, ref09_top.ct), (234, ref09_find.ct), (235, ref09_taken.ct)], lp := [], un := [], ks := [], keep := [0, 1, 2, 3, 6, 8, 9, 10, 11, 19, 23] }
theorem ref09_tiny.ev (N : Nat) (f : Int) (m_ : Int) (x : Exc) (root : Bool) : evFunc (ref09_tiny.cfg N) N Tryz.f236 [.v ((dI .u8).enc f), .v ((dI .u8).enc m_), .v (dExc.enc x), .v (dB.enc root)] [] 0 dB.dec = ref09_tiny.g f m_ x root := by kernel_rfl
theorem ref09_tiny.hl (N : Nat) : ∀ body, Tryz.f236.body = some body → ∀ b ∈ loopsOf body, ∀ lc, lkL (firstReg b) (ref09_tiny.cfg N).lp = some lc → LCOk (ref09_tiny.cfg N) N b lc := HL_nil rfl
theorem ref09_tiny.cfg_ok (N : Nat) : CfgOk Tryz.prog (ref09_tiny.cfg N) := mkCfg (.cons ref07_Precision.ok (.cons ref07_Emin.ok (.cons ref05_Len.ok (.cons ref09_top.ok (.cons ref09_find.ok (.cons ref09_taken.ok .nil)))))) _ _ _ _
theorem ref09_tiny.ok : CTok Tryz.prog 236 ref09_tiny.ct := CTok.of4 Tryz.call236 mix Tryz.func236 (Nat.le_of_ble_eq_true (by kernel_rfl)) (fun f m_ x root res hres _ _ _ _ => ⟨ref09_tiny.cfg fuel, fuel, ref09_tiny.cfg_ok fuel, ref09_tiny.hl fuel, (ref09_tiny.ev fuel f m_ x root).trans hres⟩)

def ref09_deliver.cfg (_N : Nat) : Cfg := { T := tys, EQ := eqs, C := [(77, ref06_Make.ct), (95, ref07_Zero.ct), (98, ref08_Of.ct), (190, ref07_Precision.ct), (196, ref07_Emax.ct), (197, ref07_Emin.ct), (232, ref09_top.ct), (233, ref09_Over.ct), (234, ref09_find.ct), (235, ref09_taken.ct), (236, ref09_tiny.ct)], lp := [], un := [], ks := [], keep := [0, 1, 2, 3, 6, 8, 9, 10, 11, 12, 13, 14, 16, 17, 26, 36, 61, 73, 80, 86] }
theorem ref09_deliver.ev (N : Nat) (f : Int) (m_ : Int) (x : Exc) (root : Bool) : evFunc (ref09_deliver.cfg N) N Tryz.f182 [.v ((dI .u8).enc f), .v ((dI .u8).enc m_), .v (dExc.enc x), .v (dB.enc root)] [] 0 (dT2 dBits (dI .u8)).dec = ref09_deliver.g f m_ x root := by kernel_rfl
theorem ref09_deliver.hl (N : Nat) : ∀ body, Tryz.f182.body = some body → ∀ b ∈ loopsOf body, ∀ lc, lkL (firstReg b) (ref09_deliver.cfg N).lp = some lc → LCOk (ref09_deliver.cfg N) N b lc := HL_nil rfl
theorem ref09_deliver.cfg_ok (N : Nat) : CfgOk Tryz.prog (ref09_deliver.cfg N) := mkCfg (.cons ref06_Make.ok (.cons ref07_Zero.ok (.cons ref08_Of.ok (.cons ref07_Precision.ok (.cons ref07_Emax.ok (.cons ref07_Emin.ok (.cons ref09_top.ok (.cons ref09_Over.ok (.cons ref09_find.ok (.cons ref09_taken.ok (.cons ref09_tiny.ok .nil))))))))))) _ _ _ _
theorem ref09_deliver.ok : CTok Tryz.prog 182 ref09_deliver.ct := CTok.of4 Tryz.call182 mix Tryz.func182 (Nat.le_of_ble_eq_true (by kernel_rfl)) (fun f m_ x root res hres _ _ _ _ => ⟨ref09_deliver.cfg fuel, fuel, ref09_deliver.cfg_ok fuel, ref09_deliver.hl fuel, (ref09_deliver.ev fuel f m_ x root).trans hres⟩)

def ref09_Round.cfg (_N : Nat) : Cfg := { T := tys, EQ := eqs, C := [(181, ref09_Fault.ct), (182, ref09_deliver.ct)], lp := [], un := [], ks := [], keep := [0, 1, 2, 5, 6, 7, 8, 9, 10, 11, 22] }
theorem ref09_Round.ev (N : Nat) (f : Int) (m_ : Int) (x : Exc) : evFunc (ref09_Round.cfg N) N Tryz.f78 [.v ((dI .u8).enc f), .v ((dI .u8).enc m_), .v (dExc.enc x)] [] 0 (dT3 dBits (dI .u8) (dI .i64)).dec = ref09_Round.g f m_ x := by kernel_rfl
theorem ref09_Round.hl (N : Nat) : ∀ body, Tryz.f78.body = some body → ∀ b ∈ loopsOf body, ∀ lc, lkL (firstReg b) (ref09_Round.cfg N).lp = some lc → LCOk (ref09_Round.cfg N) N b lc := HL_nil rfl
theorem ref09_Round.cfg_ok (N : Nat) : CfgOk Tryz.prog (ref09_Round.cfg N) := mkCfg (.cons ref09_Fault.ok (.cons ref09_deliver.ok .nil)) _ _ _ _
theorem ref09_Round.ok : CTok Tryz.prog 78 ref09_Round.ct := CTok.of3 Tryz.call78 mix Tryz.func78 (Nat.le_of_ble_eq_true (by kernel_rfl)) (fun f m_ x res hres _ _ _ => ⟨ref09_Round.cfg fuel, fuel, ref09_Round.cfg_ok fuel, ref09_Round.hl fuel, (ref09_Round.ev fuel f m_ x).trans hres⟩)

def ref09_Root.cfg (_N : Nat) : Cfg := { T := tys, EQ := eqs, C := [(181, ref09_Fault.ct), (182, ref09_deliver.ct)], lp := [], un := [], ks := [], keep := [0, 1, 2, 5, 6, 7, 8, 9, 10, 11, 21, 28, 32] }
theorem ref09_Root.ev (N : Nat) (f : Int) (m_ : Int) (x : Exc) : evFunc (ref09_Root.cfg N) N Tryz.f120 [.v ((dI .u8).enc f), .v ((dI .u8).enc m_), .v (dExc.enc x)] [] 0 (dT3 dBits (dI .u8) (dI .i64)).dec = ref09_Root.g f m_ x := by kernel_rfl
theorem ref09_Root.hl (N : Nat) : ∀ body, Tryz.f120.body = some body → ∀ b ∈ loopsOf body, ∀ lc, lkL (firstReg b) (ref09_Root.cfg N).lp = some lc → LCOk (ref09_Root.cfg N) N b lc := HL_nil rfl
theorem ref09_Root.cfg_ok (N : Nat) : CfgOk Tryz.prog (ref09_Root.cfg N) := mkCfg (.cons ref09_Fault.ok (.cons ref09_deliver.ok .nil)) _ _ _ _
theorem ref09_Root.ok : CTok Tryz.prog 120 ref09_Root.ct := CTok.of3 Tryz.call120 mix Tryz.func120 (Nat.le_of_ble_eq_true (by kernel_rfl)) (fun f m_ x res hres _ _ _ => ⟨ref09_Root.cfg fuel, fuel, ref09_Root.cfg_ok fuel, ref09_Root.hl fuel, (ref09_Root.ev fuel f m_ x).trans hres⟩)

def jam_Right.cfg (_N : Nat) : Cfg := { T := tys, EQ := eqs, C := [(210, wide_Right.ct)], lp := [], un := [], ks := [], keep := [0, 1, 2, 4, 5, 6, 13] }
theorem jam_Right.ev (N : Nat) (a : W6) (n : Int) : evFunc (jam_Right.cfg N) N Tryz.f136 [.v (dW.enc a), .v ((dI .i64).enc n)] [] 0 dW.dec = jam_Right.g a n := by kernel_rfl
theorem jam_Right.hl (N : Nat) : ∀ body, Tryz.f136.body = some body → ∀ b ∈ loopsOf body, ∀ lc, lkL (firstReg b) (jam_Right.cfg N).lp = some lc → LCOk (jam_Right.cfg N) N b lc := HL_nil rfl
theorem jam_Right.cfg_ok (N : Nat) : CfgOk Tryz.prog (jam_Right.cfg N) := mkCfg (.cons wide_Right.ok .nil) _ _ _ _
theorem jam_Right.ok : CTok Tryz.prog 136 jam_Right.ct := CTok.of2 Tryz.call136 mix Tryz.func136 (Nat.le_of_ble_eq_true (by kernel_rfl)) (fun a n res hres _ _ => ⟨jam_Right.cfg fuel, fuel, jam_Right.cfg_ok fuel, jam_Right.hl fuel, (jam_Right.ev fuel a n).trans hres⟩)

def jam_Top.cfg (_N : Nat) : Cfg := { T := tys, EQ := eqs, C := [(117, wide_Len.ct), (118, wide_Left.ct), (136, jam_Right.ct)], lp := [], un := [], ks := [], keep := [0, 1, 2, 4, 5, 6, 17, 25] }
theorem jam_Top.ev (N : Nat) (a : W6) (place : Int) : evFunc (jam_Top.cfg N) N Tryz.f214 [.v (dW.enc a), .v ((dI .i64).enc place)] [] 0 (dT3 dW (dI .i64) (dI .i64)).dec = jam_Top.g a place := by kernel_rfl
theorem jam_Top.hl (N : Nat) : ∀ body, Tryz.f214.body = some body → ∀ b ∈ loopsOf body, ∀ lc, lkL (firstReg b) (jam_Top.cfg N).lp = some lc → LCOk (jam_Top.cfg N) N b lc := HL_nil rfl
theorem jam_Top.cfg_ok (N : Nat) : CfgOk Tryz.prog (jam_Top.cfg N) := mkCfg (.cons wide_Len.ok (.cons wide_Left.ok (.cons jam_Right.ok .nil))) _ _ _ _
theorem jam_Top.ok : CTok Tryz.prog 214 jam_Top.ct := CTok.of2 Tryz.call214 mix Tryz.func214 (Nat.le_of_ble_eq_true (by kernel_rfl)) (fun a place res hres _ _ => ⟨jam_Top.cfg fuel, fuel, jam_Top.cfg_ok fuel, jam_Top.hl fuel, (jam_Top.ev fuel a place).trans hres⟩)

end
end Go.Proofs.YtnfbcofieobkkaaGreatDoor
