/- Printed by a program: the contracts of Go functions. -/
import Derived.Test.YtnfbcofieobkkaaDoorPR
import Derived.Test.YtnfbcofieobkkaaDoorAN
namespace Go.Proofs.YtnfbcofieobkkaaDoor
open Go Go.Proofs Ev
set_option linter.unusedVariables false
set_option linter.unusedSimpArgs false
noncomputable section

def jam_Cut.cfg (_N : Nat) : Cfg := { T := tys, EQ := eqs, C := [(58, wide_Bit.ct), (101, wide_Right.ct), (102, wide_And.ct), (103, wide_Mask.ct)], lp := [], un := [], ks := [], keep := [0, 1, 2, 4, 5, 6, 7, 17, 31] }
theorem jam_Cut.ev (N : Nat) (a : W6) (n : Int) : evFunc (jam_Cut.cfg N) N Tryd.f43 [.v (dW.enc a), .v ((dI .i64).enc n)] [] 0 (dT3 dW (dI .i64) dB).dec = jam_Cut.g a n := by kernel_rfl
theorem jam_Cut.hl (N : Nat) : ∀ body, Tryd.f43.body = some body → ∀ b ∈ loopsOf body, ∀ lc, lkL (firstReg b) (jam_Cut.cfg N).lp = some lc → LCOk (jam_Cut.cfg N) N b lc := HL_nil rfl
theorem jam_Cut.cfg_ok (N : Nat) : CfgOk Tryd.prog (jam_Cut.cfg N) := mkCfg (.cons wide_Bit.ok (.cons wide_Right.ok (.cons wide_And.ok (.cons wide_Mask.ok .nil)))) _ _ _ _
theorem jam_Cut.ok : CTok Tryd.prog 43 jam_Cut.ct := CTok.of2 Tryd.call43 mix Tryd.func43 (Nat.le_of_ble_eq_true (by kernel_rfl)) (fun a n res hres _ _ => ⟨jam_Cut.cfg fuel, fuel, jam_Cut.cfg_ok fuel, jam_Cut.hl fuel, (jam_Cut.ev fuel a n).trans hres⟩)

def round_Up.cfg (_N : Nat) : Cfg := { T := tys, EQ := eqs, C := [], lp := [], un := [], ks := [], keep := [0, 1, 2, 3, 4, 10, 11, 12, 13, 24, 28] }
theorem round_Up.ev (N : Nat) (m_ : Int) (neg : Bool) (odd : Bool) (half : Int) (exact : Bool) : evFunc (round_Up.cfg N) N Tryd.f44 [.v ((dI .u8).enc m_), .v (dB.enc neg), .v (dB.enc odd), .v ((dI .i64).enc half), .v (dB.enc exact)] [] 0 dB.dec = round_Up.g m_ neg odd half exact := by kernel_rfl
theorem round_Up.hl (N : Nat) : ∀ body, Tryd.f44.body = some body → ∀ b ∈ loopsOf body, ∀ lc, lkL (firstReg b) (round_Up.cfg N).lp = some lc → LCOk (round_Up.cfg N) N b lc := HL_nil rfl
theorem round_Up.cfg_ok (N : Nat) : CfgOk Tryd.prog (round_Up.cfg N) := mkCfg .nil _ _ _ _
theorem round_Up.ok : CTok Tryd.prog 44 round_Up.ct := CTok.of5 Tryd.call44 mix Tryd.func44 (Nat.le_of_ble_eq_true (by kernel_rfl)) (fun m_ neg odd half exact res hres _ _ _ _ _ => ⟨round_Up.cfg fuel, fuel, round_Up.cfg_ok fuel, round_Up.hl fuel, (round_Up.ev fuel m_ neg odd half exact).trans hres⟩)

def ref10_Up.cfg (_N : Nat) : Cfg := { T := tys, EQ := eqs, C := [], lp := [], un := [], ks := [], keep := [0, 1, 2, 3, 4, 10, 11, 12, 13, 16, 20, 31] }
theorem ref10_Up.ev (N : Nat) (m_ : Int) (neg : Bool) (odd : Bool) (half : Int) (exact : Bool) : evFunc (ref10_Up.cfg N) N Tryd.f112 [.v ((dI .u8).enc m_), .v (dB.enc neg), .v (dB.enc odd), .v ((dI .i64).enc half), .v (dB.enc exact)] [] 0 dB.dec = ref10_Up.g m_ neg odd half exact := by kernel_rfl
theorem ref10_Up.hl (N : Nat) : ∀ body, Tryd.f112.body = some body → ∀ b ∈ loopsOf body, ∀ lc, lkL (firstReg b) (ref10_Up.cfg N).lp = some lc → LCOk (ref10_Up.cfg N) N b lc := HL_nil rfl
theorem ref10_Up.cfg_ok (N : Nat) : CfgOk Tryd.prog (ref10_Up.cfg N) := mkCfg .nil _ _ _ _
theorem ref10_Up.ok : CTok Tryd.prog 112 ref10_Up.ct := CTok.of5 Tryd.call112 mix Tryd.func112 (Nat.le_of_ble_eq_true (by kernel_rfl)) (fun m_ neg odd half exact res hres _ _ _ _ _ => ⟨ref10_Up.cfg fuel, fuel, ref10_Up.cfg_ok fuel, ref10_Up.hl fuel, (ref10_Up.ev fuel m_ neg odd half exact).trans hres⟩)

def round_right.cfg (_N : Nat) : Cfg := { T := tys, EQ := eqs, C := [(17, shape_CheckMode.ct), (29, shape_Check.ct)], lp := [], un := [], ks := [], keep := [0, 1, 4] }
theorem round_right.ev (N : Nat) (f : Int) (m_ : Int) : evFunc (round_right.cfg N) N Tryd.f123 [.v ((dI .u8).enc f), .v ((dI .u8).enc m_)] [] 0 dB.dec = round_right.g f m_ := by kernel_rfl
theorem round_right.hl (N : Nat) : ∀ body, Tryd.f123.body = some body → ∀ b ∈ loopsOf body, ∀ lc, lkL (firstReg b) (round_right.cfg N).lp = some lc → LCOk (round_right.cfg N) N b lc := HL_nil rfl
theorem round_right.cfg_ok (N : Nat) : CfgOk Tryd.prog (round_right.cfg N) := mkCfg (.cons shape_CheckMode.ok (.cons shape_Check.ok .nil)) _ _ _ _
theorem round_right.ok : CTok Tryd.prog 123 round_right.ct := CTok.of2 Tryd.call123 mix Tryd.func123 (Nat.le_of_ble_eq_true (by kernel_rfl)) (fun f m_ res hres _ _ => ⟨round_right.cfg fuel, fuel, round_right.cfg_ok fuel, round_right.hl fuel, (round_right.ev fuel f m_).trans hres⟩)

def round_Over.cfg (_N : Nat) : Cfg := { T := tys, EQ := eqs, C := [(26, shape_Inf.ct), (123, round_right.ct), (152, shape_Greatest.ct)], lp := [], un := [], ks := [], keep := [0, 1, 2, 6, 7, 8, 9, 13, 17] }
theorem round_Over.ev (N : Nat) (f : Int) (m_ : Int) (neg : Bool) : evFunc (round_Over.cfg N) N Tryd.f124 [.v ((dI .u8).enc f), .v ((dI .u8).enc m_), .v (dB.enc neg)] [] 0 (dT3 dBits (dI .u8) (dI .i64)).dec = round_Over.g f m_ neg := by kernel_rfl
theorem round_Over.hl (N : Nat) : ∀ body, Tryd.f124.body = some body → ∀ b ∈ loopsOf body, ∀ lc, lkL (firstReg b) (round_Over.cfg N).lp = some lc → LCOk (round_Over.cfg N) N b lc := HL_nil rfl
theorem round_Over.cfg_ok (N : Nat) : CfgOk Tryd.prog (round_Over.cfg N) := mkCfg (.cons shape_Inf.ok (.cons round_right.ok (.cons shape_Greatest.ok .nil))) _ _ _ _
theorem round_Over.ok : CTok Tryd.prog 124 round_Over.ct := CTok.of3 Tryd.call124 mix Tryd.func124 (Nat.le_of_ble_eq_true (by kernel_rfl)) (fun f m_ neg res hres _ _ _ => ⟨round_Over.cfg fuel, fuel, round_Over.cfg_ok fuel, round_Over.hl fuel, (round_Over.ev fuel f m_ neg).trans hres⟩)

def round_grid.cfg (_N : Nat) : Cfg := { T := tys, EQ := eqs, C := [(42, wide_Left.ct), (43, jam_Cut.ct), (44, round_Up.ct), (45, wide_Add.ct), (46, wide_Of.ct)], lp := [], un := [], ks := [], keep := [0, 1, 2, 4, 6, 7, 8, 9, 15, 37, 39, 49] }
theorem round_grid.ev (N : Nat) (m_ : Int) (x : Rgh) (at_ : Int) : evFunc (round_grid.cfg N) N Tryd.f125 [.v ((dI .u8).enc m_), .v (dRgh.enc x), .v ((dI .i64).enc at_)] [] 0 (dT2 dW dB).dec = round_grid.g m_ x at_ := by kernel_rfl
theorem round_grid.hl (N : Nat) : ∀ body, Tryd.f125.body = some body → ∀ b ∈ loopsOf body, ∀ lc, lkL (firstReg b) (round_grid.cfg N).lp = some lc → LCOk (round_grid.cfg N) N b lc := HL_nil rfl
theorem round_grid.cfg_ok (N : Nat) : CfgOk Tryd.prog (round_grid.cfg N) := mkCfg (.cons wide_Left.ok (.cons jam_Cut.ok (.cons round_Up.ok (.cons wide_Add.ok (.cons wide_Of.ok .nil))))) _ _ _ _
theorem round_grid.ok : CTok Tryd.prog 125 round_grid.ct := CTok.of3 Tryd.call125 mix Tryd.func125 (Nat.le_of_ble_eq_true (by kernel_rfl)) (fun m_ x at_ res hres _ _ _ => ⟨round_grid.cfg fuel, fuel, round_grid.cfg_ok fuel, round_grid.hl fuel, (round_grid.ev fuel m_ x at_).trans hres⟩)

def round_tiny.cfg (_N : Nat) : Cfg := { T := tys, EQ := eqs, C := [(82, shape_Precision.ct), (95, wide_Len.ct), (99, shape_Emin.ct), (125, round_grid.ct)], lp := [], un := [], ks := [], keep := [0, 1, 2, 3, 6, 8, 9, 10, 11, 20] }
theorem round_tiny.ev (N : Nat) (f : Int) (m_ : Int) (x : Rgh) (top : Int) : evFunc (round_tiny.cfg N) N Tryd.f126 [.v ((dI .u8).enc f), .v ((dI .u8).enc m_), .v (dRgh.enc x), .v ((dI .i64).enc top)] [] 0 dB.dec = round_tiny.g f m_ x top := by kernel_rfl
theorem round_tiny.hl (N : Nat) : ∀ body, Tryd.f126.body = some body → ∀ b ∈ loopsOf body, ∀ lc, lkL (firstReg b) (round_tiny.cfg N).lp = some lc → LCOk (round_tiny.cfg N) N b lc := HL_nil rfl
theorem round_tiny.cfg_ok (N : Nat) : CfgOk Tryd.prog (round_tiny.cfg N) := mkCfg (.cons shape_Precision.ok (.cons wide_Len.ok (.cons shape_Emin.ok (.cons round_grid.ok .nil)))) _ _ _ _
theorem round_tiny.ok : CTok Tryd.prog 126 round_tiny.ct := CTok.of4 Tryd.call126 mix Tryd.func126 (Nat.le_of_ble_eq_true (by kernel_rfl)) (fun f m_ x top res hres _ _ _ _ => ⟨round_tiny.cfg fuel, fuel, round_tiny.cfg_ok fuel, round_tiny.hl fuel, (round_tiny.ev fuel f m_ x top).trans hres⟩)

def round_Pack.cfg (_N : Nat) : Cfg := { T := tys, EQ := eqs, C := [(27, shape_Zero.ct), (42, wide_Left.ct), (45, wide_Add.ct), (46, wide_Of.ct), (72, shape_Emax.ct), (82, shape_Precision.ct), (95, wide_Len.ct), (99, shape_Emin.ct), (123, round_right.ct), (124, round_Over.ct), (125, round_grid.ct), (126, round_tiny.ct), (127, wide_ToBits.ct)], lp := [], un := [], ks := [], keep := [0, 1, 2, 5, 6, 7, 8, 9, 10, 11, 12, 13, 14, 15, 16, 18, 20, 22, 50, 55, 72, 101, 111, 118] }
theorem round_Pack.ev (N : Nat) (f : Int) (m_ : Int) (x : Rgh) : evFunc (round_Pack.cfg N) N Tryd.f55 [.v ((dI .u8).enc f), .v ((dI .u8).enc m_), .v (dRgh.enc x)] [] 0 (dT3 dBits (dI .u8) (dI .i64)).dec = round_Pack.g f m_ x := by kernel_rfl
theorem round_Pack.hl (N : Nat) : ∀ body, Tryd.f55.body = some body → ∀ b ∈ loopsOf body, ∀ lc, lkL (firstReg b) (round_Pack.cfg N).lp = some lc → LCOk (round_Pack.cfg N) N b lc := HL_nil rfl
theorem round_Pack.cfg_ok (N : Nat) : CfgOk Tryd.prog (round_Pack.cfg N) := mkCfg (.cons shape_Zero.ok (.cons wide_Left.ok (.cons wide_Add.ok (.cons wide_Of.ok (.cons shape_Emax.ok (.cons shape_Precision.ok (.cons wide_Len.ok (.cons shape_Emin.ok (.cons round_right.ok (.cons round_Over.ok (.cons round_grid.ok (.cons round_tiny.ok (.cons wide_ToBits.ok .nil))))))))))))) _ _ _ _
theorem round_Pack.ok : CTok Tryd.prog 55 round_Pack.ct := CTok.of3 Tryd.call55 mix Tryd.func55 (Nat.le_of_ble_eq_true (by kernel_rfl)) (fun f m_ x res hres _ _ _ => ⟨round_Pack.cfg fuel, fuel, round_Pack.cfg_ok fuel, round_Pack.hl fuel, (round_Pack.ev fuel f m_ x).trans hres⟩)

def jam_Right.cfg (_N : Nat) : Cfg := { T := tys, EQ := eqs, C := [(101, wide_Right.ct)], lp := [], un := [], ks := [], keep := [0, 1, 2, 4, 5, 6, 13] }
theorem jam_Right.ev (N : Nat) (a : W6) (n : Int) : evFunc (jam_Right.cfg N) N Tryd.f67 [.v (dW.enc a), .v ((dI .i64).enc n)] [] 0 dW.dec = jam_Right.g a n := by kernel_rfl
theorem jam_Right.hl (N : Nat) : ∀ body, Tryd.f67.body = some body → ∀ b ∈ loopsOf body, ∀ lc, lkL (firstReg b) (jam_Right.cfg N).lp = some lc → LCOk (jam_Right.cfg N) N b lc := HL_nil rfl
theorem jam_Right.cfg_ok (N : Nat) : CfgOk Tryd.prog (jam_Right.cfg N) := mkCfg (.cons wide_Right.ok .nil) _ _ _ _
theorem jam_Right.ok : CTok Tryd.prog 67 jam_Right.ct := CTok.of2 Tryd.call67 mix Tryd.func67 (Nat.le_of_ble_eq_true (by kernel_rfl)) (fun a n res hres _ _ => ⟨jam_Right.cfg fuel, fuel, jam_Right.cfg_ok fuel, jam_Right.hl fuel, (jam_Right.ev fuel a n).trans hres⟩)

def jam_Top.cfg (_N : Nat) : Cfg := { T := tys, EQ := eqs, C := [(42, wide_Left.ct), (67, jam_Right.ct), (95, wide_Len.ct)], lp := [], un := [], ks := [], keep := [0, 1, 2, 4, 5, 6, 17, 25] }
theorem jam_Top.ev (N : Nat) (a : W6) (place : Int) : evFunc (jam_Top.cfg N) N Tryd.f134 [.v (dW.enc a), .v ((dI .i64).enc place)] [] 0 (dT3 dW (dI .i64) (dI .i64)).dec = jam_Top.g a place := by kernel_rfl
theorem jam_Top.hl (N : Nat) : ∀ body, Tryd.f134.body = some body → ∀ b ∈ loopsOf body, ∀ lc, lkL (firstReg b) (jam_Top.cfg N).lp = some lc → LCOk (jam_Top.cfg N) N b lc := HL_nil rfl
theorem jam_Top.cfg_ok (N : Nat) : CfgOk Tryd.prog (jam_Top.cfg N) := mkCfg (.cons wide_Left.ok (.cons jam_Right.ok (.cons wide_Len.ok .nil))) _ _ _ _
theorem jam_Top.ok : CTok Tryd.prog 134 jam_Top.ct := CTok.of2 Tryd.call134 mix Tryd.func134 (Nat.le_of_ble_eq_true (by kernel_rfl)) (fun a place res hres _ _ => ⟨jam_Top.cfg fuel, fuel, jam_Top.cfg_ok fuel, jam_Top.hl fuel, (jam_Top.ev fuel a place).trans hres⟩)

end
end Go.Proofs.YtnfbcofieobkkaaDoor
