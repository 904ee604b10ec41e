/- Printed by a program: the contracts of Go functions. -/
import Derived.Test.YtnfbcofieobkkaaGreatDoorPA
import Derived.Test.YtnfbcofieobkkaaGreatDoorAR
import Derived.Test.YtnfbcofieobkkaaGreatDoorAH
namespace Go.Proofs.YtnfbcofieobkkaaGreatDoor
open Go Go.Proofs Ev
set_option linter.unusedVariables false
set_option linter.unusedSimpArgs false
noncomputable section

def add_open_2.cfg (_N : Nat) : Cfg := { T := tys, EQ := eqs, C := [(85, kind_Unpack.ct), (86, shape_Check.ct), (87, shape_CheckMode.ct)], lp := [], un := [(4, 6)], ks := [(4, [0, 6, 7, 8, 9, 10, 11, 21, 22, 23, 24, 35])], keep := [0, 1, 2, 6, 7, 8, 9, 10, 11, 19, 21, 22, 23, 24, 35] }
theorem add_open_2.ev (N : Nat) (f : Int) (m_ : Int) (l : (B2 × B2)) : evFunc (add_open_2.cfg N) N Tryz.f131 [.v ((dI .u8).enc f), .v ((dI .u8).enc m_), .s 0 0 2 2] [(0, ⟨false, 27, mB2x2.enc l⟩)] 1 (dT2 dP3 dB).dec = add_open_2.g f m_ l := by kernel_rfl
theorem add_open_2.hl (N : Nat) : ∀ body, Tryz.f131.body = some body → ∀ b ∈ loopsOf body, ∀ lc, lkL (firstReg b) (add_open_2.cfg N).lp = some lc → LCOk (add_open_2.cfg N) N b lc := HL_nil rfl
theorem add_open_2.cfg_ok (N : Nat) : CfgOk Tryz.prog (add_open_2.cfg N) := mkCfg (.cons kind_Unpack.ok (.cons shape_Check.ok (.cons shape_CheckMode.ok .nil))) _ _ _ _
theorem add_open_2.ok : CTok Tryz.prog 131 add_open_2.ct := CTok.ofK2 Tryz.call131 mix Tryz.func131 (Nat.le_of_ble_eq_true (by kernel_rfl)) (fun f m_ l res hres  => ⟨add_open_2.cfg fuel, fuel, add_open_2.cfg_ok fuel, add_open_2.hl fuel, (add_open_2.ev fuel f m_ l).trans hres⟩)

def add_nan.cfg (_N : Nat) : Cfg := { T := tys, EQ := eqs, C := [], lp := [], un := [], ks := [], keep := [0, 1, 2] }
theorem add_nan.ev (N : Nat) (p : Pts) : evFunc (add_nan.cfg N) N Tryz.f132 [.v (dPts.enc p)] [] 0 dB.dec = add_nan.g p := by kernel_rfl
theorem add_nan.hl (N : Nat) : ∀ body, Tryz.f132.body = some body → ∀ b ∈ loopsOf body, ∀ lc, lkL (firstReg b) (add_nan.cfg N).lp = some lc → LCOk (add_nan.cfg N) N b lc := HL_nil rfl
theorem add_nan.cfg_ok (N : Nat) : CfgOk Tryz.prog (add_nan.cfg N) := mkCfg .nil _ _ _ _
theorem add_nan.ok : CTok Tryz.prog 132 add_nan.ct := CTok.of1 Tryz.call132 mix Tryz.func132 (Nat.le_of_ble_eq_true (by kernel_rfl)) (fun p res hres _ => ⟨add_nan.cfg fuel, fuel, add_nan.cfg_ok fuel, add_nan.hl fuel, (add_nan.ev fuel p).trans hres⟩)

def add_canonical_2.cfg (_N : Nat) : Cfg := { T := tys, EQ := eqs, C := [(88, shape_NaN.ct)], lp := [], un := [(3, 6)], ks := [(3, [0, 4, 5, 6, 7, 9, 10, 11, 12, 13, 18])], keep := [0, 1, 4, 5, 6, 7, 9, 10, 11, 12, 13, 18] }
theorem add_canonical_2.ev (N : Nat) (f : Int) (l : (Pts × Pts)) : evFunc (add_canonical_2.cfg N) N Tryz.f133 [.v ((dI .u8).enc f), .s 0 0 2 2] [(0, ⟨false, 111, mPx2.enc l⟩)] 1 (dT3 dBits (dI .u8) (dI .i64)).dec = add_canonical_2.g f l := by kernel_rfl
theorem add_canonical_2.hl (N : Nat) : ∀ body, Tryz.f133.body = some body → ∀ b ∈ loopsOf body, ∀ lc, lkL (firstReg b) (add_canonical_2.cfg N).lp = some lc → LCOk (add_canonical_2.cfg N) N b lc := HL_nil rfl
theorem add_canonical_2.cfg_ok (N : Nat) : CfgOk Tryz.prog (add_canonical_2.cfg N) := mkCfg (.cons shape_NaN.ok .nil) _ _ _ _
theorem add_canonical_2.ok : CTok Tryz.prog 133 add_canonical_2.ct := CTok.ofK1 Tryz.call133 mix Tryz.func133 (Nat.le_of_ble_eq_true (by kernel_rfl)) (fun f l res hres  => ⟨add_canonical_2.cfg fuel, fuel, add_canonical_2.cfg_ok fuel, add_canonical_2.hl fuel, (add_canonical_2.ev fuel f l).trans hres⟩)

def add_inf.cfg (_N : Nat) : Cfg := { T := tys, EQ := eqs, C := [], lp := [], un := [], ks := [], keep := [0, 1, 2] }
theorem add_inf.ev (N : Nat) (p : Pts) : evFunc (add_inf.cfg N) N Tryz.f134 [.v (dPts.enc p)] [] 0 dB.dec = add_inf.g p := by kernel_rfl
theorem add_inf.hl (N : Nat) : ∀ body, Tryz.f134.body = some body → ∀ b ∈ loopsOf body, ∀ lc, lkL (firstReg b) (add_inf.cfg N).lp = some lc → LCOk (add_inf.cfg N) N b lc := HL_nil rfl
theorem add_inf.cfg_ok (N : Nat) : CfgOk Tryz.prog (add_inf.cfg N) := mkCfg .nil _ _ _ _
theorem add_inf.ok : CTok Tryz.prog 134 add_inf.ct := CTok.of1 Tryz.call134 mix Tryz.func134 (Nat.le_of_ble_eq_true (by kernel_rfl)) (fun p res hres _ => ⟨add_inf.cfg fuel, fuel, add_inf.cfg_ok fuel, add_inf.hl fuel, (add_inf.ev fuel p).trans hres⟩)

def add_nought.cfg (_N : Nat) : Cfg := { T := tys, EQ := eqs, C := [], lp := [], un := [], ks := [], keep := [0, 1, 2] }
theorem add_nought.ev (N : Nat) (p : Pts) : evFunc (add_nought.cfg N) N Tryz.f135 [.v (dPts.enc p)] [] 0 dB.dec = add_nought.g p := by kernel_rfl
theorem add_nought.hl (N : Nat) : ∀ body, Tryz.f135.body = some body → ∀ b ∈ loopsOf body, ∀ lc, lkL (firstReg b) (add_nought.cfg N).lp = some lc → LCOk (add_nought.cfg N) N b lc := HL_nil rfl
theorem add_nought.cfg_ok (N : Nat) : CfgOk Tryz.prog (add_nought.cfg N) := mkCfg .nil _ _ _ _
theorem add_nought.ok : CTok Tryz.prog 135 add_nought.ct := CTok.of1 Tryz.call135 mix Tryz.func135 (Nat.le_of_ble_eq_true (by kernel_rfl)) (fun p res hres _ => ⟨add_nought.cfg fuel, fuel, add_nought.cfg_ok fuel, add_nought.hl fuel, (add_nought.ev fuel p).trans hres⟩)

def add_below.cfg (_N : Nat) : Cfg := { T := tys, EQ := eqs, C := [], lp := [], un := [], ks := [], keep := [0, 1, 2] }
theorem add_below.ev (N : Nat) (p : Pts) : evFunc (add_below.cfg N) N Tryz.f137 [.v (dPts.enc p)] [] 0 dB.dec = add_below.g p := by kernel_rfl
theorem add_below.hl (N : Nat) : ∀ body, Tryz.f137.body = some body → ∀ b ∈ loopsOf body, ∀ lc, lkL (firstReg b) (add_below.cfg N).lp = some lc → LCOk (add_below.cfg N) N b lc := HL_nil rfl
theorem add_below.cfg_ok (N : Nat) : CfgOk Tryz.prog (add_below.cfg N) := mkCfg .nil _ _ _ _
theorem add_below.ok : CTok Tryz.prog 137 add_below.ct := CTok.of1 Tryz.call137 mix Tryz.func137 (Nat.le_of_ble_eq_true (by kernel_rfl)) (fun p res hres _ => ⟨add_below.cfg fuel, fuel, add_below.cfg_ok fuel, add_below.hl fuel, (add_below.ev fuel p).trans hres⟩)

def add_Add.cfg (_N : Nat) : Cfg := { T := tys, EQ := eqs, C := [(60, wide_Cmp.ct), (75, round_Pack.ct), (88, shape_NaN.ct), (105, shape_Zero.ct), (118, wide_Left.ct), (131, add_open_2.ct), (132, add_nan.ct), (133, add_canonical_2.ct), (134, add_inf.ct), (135, add_nought.ct), (136, jam_Right.ct), (137, add_below.ct), (138, wide_Add.ct), (139, wide_Sub.ct)], lp := [], un := [], ks := [], keep := [0, 1, 2, 3, 6, 7, 8, 9, 10, 11, 12, 13, 14, 15, 16, 18, 19, 21, 32, 38, 53, 69, 73, 77, 88, 94, 98, 106, 152, 162, 173, 179] }
theorem add_Add.ev (N : Nat) (f : Int) (m_ : Int) (a : B2) (b : B2) : evFunc (add_Add.cfg N) N Tryz.f40 [.v ((dI .u8).enc f), .v ((dI .u8).enc m_), .v (dBits.enc a), .v (dBits.enc b)] [] 0 (dT3 dBits (dI .u8) (dI .i64)).dec = add_Add.g f m_ a b := by kernel_rfl
theorem add_Add.hl (N : Nat) : ∀ body, Tryz.f40.body = some body → ∀ b ∈ loopsOf body, ∀ lc, lkL (firstReg b) (add_Add.cfg N).lp = some lc → LCOk (add_Add.cfg N) N b lc := HL_nil rfl
theorem add_Add.cfg_ok (N : Nat) : CfgOk Tryz.prog (add_Add.cfg N) := mkCfg (.cons wide_Cmp.ok (.cons round_Pack.ok (.cons shape_NaN.ok (.cons shape_Zero.ok (.cons wide_Left.ok (.cons add_open_2.ok (.cons add_nan.ok (.cons add_canonical_2.ok (.cons add_inf.ok (.cons add_nought.ok (.cons jam_Right.ok (.cons add_below.ok (.cons wide_Add.ok (.cons wide_Sub.ok .nil)))))))))))))) _ _ _ _
theorem add_Add.ok : CTok Tryz.prog 40 add_Add.ct := CTok.of4 Tryz.call40 mix Tryz.func40 (Nat.le_of_ble_eq_true (by kernel_rfl)) (fun f m_ a b res hres _ _ _ _ => ⟨add_Add.cfg fuel, fuel, add_Add.cfg_ok fuel, add_Add.hl fuel, (add_Add.ev fuel f m_ a b).trans hres⟩)

def ref11_Add.cfg (_N : Nat) : Cfg := { T := tys, EQ := eqs, C := [(65, ref08_IsNaN.ct), (67, ref08_IsInf.ct), (78, ref09_Round.ct), (92, ref07_NaN.ct), (94, ref08_IsZero.ct), (96, ref08_Value.ct), (107, ref11_Fits_2.ct), (108, ref11_Canonical_2.ct), (140, ref11_Nought.ct), (141, ref06_Add.ct)], lp := [], un := [], ks := [], keep := [0, 1, 2, 3, 6, 7, 8, 9, 10, 11, 12, 13, 15, 17, 25, 34, 57, 62, 66, 75, 78, 103] }
theorem ref11_Add.ev (N : Nat) (f : Int) (m_ : Int) (a : B2) (b : B2) : evFunc (ref11_Add.cfg N) N Tryz.f41 [.v ((dI .u8).enc f), .v ((dI .u8).enc m_), .v (dBits.enc a), .v (dBits.enc b)] [] 0 (dT3 dBits (dI .u8) (dI .i64)).dec = ref11_Add.g f m_ a b := by kernel_rfl
theorem ref11_Add.hl (N : Nat) : ∀ body, Tryz.f41.body = some body → ∀ b ∈ loopsOf body, ∀ lc, lkL (firstReg b) (ref11_Add.cfg N).lp = some lc → LCOk (ref11_Add.cfg N) N b lc := HL_nil rfl
theorem ref11_Add.cfg_ok (N : Nat) : CfgOk Tryz.prog (ref11_Add.cfg N) := mkCfg (.cons ref08_IsNaN.ok (.cons ref08_IsInf.ok (.cons ref09_Round.ok (.cons ref07_NaN.ok (.cons ref08_IsZero.ok (.cons ref08_Value.ok (.cons ref11_Fits_2.ok (.cons ref11_Canonical_2.ok (.cons ref11_Nought.ok (.cons ref06_Add.ok .nil)))))))))) _ _ _ _
theorem ref11_Add.ok : CTok Tryz.prog 41 ref11_Add.ct := CTok.of4 Tryz.call41 mix Tryz.func41 (Nat.le_of_ble_eq_true (by kernel_rfl)) (fun f m_ a b res hres _ _ _ _ => ⟨ref11_Add.cfg fuel, fuel, ref11_Add.cfg_ok fuel, ref11_Add.hl fuel, (ref11_Add.ev fuel f m_ a b).trans hres⟩)

def add_Sub.cfg (_N : Nat) : Cfg := { T := tys, EQ := eqs, C := [(40, add_Add.ct), (128, shape_Fits.ct), (142, kind_Flip.ct)], lp := [], un := [], ks := [], keep := [0, 1, 2, 3, 6, 7, 8, 9, 10, 14] }
theorem add_Sub.ev (N : Nat) (f : Int) (m_ : Int) (a : B2) (b : B2) : evFunc (add_Sub.cfg N) N Tryz.f42 [.v ((dI .u8).enc f), .v ((dI .u8).enc m_), .v (dBits.enc a), .v (dBits.enc b)] [] 0 (dT3 dBits (dI .u8) (dI .i64)).dec = add_Sub.g f m_ a b := by kernel_rfl
theorem add_Sub.hl (N : Nat) : ∀ body, Tryz.f42.body = some body → ∀ b ∈ loopsOf body, ∀ lc, lkL (firstReg b) (add_Sub.cfg N).lp = some lc → LCOk (add_Sub.cfg N) N b lc := HL_nil rfl
theorem add_Sub.cfg_ok (N : Nat) : CfgOk Tryz.prog (add_Sub.cfg N) := mkCfg (.cons add_Add.ok (.cons shape_Fits.ok (.cons kind_Flip.ok .nil))) _ _ _ _
theorem add_Sub.ok : CTok Tryz.prog 42 add_Sub.ct := CTok.of4 Tryz.call42 mix Tryz.func42 (Nat.le_of_ble_eq_true (by kernel_rfl)) (fun f m_ a b res hres _ _ _ _ => ⟨add_Sub.cfg fuel, fuel, add_Sub.cfg_ok fuel, add_Sub.hl fuel, (add_Sub.ev fuel f m_ a b).trans hres⟩)

def ref11_Sub.cfg (_N : Nat) : Cfg := { T := tys, EQ := eqs, C := [(41, ref11_Add.ct), (107, ref11_Fits_2.ct), (143, ref08_Flip.ct)], lp := [], un := [], ks := [], keep := [0, 1, 2, 3, 6, 7, 8, 9, 10, 17] }
theorem ref11_Sub.ev (N : Nat) (f : Int) (m_ : Int) (a : B2) (b : B2) : evFunc (ref11_Sub.cfg N) N Tryz.f43 [.v ((dI .u8).enc f), .v ((dI .u8).enc m_), .v (dBits.enc a), .v (dBits.enc b)] [] 0 (dT3 dBits (dI .u8) (dI .i64)).dec = ref11_Sub.g f m_ a b := by kernel_rfl
theorem ref11_Sub.hl (N : Nat) : ∀ body, Tryz.f43.body = some body → ∀ b ∈ loopsOf body, ∀ lc, lkL (firstReg b) (ref11_Sub.cfg N).lp = some lc → LCOk (ref11_Sub.cfg N) N b lc := HL_nil rfl
theorem ref11_Sub.cfg_ok (N : Nat) : CfgOk Tryz.prog (ref11_Sub.cfg N) := mkCfg (.cons ref11_Add.ok (.cons ref11_Fits_2.ok (.cons ref08_Flip.ok .nil))) _ _ _ _
theorem ref11_Sub.ok : CTok Tryz.prog 43 ref11_Sub.ct := CTok.of4 Tryz.call43 mix Tryz.func43 (Nat.le_of_ble_eq_true (by kernel_rfl)) (fun f m_ a b res hres _ _ _ _ => ⟨ref11_Sub.cfg fuel, fuel, ref11_Sub.cfg_ok fuel, ref11_Sub.hl fuel, (ref11_Sub.ev fuel f m_ a b).trans hres⟩)

end
end Go.Proofs.YtnfbcofieobkkaaGreatDoor
