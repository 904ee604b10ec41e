/- Printed by a program: the contracts of Go functions. -/
import Derived.Test.YtnfbcofieobkkaaGreatDoorPM
import Derived.Test.YtnfbcofieobkkaaGreatDoorAR
import Derived.Test.YtnfbcofieobkkaaGreatDoorAH
namespace Go.Proofs.YtnfbcofieobkkaaGreatDoor
open Go Go.Proofs Ev
set_option linter.unusedVariables false
set_option linter.unusedSimpArgs false
noncomputable section

def mul_open_2.cfg (_N : Nat) : Cfg := { T := tys, EQ := eqs, C := [(85, kind_Unpack.ct), (86, shape_Check.ct), (87, shape_CheckMode.ct)], lp := [], un := [(4, 6)], ks := [(4, [0, 6, 7, 8, 9, 10, 11, 21, 22, 23, 24, 35])], keep := [0, 1, 2, 6, 7, 8, 9, 10, 11, 19, 21, 22, 23, 24, 35] }
theorem mul_open_2.ev (N : Nat) (f : Int) (m_ : Int) (l : (B2 × B2)) : evFunc (mul_open_2.cfg N) N Tryz.f99 [.v ((dI .u8).enc f), .v ((dI .u8).enc m_), .s 0 0 2 2] [(0, ⟨false, 27, mB2x2.enc l⟩)] 1 (dT2 dP3 dB).dec = mul_open_2.g f m_ l := by kernel_rfl
theorem mul_open_2.hl (N : Nat) : ∀ body, Tryz.f99.body = some body → ∀ b ∈ loopsOf body, ∀ lc, lkL (firstReg b) (mul_open_2.cfg N).lp = some lc → LCOk (mul_open_2.cfg N) N b lc := HL_nil rfl
theorem mul_open_2.cfg_ok (N : Nat) : CfgOk Tryz.prog (mul_open_2.cfg N) := mkCfg (.cons kind_Unpack.ok (.cons shape_Check.ok (.cons shape_CheckMode.ok .nil))) _ _ _ _
theorem mul_open_2.ok : CTok Tryz.prog 99 mul_open_2.ct := CTok.ofK2 Tryz.call99 mix Tryz.func99 (Nat.le_of_ble_eq_true (by kernel_rfl)) (fun f m_ l res hres  => ⟨mul_open_2.cfg fuel, fuel, mul_open_2.cfg_ok fuel, mul_open_2.hl fuel, (mul_open_2.ev fuel f m_ l).trans hres⟩)

def mul_below.cfg (_N : Nat) : Cfg := { T := tys, EQ := eqs, C := [], lp := [], un := [], ks := [], keep := [0, 1, 2] }
theorem mul_below.ev (N : Nat) (p : Pts) : evFunc (mul_below.cfg N) N Tryz.f100 [.v (dPts.enc p)] [] 0 dB.dec = mul_below.g p := by kernel_rfl
theorem mul_below.hl (N : Nat) : ∀ body, Tryz.f100.body = some body → ∀ b ∈ loopsOf body, ∀ lc, lkL (firstReg b) (mul_below.cfg N).lp = some lc → LCOk (mul_below.cfg N) N b lc := HL_nil rfl
theorem mul_below.cfg_ok (N : Nat) : CfgOk Tryz.prog (mul_below.cfg N) := mkCfg .nil _ _ _ _
theorem mul_below.ok : CTok Tryz.prog 100 mul_below.ct := CTok.of1 Tryz.call100 mix Tryz.func100 (Nat.le_of_ble_eq_true (by kernel_rfl)) (fun p res hres _ => ⟨mul_below.cfg fuel, fuel, mul_below.cfg_ok fuel, mul_below.hl fuel, (mul_below.ev fuel p).trans hres⟩)

def mul_nan.cfg (_N : Nat) : Cfg := { T := tys, EQ := eqs, C := [], lp := [], un := [], ks := [], keep := [0, 1, 2] }
theorem mul_nan.ev (N : Nat) (p : Pts) : evFunc (mul_nan.cfg N) N Tryz.f101 [.v (dPts.enc p)] [] 0 dB.dec = mul_nan.g p := by kernel_rfl
theorem mul_nan.hl (N : Nat) : ∀ body, Tryz.f101.body = some body → ∀ b ∈ loopsOf body, ∀ lc, lkL (firstReg b) (mul_nan.cfg N).lp = some lc → LCOk (mul_nan.cfg N) N b lc := HL_nil rfl
theorem mul_nan.cfg_ok (N : Nat) : CfgOk Tryz.prog (mul_nan.cfg N) := mkCfg .nil _ _ _ _
theorem mul_nan.ok : CTok Tryz.prog 101 mul_nan.ct := CTok.of1 Tryz.call101 mix Tryz.func101 (Nat.le_of_ble_eq_true (by kernel_rfl)) (fun p res hres _ => ⟨mul_nan.cfg fuel, fuel, mul_nan.cfg_ok fuel, mul_nan.hl fuel, (mul_nan.ev fuel p).trans hres⟩)

def mul_canonical_2.cfg (_N : Nat) : Cfg := { T := tys, EQ := eqs, C := [(88, shape_NaN.ct)], lp := [], un := [(3, 6)], ks := [(3, [0, 4, 5, 6, 7, 9, 10, 11, 12, 13, 18])], keep := [0, 1, 4, 5, 6, 7, 9, 10, 11, 12, 13, 18] }
theorem mul_canonical_2.ev (N : Nat) (f : Int) (l : (Pts × Pts)) : evFunc (mul_canonical_2.cfg N) N Tryz.f102 [.v ((dI .u8).enc f), .s 0 0 2 2] [(0, ⟨false, 111, mPx2.enc l⟩)] 1 (dT3 dBits (dI .u8) (dI .i64)).dec = mul_canonical_2.g f l := by kernel_rfl
theorem mul_canonical_2.hl (N : Nat) : ∀ body, Tryz.f102.body = some body → ∀ b ∈ loopsOf body, ∀ lc, lkL (firstReg b) (mul_canonical_2.cfg N).lp = some lc → LCOk (mul_canonical_2.cfg N) N b lc := HL_nil rfl
theorem mul_canonical_2.cfg_ok (N : Nat) : CfgOk Tryz.prog (mul_canonical_2.cfg N) := mkCfg (.cons shape_NaN.ok .nil) _ _ _ _
theorem mul_canonical_2.ok : CTok Tryz.prog 102 mul_canonical_2.ct := CTok.ofK1 Tryz.call102 mix Tryz.func102 (Nat.le_of_ble_eq_true (by kernel_rfl)) (fun f l res hres  => ⟨mul_canonical_2.cfg fuel, fuel, mul_canonical_2.cfg_ok fuel, mul_canonical_2.hl fuel, (mul_canonical_2.ev fuel f l).trans hres⟩)

def mul_inf.cfg (_N : Nat) : Cfg := { T := tys, EQ := eqs, C := [], lp := [], un := [], ks := [], keep := [0, 1, 2] }
theorem mul_inf.ev (N : Nat) (p : Pts) : evFunc (mul_inf.cfg N) N Tryz.f103 [.v (dPts.enc p)] [] 0 dB.dec = mul_inf.g p := by kernel_rfl
theorem mul_inf.hl (N : Nat) : ∀ body, Tryz.f103.body = some body → ∀ b ∈ loopsOf body, ∀ lc, lkL (firstReg b) (mul_inf.cfg N).lp = some lc → LCOk (mul_inf.cfg N) N b lc := HL_nil rfl
theorem mul_inf.cfg_ok (N : Nat) : CfgOk Tryz.prog (mul_inf.cfg N) := mkCfg .nil _ _ _ _
theorem mul_inf.ok : CTok Tryz.prog 103 mul_inf.ct := CTok.of1 Tryz.call103 mix Tryz.func103 (Nat.le_of_ble_eq_true (by kernel_rfl)) (fun p res hres _ => ⟨mul_inf.cfg fuel, fuel, mul_inf.cfg_ok fuel, mul_inf.hl fuel, (mul_inf.ev fuel p).trans hres⟩)

def mul_nought.cfg (_N : Nat) : Cfg := { T := tys, EQ := eqs, C := [], lp := [], un := [], ks := [], keep := [0, 1, 2] }
theorem mul_nought.ev (N : Nat) (p : Pts) : evFunc (mul_nought.cfg N) N Tryz.f104 [.v (dPts.enc p)] [] 0 dB.dec = mul_nought.g p := by kernel_rfl
theorem mul_nought.hl (N : Nat) : ∀ body, Tryz.f104.body = some body → ∀ b ∈ loopsOf body, ∀ lc, lkL (firstReg b) (mul_nought.cfg N).lp = some lc → LCOk (mul_nought.cfg N) N b lc := HL_nil rfl
theorem mul_nought.cfg_ok (N : Nat) : CfgOk Tryz.prog (mul_nought.cfg N) := mkCfg .nil _ _ _ _
theorem mul_nought.ok : CTok Tryz.prog 104 mul_nought.ct := CTok.of1 Tryz.call104 mix Tryz.func104 (Nat.le_of_ble_eq_true (by kernel_rfl)) (fun p res hres _ => ⟨mul_nought.cfg fuel, fuel, mul_nought.cfg_ok fuel, mul_nought.hl fuel, (mul_nought.ev fuel p).trans hres⟩)

def mul_Mul.cfg (_N : Nat) : Cfg := { T := tys, EQ := eqs, C := [(75, round_Pack.ct), (88, shape_NaN.ct), (90, shape_Inf.ct), (99, mul_open_2.ct), (100, mul_below.ct), (101, mul_nan.ct), (102, mul_canonical_2.ct), (103, mul_inf.ct), (104, mul_nought.ct), (105, shape_Zero.ct), (106, wide_Mul.ct)], lp := [], un := [], ks := [], keep := [0, 1, 2, 3, 6, 7, 8, 9, 10, 11, 12, 13, 14, 15, 16, 28, 39, 54, 71, 81] }
theorem mul_Mul.ev (N : Nat) (f : Int) (m_ : Int) (a : B2) (b : B2) : evFunc (mul_Mul.cfg N) N Tryz.f29 [.v ((dI .u8).enc f), .v ((dI .u8).enc m_), .v (dBits.enc a), .v (dBits.enc b)] [] 0 (dT3 dBits (dI .u8) (dI .i64)).dec = mul_Mul.g f m_ a b := by kernel_rfl
theorem mul_Mul.hl (N : Nat) : ∀ body, Tryz.f29.body = some body → ∀ b ∈ loopsOf body, ∀ lc, lkL (firstReg b) (mul_Mul.cfg N).lp = some lc → LCOk (mul_Mul.cfg N) N b lc := HL_nil rfl
theorem mul_Mul.cfg_ok (N : Nat) : CfgOk Tryz.prog (mul_Mul.cfg N) := mkCfg (.cons round_Pack.ok (.cons shape_NaN.ok (.cons shape_Inf.ok (.cons mul_open_2.ok (.cons mul_below.ok (.cons mul_nan.ok (.cons mul_canonical_2.ok (.cons mul_inf.ok (.cons mul_nought.ok (.cons shape_Zero.ok (.cons wide_Mul.ok .nil))))))))))) _ _ _ _
theorem mul_Mul.ok : CTok Tryz.prog 29 mul_Mul.ct := CTok.of4 Tryz.call29 mix Tryz.func29 (Nat.le_of_ble_eq_true (by kernel_rfl)) (fun f m_ a b res hres _ _ _ _ => ⟨mul_Mul.cfg fuel, fuel, mul_Mul.cfg_ok fuel, mul_Mul.hl fuel, (mul_Mul.ev fuel f m_ a b).trans hres⟩)

def ref12_Mul.cfg (_N : Nat) : Cfg := { T := tys, EQ := eqs, C := [(64, ref08_Sign.ct), (65, ref08_IsNaN.ct), (67, ref08_IsInf.ct), (78, ref09_Round.ct), (92, ref07_NaN.ct), (93, ref07_Inf.ct), (94, ref08_IsZero.ct), (95, ref07_Zero.ct), (96, ref08_Value.ct), (107, ref11_Fits_2.ct), (108, ref11_Canonical_2.ct), (109, ref06_Mul.ct)], lp := [], un := [], ks := [], keep := [0, 1, 2, 3, 6, 7, 8, 9, 10, 11, 12, 13, 14, 15, 16, 18, 20, 28, 37, 74, 77, 81] }
theorem ref12_Mul.ev (N : Nat) (f : Int) (m_ : Int) (a : B2) (b : B2) : evFunc (ref12_Mul.cfg N) N Tryz.f30 [.v ((dI .u8).enc f), .v ((dI .u8).enc m_), .v (dBits.enc a), .v (dBits.enc b)] [] 0 (dT3 dBits (dI .u8) (dI .i64)).dec = ref12_Mul.g f m_ a b := by kernel_rfl
theorem ref12_Mul.hl (N : Nat) : ∀ body, Tryz.f30.body = some body → ∀ b ∈ loopsOf body, ∀ lc, lkL (firstReg b) (ref12_Mul.cfg N).lp = some lc → LCOk (ref12_Mul.cfg N) N b lc := HL_nil rfl
theorem ref12_Mul.cfg_ok (N : Nat) : CfgOk Tryz.prog (ref12_Mul.cfg N) := mkCfg (.cons ref08_Sign.ok (.cons ref08_IsNaN.ok (.cons ref08_IsInf.ok (.cons ref09_Round.ok (.cons ref07_NaN.ok (.cons ref07_Inf.ok (.cons ref08_IsZero.ok (.cons ref07_Zero.ok (.cons ref08_Value.ok (.cons ref11_Fits_2.ok (.cons ref11_Canonical_2.ok (.cons ref06_Mul.ok .nil)))))))))))) _ _ _ _
theorem ref12_Mul.ok : CTok Tryz.prog 30 ref12_Mul.ct := CTok.of4 Tryz.call30 mix Tryz.func30 (Nat.le_of_ble_eq_true (by kernel_rfl)) (fun f m_ a b res hres _ _ _ _ => ⟨ref12_Mul.cfg fuel, fuel, ref12_Mul.cfg_ok fuel, ref12_Mul.hl fuel, (ref12_Mul.ev fuel f m_ a b).trans hres⟩)

end
end Go.Proofs.YtnfbcofieobkkaaGreatDoor
