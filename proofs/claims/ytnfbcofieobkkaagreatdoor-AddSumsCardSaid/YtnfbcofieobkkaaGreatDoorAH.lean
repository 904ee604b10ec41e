/- Printed by a program: the contracts of Go functions. -/
import Derived.Test.YtnfbcofieobkkaaGreatDoorPH
import Derived.Test.YtnfbcofieobkkaaGreatDoorAS
namespace Go.Proofs.YtnfbcofieobkkaaGreatDoor
open Go Go.Proofs Ev
set_option linter.unusedVariables false
set_option linter.unusedSimpArgs false
noncomputable section

def ref11_Fits_2.cfg (_N : Nat) : Cfg := { T := tys, EQ := eqs, C := [(62, ref07_Fits.ct), (63, ref07_RightMode.ct), (76, ref07_Right.ct)], lp := [], un := [(4, 6)], ks := [(4, [0, 2, 6, 7, 19, 28])], keep := [0, 1, 2, 6, 7, 15, 19, 28] }
theorem ref11_Fits_2.ev (N : Nat) (f : Int) (m_ : Int) (l : (B2 × B2)) : evFunc (ref11_Fits_2.cfg N) N Tryz.f107 [.v ((dI .u8).enc f), .v ((dI .u8).enc m_), .s 0 0 2 2] [(0, ⟨false, 27, mB2x2.enc l⟩)] 1 dB.dec = ref11_Fits_2.g f m_ l := by kernel_rfl
theorem ref11_Fits_2.hl (N : Nat) : ∀ body, Tryz.f107.body = some body → ∀ b ∈ loopsOf body, ∀ lc, lkL (firstReg b) (ref11_Fits_2.cfg N).lp = some lc → LCOk (ref11_Fits_2.cfg N) N b lc := HL_nil rfl
theorem ref11_Fits_2.cfg_ok (N : Nat) : CfgOk Tryz.prog (ref11_Fits_2.cfg N) := mkCfg (.cons ref07_Fits.ok (.cons ref07_RightMode.ok (.cons ref07_Right.ok .nil))) _ _ _ _
theorem ref11_Fits_2.ok : CTok Tryz.prog 107 ref11_Fits_2.ct := CTok.ofK2 Tryz.call107 mix Tryz.func107 (Nat.le_of_ble_eq_true (by kernel_rfl)) (fun f m_ l res hres  => ⟨ref11_Fits_2.cfg fuel, fuel, ref11_Fits_2.cfg_ok fuel, ref11_Fits_2.hl fuel, (ref11_Fits_2.ev fuel f m_ l).trans hres⟩)

def ref11_Canonical_2.cfg (_N : Nat) : Cfg := { T := tys, EQ := eqs, C := [(91, ref08_IsSignaling.ct), (92, ref07_NaN.ct)], lp := [], un := [(3, 6)], ks := [(3, [0, 1, 4, 5, 6, 7, 11, 19])], keep := [0, 1, 4, 5, 6, 7, 11, 19] }
theorem ref11_Canonical_2.ev (N : Nat) (f : Int) (l : (B2 × B2)) : evFunc (ref11_Canonical_2.cfg N) N Tryz.f108 [.v ((dI .u8).enc f), .s 0 0 2 2] [(0, ⟨false, 27, mB2x2.enc l⟩)] 1 (dT2 dBits (dI .u8)).dec = ref11_Canonical_2.g f l := by kernel_rfl
theorem ref11_Canonical_2.hl (N : Nat) : ∀ body, Tryz.f108.body = some body → ∀ b ∈ loopsOf body, ∀ lc, lkL (firstReg b) (ref11_Canonical_2.cfg N).lp = some lc → LCOk (ref11_Canonical_2.cfg N) N b lc := HL_nil rfl
theorem ref11_Canonical_2.cfg_ok (N : Nat) : CfgOk Tryz.prog (ref11_Canonical_2.cfg N) := mkCfg (.cons ref08_IsSignaling.ok (.cons ref07_NaN.ok .nil)) _ _ _ _
theorem ref11_Canonical_2.ok : CTok Tryz.prog 108 ref11_Canonical_2.ct := CTok.ofK1 Tryz.call108 mix Tryz.func108 (Nat.le_of_ble_eq_true (by kernel_rfl)) (fun f l res hres  => ⟨ref11_Canonical_2.cfg fuel, fuel, ref11_Canonical_2.cfg_ok fuel, ref11_Canonical_2.hl fuel, (ref11_Canonical_2.ev fuel f l).trans hres⟩)

def ref11_Fits_1.cfg (_N : Nat) : Cfg := { T := tys, EQ := eqs, C := [(62, ref07_Fits.ct), (63, ref07_RightMode.ct), (76, ref07_Right.ct)], lp := [], un := [(4, 6)], ks := [(4, [0, 2, 6, 7, 19, 28])], keep := [0, 1, 2, 6, 7, 15, 19, 28] }
theorem ref11_Fits_1.ev (N : Nat) (f : Int) (m_ : Int) (l : B2) : evFunc (ref11_Fits_1.cfg N) N Tryz.f107 [.v ((dI .u8).enc f), .v ((dI .u8).enc m_), .s 0 0 1 1] [(0, ⟨false, 27, mBits.enc l⟩)] 1 dB.dec = ref11_Fits_1.g f m_ l := by kernel_rfl
theorem ref11_Fits_1.hl (N : Nat) : ∀ body, Tryz.f107.body = some body → ∀ b ∈ loopsOf body, ∀ lc, lkL (firstReg b) (ref11_Fits_1.cfg N).lp = some lc → LCOk (ref11_Fits_1.cfg N) N b lc := HL_nil rfl
theorem ref11_Fits_1.cfg_ok (N : Nat) : CfgOk Tryz.prog (ref11_Fits_1.cfg N) := mkCfg (.cons ref07_Fits.ok (.cons ref07_RightMode.ok (.cons ref07_Right.ok .nil))) _ _ _ _
theorem ref11_Fits_1.ok : CTok Tryz.prog 107 ref11_Fits_1.ct := CTok.ofK2 Tryz.call107 mix Tryz.func107 (Nat.le_of_ble_eq_true (by kernel_rfl)) (fun f m_ l res hres  => ⟨ref11_Fits_1.cfg fuel, fuel, ref11_Fits_1.cfg_ok fuel, ref11_Fits_1.hl fuel, (ref11_Fits_1.ev fuel f m_ l).trans hres⟩)

def ref11_Canonical_1.cfg (_N : Nat) : Cfg := { T := tys, EQ := eqs, C := [(91, ref08_IsSignaling.ct), (92, ref07_NaN.ct)], lp := [], un := [(3, 6)], ks := [(3, [0, 1, 4, 5, 6, 7, 11, 19])], keep := [0, 1, 4, 5, 6, 7, 11, 19] }
theorem ref11_Canonical_1.ev (N : Nat) (f : Int) (l : B2) : evFunc (ref11_Canonical_1.cfg N) N Tryz.f108 [.v ((dI .u8).enc f), .s 0 0 1 1] [(0, ⟨false, 27, mBits.enc l⟩)] 1 (dT2 dBits (dI .u8)).dec = ref11_Canonical_1.g f l := by kernel_rfl
theorem ref11_Canonical_1.hl (N : Nat) : ∀ body, Tryz.f108.body = some body → ∀ b ∈ loopsOf body, ∀ lc, lkL (firstReg b) (ref11_Canonical_1.cfg N).lp = some lc → LCOk (ref11_Canonical_1.cfg N) N b lc := HL_nil rfl
theorem ref11_Canonical_1.cfg_ok (N : Nat) : CfgOk Tryz.prog (ref11_Canonical_1.cfg N) := mkCfg (.cons ref08_IsSignaling.ok (.cons ref07_NaN.ok .nil)) _ _ _ _
theorem ref11_Canonical_1.ok : CTok Tryz.prog 108 ref11_Canonical_1.ct := CTok.ofK1 Tryz.call108 mix Tryz.func108 (Nat.le_of_ble_eq_true (by kernel_rfl)) (fun f l res hres  => ⟨ref11_Canonical_1.cfg fuel, fuel, ref11_Canonical_1.cfg_ok fuel, ref11_Canonical_1.hl fuel, (ref11_Canonical_1.ev fuel f l).trans hres⟩)

def ref11_Nought.cfg (_N : Nat) : Cfg := { T := tys, EQ := eqs, C := [(95, ref07_Zero.ct)], lp := [], un := [], ks := [], keep := [0, 1, 4] }
theorem ref11_Nought.ev (N : Nat) (f : Int) (m_ : Int) : evFunc (ref11_Nought.cfg N) N Tryz.f140 [.v ((dI .u8).enc f), .v ((dI .u8).enc m_)] [] 0 dBits.dec = ref11_Nought.g f m_ := by kernel_rfl
theorem ref11_Nought.hl (N : Nat) : ∀ body, Tryz.f140.body = some body → ∀ b ∈ loopsOf body, ∀ lc, lkL (firstReg b) (ref11_Nought.cfg N).lp = some lc → LCOk (ref11_Nought.cfg N) N b lc := HL_nil rfl
theorem ref11_Nought.cfg_ok (N : Nat) : CfgOk Tryz.prog (ref11_Nought.cfg N) := mkCfg (.cons ref07_Zero.ok .nil) _ _ _ _
theorem ref11_Nought.ok : CTok Tryz.prog 140 ref11_Nought.ct := CTok.of2 Tryz.call140 mix Tryz.func140 (Nat.le_of_ble_eq_true (by kernel_rfl)) (fun f m_ res hres _ _ => ⟨ref11_Nought.cfg fuel, fuel, ref11_Nought.cfg_ok fuel, ref11_Nought.hl fuel, (ref11_Nought.ev fuel f m_).trans hres⟩)

def ref11_Fits_3.cfg (_N : Nat) : Cfg := { T := tys, EQ := eqs, C := [(62, ref07_Fits.ct), (63, ref07_RightMode.ct), (76, ref07_Right.ct)], lp := [], un := [(4, 6)], ks := [(4, [0, 2, 6, 7, 19, 28])], keep := [0, 1, 2, 6, 7, 15, 19, 28] }
theorem ref11_Fits_3.ev (N : Nat) (f : Int) (m_ : Int) (l : (B2 × B2 × B2)) : evFunc (ref11_Fits_3.cfg N) N Tryz.f107 [.v ((dI .u8).enc f), .v ((dI .u8).enc m_), .s 0 0 3 3] [(0, ⟨false, 27, mB2x3.enc l⟩)] 1 dB.dec = ref11_Fits_3.g f m_ l := by kernel_rfl
theorem ref11_Fits_3.hl (N : Nat) : ∀ body, Tryz.f107.body = some body → ∀ b ∈ loopsOf body, ∀ lc, lkL (firstReg b) (ref11_Fits_3.cfg N).lp = some lc → LCOk (ref11_Fits_3.cfg N) N b lc := HL_nil rfl
theorem ref11_Fits_3.cfg_ok (N : Nat) : CfgOk Tryz.prog (ref11_Fits_3.cfg N) := mkCfg (.cons ref07_Fits.ok (.cons ref07_RightMode.ok (.cons ref07_Right.ok .nil))) _ _ _ _
theorem ref11_Fits_3.ok : CTok Tryz.prog 107 ref11_Fits_3.ct := CTok.ofK2 Tryz.call107 mix Tryz.func107 (Nat.le_of_ble_eq_true (by kernel_rfl)) (fun f m_ l res hres  => ⟨ref11_Fits_3.cfg fuel, fuel, ref11_Fits_3.cfg_ok fuel, ref11_Fits_3.hl fuel, (ref11_Fits_3.ev fuel f m_ l).trans hres⟩)

def ref11_Canonical_3.cfg (_N : Nat) : Cfg := { T := tys, EQ := eqs, C := [(91, ref08_IsSignaling.ct), (92, ref07_NaN.ct)], lp := [], un := [(3, 6)], ks := [(3, [0, 1, 4, 5, 6, 7, 11, 19])], keep := [0, 1, 4, 5, 6, 7, 11, 19] }
theorem ref11_Canonical_3.ev (N : Nat) (f : Int) (l : (B2 × B2 × B2)) : evFunc (ref11_Canonical_3.cfg N) N Tryz.f108 [.v ((dI .u8).enc f), .s 0 0 3 3] [(0, ⟨false, 27, mB2x3.enc l⟩)] 1 (dT2 dBits (dI .u8)).dec = ref11_Canonical_3.g f l := by kernel_rfl
theorem ref11_Canonical_3.hl (N : Nat) : ∀ body, Tryz.f108.body = some body → ∀ b ∈ loopsOf body, ∀ lc, lkL (firstReg b) (ref11_Canonical_3.cfg N).lp = some lc → LCOk (ref11_Canonical_3.cfg N) N b lc := HL_nil rfl
theorem ref11_Canonical_3.cfg_ok (N : Nat) : CfgOk Tryz.prog (ref11_Canonical_3.cfg N) := mkCfg (.cons ref08_IsSignaling.ok (.cons ref07_NaN.ok .nil)) _ _ _ _
theorem ref11_Canonical_3.ok : CTok Tryz.prog 108 ref11_Canonical_3.ct := CTok.ofK1 Tryz.call108 mix Tryz.func108 (Nat.le_of_ble_eq_true (by kernel_rfl)) (fun f l res hres  => ⟨ref11_Canonical_3.cfg fuel, fuel, ref11_Canonical_3.cfg_ok fuel, ref11_Canonical_3.hl fuel, (ref11_Canonical_3.ev fuel f l).trans hres⟩)

end
end Go.Proofs.YtnfbcofieobkkaaGreatDoor
