/- Printed by a program: the contracts of Go functions. -/
import Derived.Test.YtnfbcofieobkkaaDoorPT
import Derived.Test.YtnfbcofieobkkaaDoorAR
namespace Go.Proofs.YtnfbcofieobkkaaDoor
open Go Go.Proofs Ev
set_option linter.unusedVariables false
set_option linter.unusedSimpArgs false
noncomputable section

def toint_ends.cfg (_N : Nat) : Cfg := { T := tys, EQ := eqs, C := [], lp := [], un := [], ks := [], keep := [0, 2, 3, 4] }
theorem toint_ends.ev (N : Nat) (k_ : Int) : evFunc (toint_ends.cfg N) N Tryd.f39 [.v ((dI .u8).enc k_)] [] 0 (dT2 (dI .u64) (dI .u64)).dec = toint_ends.g k_ := by kernel_rfl
theorem toint_ends.hl (N : Nat) : ∀ body, Tryd.f39.body = some body → ∀ b ∈ loopsOf body, ∀ lc, lkL (firstReg b) (toint_ends.cfg N).lp = some lc → LCOk (toint_ends.cfg N) N b lc := HL_nil rfl
theorem toint_ends.cfg_ok (N : Nat) : CfgOk Tryd.prog (toint_ends.cfg N) := mkCfg .nil _ _ _ _
theorem toint_ends.ok : CTok Tryd.prog 39 toint_ends.ct := CTok.of1 Tryd.call39 mix Tryd.func39 (Nat.le_of_ble_eq_true (by kernel_rfl)) (fun k_ res hres _ => ⟨toint_ends.cfg fuel, fuel, toint_ends.cfg_ok fuel, toint_ends.hl fuel, (toint_ends.ev fuel k_).trans hres⟩)

def toint_told.cfg (_N : Nat) : Cfg := { T := tys, EQ := eqs, C := [], lp := [], un := [], ks := [], keep := [0, 1, 2, 6, 7, 15] }
theorem toint_told.ev (N : Nat) (k_ : Int) (neg : Bool) (n : Int) : evFunc (toint_told.cfg N) N Tryd.f40 [.v ((dI .u8).enc k_), .v (dB.enc neg), .v ((dI .u64).enc n)] [] 0 (dI .u64).dec = toint_told.g k_ neg n := by kernel_rfl
theorem toint_told.hl (N : Nat) : ∀ body, Tryd.f40.body = some body → ∀ b ∈ loopsOf body, ∀ lc, lkL (firstReg b) (toint_told.cfg N).lp = some lc → LCOk (toint_told.cfg N) N b lc := HL_nil rfl
theorem toint_told.cfg_ok (N : Nat) : CfgOk Tryd.prog (toint_told.cfg N) := mkCfg .nil _ _ _ _
theorem toint_told.ok : CTok Tryd.prog 40 toint_told.ct := CTok.of3 Tryd.call40 mix Tryd.func40 (Nat.le_of_ble_eq_true (by kernel_rfl)) (fun k_ neg n res hres _ _ _ => ⟨toint_told.cfg fuel, fuel, toint_told.cfg_ok fuel, toint_told.hl fuel, (toint_told.ev fuel k_ neg n).trans hres⟩)

def toint_Least.cfg (_N : Nat) : Cfg := { T := tys, EQ := eqs, C := [(39, toint_ends.ct), (40, toint_told.ct)], lp := [], un := [], ks := [], keep := [0, 2, 3, 4, 7] }
theorem toint_Least.ev (N : Nat) (k_ : Int) : evFunc (toint_Least.cfg N) N Tryd.f9 [.v ((dI .u8).enc k_)] [] 0 (dT2 (dI .u64) (dI .i64)).dec = toint_Least.g k_ := by kernel_rfl
theorem toint_Least.hl (N : Nat) : ∀ body, Tryd.f9.body = some body → ∀ b ∈ loopsOf body, ∀ lc, lkL (firstReg b) (toint_Least.cfg N).lp = some lc → LCOk (toint_Least.cfg N) N b lc := HL_nil rfl
theorem toint_Least.cfg_ok (N : Nat) : CfgOk Tryd.prog (toint_Least.cfg N) := mkCfg (.cons toint_ends.ok (.cons toint_told.ok .nil)) _ _ _ _
theorem toint_Least.ok : CTok Tryd.prog 9 toint_Least.ct := CTok.of1 Tryd.call9 mix Tryd.func9 (Nat.le_of_ble_eq_true (by kernel_rfl)) (fun k_ res hres _ => ⟨toint_Least.cfg fuel, fuel, toint_Least.cfg_ok fuel, toint_Least.hl fuel, (toint_Least.ev fuel k_).trans hres⟩)

def toint_Greatest.cfg (_N : Nat) : Cfg := { T := tys, EQ := eqs, C := [(39, toint_ends.ct), (40, toint_told.ct)], lp := [], un := [], ks := [], keep := [0, 2, 3, 5, 7] }
theorem toint_Greatest.ev (N : Nat) (k_ : Int) : evFunc (toint_Greatest.cfg N) N Tryd.f10 [.v ((dI .u8).enc k_)] [] 0 (dT2 (dI .u64) (dI .i64)).dec = toint_Greatest.g k_ := by kernel_rfl
theorem toint_Greatest.hl (N : Nat) : ∀ body, Tryd.f10.body = some body → ∀ b ∈ loopsOf body, ∀ lc, lkL (firstReg b) (toint_Greatest.cfg N).lp = some lc → LCOk (toint_Greatest.cfg N) N b lc := HL_nil rfl
theorem toint_Greatest.cfg_ok (N : Nat) : CfgOk Tryd.prog (toint_Greatest.cfg N) := mkCfg (.cons toint_ends.ok (.cons toint_told.ok .nil)) _ _ _ _
theorem toint_Greatest.ok : CTok Tryd.prog 10 toint_Greatest.ct := CTok.of1 Tryd.call10 mix Tryd.func10 (Nat.le_of_ble_eq_true (by kernel_rfl)) (fun k_ res hres _ => ⟨toint_Greatest.cfg fuel, fuel, toint_Greatest.cfg_ok fuel, toint_Greatest.hl fuel, (toint_Greatest.ev fuel k_).trans hres⟩)

def ref19_Least.cfg (_N : Nat) : Cfg := { T := tys, EQ := eqs, C := [], lp := [], un := [], ks := [], keep := [0, 2, 3, 4, 6] }
theorem ref19_Least.ev (N : Nat) (k_ : Int) : evFunc (ref19_Least.cfg N) N Tryd.f11 [.v ((dI .u8).enc k_)] [] 0 (dI .u64).dec = ref19_Least.g k_ := by kernel_rfl
theorem ref19_Least.hl (N : Nat) : ∀ body, Tryd.f11.body = some body → ∀ b ∈ loopsOf body, ∀ lc, lkL (firstReg b) (ref19_Least.cfg N).lp = some lc → LCOk (ref19_Least.cfg N) N b lc := HL_nil rfl
theorem ref19_Least.cfg_ok (N : Nat) : CfgOk Tryd.prog (ref19_Least.cfg N) := mkCfg .nil _ _ _ _
theorem ref19_Least.ok : CTok Tryd.prog 11 ref19_Least.ct := CTok.of1 Tryd.call11 mix Tryd.func11 (Nat.le_of_ble_eq_true (by kernel_rfl)) (fun k_ res hres _ => ⟨ref19_Least.cfg fuel, fuel, ref19_Least.cfg_ok fuel, ref19_Least.hl fuel, (ref19_Least.ev fuel k_).trans hres⟩)

def ref19_Greatest.cfg (_N : Nat) : Cfg := { T := tys, EQ := eqs, C := [], lp := [], un := [], ks := [], keep := [0, 2, 3, 4, 6] }
theorem ref19_Greatest.ev (N : Nat) (k_ : Int) : evFunc (ref19_Greatest.cfg N) N Tryd.f12 [.v ((dI .u8).enc k_)] [] 0 (dI .u64).dec = ref19_Greatest.g k_ := by kernel_rfl
theorem ref19_Greatest.hl (N : Nat) : ∀ body, Tryd.f12.body = some body → ∀ b ∈ loopsOf body, ∀ lc, lkL (firstReg b) (ref19_Greatest.cfg N).lp = some lc → LCOk (ref19_Greatest.cfg N) N b lc := HL_nil rfl
theorem ref19_Greatest.cfg_ok (N : Nat) : CfgOk Tryd.prog (ref19_Greatest.cfg N) := mkCfg .nil _ _ _ _
theorem ref19_Greatest.ok : CTok Tryd.prog 12 ref19_Greatest.ct := CTok.of1 Tryd.call12 mix Tryd.func12 (Nat.le_of_ble_eq_true (by kernel_rfl)) (fun k_ res hres _ => ⟨ref19_Greatest.cfg fuel, fuel, ref19_Greatest.cfg_ok fuel, ref19_Greatest.hl fuel, (ref19_Greatest.ev fuel k_).trans hres⟩)

def toint_Whole.cfg (_N : Nat) : Cfg := { T := tys, EQ := eqs, C := [(17, shape_CheckMode.ct), (41, kind_Unpack.ct), (42, wide_Left.ct), (43, jam_Cut.ct), (44, round_Up.ct), (45, wide_Add.ct), (46, wide_Of.ct)], lp := [], un := [], ks := [], keep := [0, 1, 2, 5, 6, 7, 8, 9, 10, 11, 12, 13, 14, 27, 36, 43, 52, 79] }
theorem toint_Whole.ev (N : Nat) (f : Int) (m_ : Int) (a : B2) : evFunc (toint_Whole.cfg N) N Tryd.f13 [.v ((dI .u8).enc f), .v ((dI .u8).enc m_), .v (dBits.enc a)] [] 0 (dT4 dB dW dB (dI .i64)).dec = toint_Whole.g f m_ a := by kernel_rfl
theorem toint_Whole.hl (N : Nat) : ∀ body, Tryd.f13.body = some body → ∀ b ∈ loopsOf body, ∀ lc, lkL (firstReg b) (toint_Whole.cfg N).lp = some lc → LCOk (toint_Whole.cfg N) N b lc := HL_nil rfl
theorem toint_Whole.cfg_ok (N : Nat) : CfgOk Tryd.prog (toint_Whole.cfg N) := mkCfg (.cons shape_CheckMode.ok (.cons kind_Unpack.ok (.cons wide_Left.ok (.cons jam_Cut.ok (.cons round_Up.ok (.cons wide_Add.ok (.cons wide_Of.ok .nil))))))) _ _ _ _
theorem toint_Whole.ok : CTok Tryd.prog 13 toint_Whole.ct := CTok.of3 Tryd.call13 mix Tryd.func13 (Nat.le_of_ble_eq_true (by kernel_rfl)) (fun f m_ a res hres _ _ _ => ⟨toint_Whole.cfg fuel, fuel, toint_Whole.cfg_ok fuel, toint_Whole.hl fuel, (toint_Whole.ev fuel f m_ a).trans hres⟩)

def ref19_Rounded.cfg (_N : Nat) : Cfg := { T := tys, EQ := eqs, C := [(109, ref08_Value.ct), (110, ref06_Floor.ct), (111, ref05_Low.ct), (112, ref10_Up.ct), (113, ref05_Add.ct)], lp := [], un := [], ks := [], keep := [0, 1, 2, 5, 6, 7, 8, 10, 11, 13, 14, 16, 17, 30, 44, 45, 58] }
theorem ref19_Rounded.ev (N : Nat) (f : Int) (m_ : Int) (a : B2) : evFunc (ref19_Rounded.cfg N) N Tryd.f50 [.v ((dI .u8).enc f), .v ((dI .u8).enc m_), .v (dBits.enc a)] [] 0 (dT2 dS dB).dec = ref19_Rounded.g f m_ a := by kernel_rfl
theorem ref19_Rounded.hl (N : Nat) : ∀ body, Tryd.f50.body = some body → ∀ b ∈ loopsOf body, ∀ lc, lkL (firstReg b) (ref19_Rounded.cfg N).lp = some lc → LCOk (ref19_Rounded.cfg N) N b lc := HL_nil rfl
theorem ref19_Rounded.cfg_ok (N : Nat) : CfgOk Tryd.prog (ref19_Rounded.cfg N) := mkCfg (.cons ref08_Value.ok (.cons ref06_Floor.ok (.cons ref05_Low.ok (.cons ref10_Up.ok (.cons ref05_Add.ok .nil))))) _ _ _ _
theorem ref19_Rounded.ok : CTok Tryd.prog 50 ref19_Rounded.ct := CTok.of3 Tryd.call50 mix Tryd.func50 (Nat.le_of_ble_eq_true (by kernel_rfl)) (fun f m_ a res hres _ _ _ => ⟨ref19_Rounded.cfg fuel, fuel, ref19_Rounded.cfg_ok fuel, ref19_Rounded.hl fuel, (ref19_Rounded.ev fuel f m_ a).trans hres⟩)

def ref19_Whole.cfg (_N : Nat) : Cfg := { T := tys, EQ := eqs, C := [(33, ref08_IsInf.ct), (47, ref07_Fits.ct), (48, ref07_RightMode.ct), (49, ref08_IsNaN.ct), (50, ref19_Rounded.ct), (51, ref05_Len.ct), (52, ref05_ToWide.ct), (53, ref08_Sign.ct)], lp := [], un := [], ks := [], keep := [0, 1, 2, 5, 6, 7, 8, 9, 10, 11, 12, 22, 31, 42] }
theorem ref19_Whole.ev (N : Nat) (f : Int) (m_ : Int) (a : B2) : evFunc (ref19_Whole.cfg N) N Tryd.f14 [.v ((dI .u8).enc f), .v ((dI .u8).enc m_), .v (dBits.enc a)] [] 0 (dT4 dB dW dB (dI .i64)).dec = ref19_Whole.g f m_ a := by kernel_rfl
theorem ref19_Whole.hl (N : Nat) : ∀ body, Tryd.f14.body = some body → ∀ b ∈ loopsOf body, ∀ lc, lkL (firstReg b) (ref19_Whole.cfg N).lp = some lc → LCOk (ref19_Whole.cfg N) N b lc := HL_nil rfl
theorem ref19_Whole.cfg_ok (N : Nat) : CfgOk Tryd.prog (ref19_Whole.cfg N) := mkCfg (.cons ref08_IsInf.ok (.cons ref07_Fits.ok (.cons ref07_RightMode.ok (.cons ref08_IsNaN.ok (.cons ref19_Rounded.ok (.cons ref05_Len.ok (.cons ref05_ToWide.ok (.cons ref08_Sign.ok .nil)))))))) _ _ _ _
theorem ref19_Whole.ok : CTok Tryd.prog 14 ref19_Whole.ct := CTok.of3 Tryd.call14 mix Tryd.func14 (Nat.le_of_ble_eq_true (by kernel_rfl)) (fun f m_ a res hres _ _ _ => ⟨ref19_Whole.cfg fuel, fuel, ref19_Whole.cfg_ok fuel, ref19_Whole.hl fuel, (ref19_Whole.ev fuel f m_ a).trans hres⟩)

def toint_Convert.cfg (_N : Nat) : Cfg := { T := tys, EQ := eqs, C := [(13, toint_Whole.ct), (39, toint_ends.ct), (40, toint_told.ct), (46, wide_Of.ct), (56, kind_Class.ct), (57, wide_Cmp.ct)], lp := [], un := [], ks := [], keep := [0, 1, 2, 3, 7, 8, 9, 10, 11, 12, 13, 14, 15, 16, 17, 20, 35, 43, 50, 52, 54, 66, 79] }
theorem toint_Convert.ev (N : Nat) (k_ : Int) (f : Int) (m_ : Int) (a : B2) : evFunc (toint_Convert.cfg N) N Tryd.f19 [.v ((dI .u8).enc k_), .v ((dI .u8).enc f), .v ((dI .u8).enc m_), .v (dBits.enc a)] [] 0 (dT3 (dI .u64) (dI .u8) (dI .i64)).dec = toint_Convert.g k_ f m_ a := by kernel_rfl
theorem toint_Convert.hl (N : Nat) : ∀ body, Tryd.f19.body = some body → ∀ b ∈ loopsOf body, ∀ lc, lkL (firstReg b) (toint_Convert.cfg N).lp = some lc → LCOk (toint_Convert.cfg N) N b lc := HL_nil rfl
theorem toint_Convert.cfg_ok (N : Nat) : CfgOk Tryd.prog (toint_Convert.cfg N) := mkCfg (.cons toint_Whole.ok (.cons toint_ends.ok (.cons toint_told.ok (.cons wide_Of.ok (.cons kind_Class.ok (.cons wide_Cmp.ok .nil)))))) _ _ _ _
theorem toint_Convert.ok : CTok Tryd.prog 19 toint_Convert.ct := CTok.of4 Tryd.call19 mix Tryd.func19 (Nat.le_of_ble_eq_true (by kernel_rfl)) (fun k_ f m_ a res hres _ _ _ _ => ⟨toint_Convert.cfg fuel, fuel, toint_Convert.cfg_ok fuel, toint_Convert.hl fuel, (toint_Convert.ev fuel k_ f m_ a).trans hres⟩)

end
end Go.Proofs.YtnfbcofieobkkaaDoor
