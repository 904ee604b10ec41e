/- Printed by a program: the contracts of Go functions. -/
import Derived.Test.YtnfbcofieobkkaaGreatDoorPT
import Derived.Test.YtnfbcofieobkkaaGreatDoorAR
namespace Go.Proofs.YtnfbcofieobkkaaGreatDoor
open Go Go.Proofs Ev
set_option linter.unusedVariables false
set_option linter.unusedSimpArgs false
noncomputable section

def toint_Whole.cfg (_N : Nat) : Cfg := { T := tys, EQ := eqs, C := [(61, wide_Of.ct), (85, kind_Unpack.ct), (87, shape_CheckMode.ct), (118, wide_Left.ct), (138, wide_Add.ct), (152, jam_Cut.ct), (153, round_Up.ct)], lp := [], un := [], ks := [], keep := [0, 1, 2, 5, 6, 7, 8, 9, 10, 11, 12, 13, 14, 27, 36, 43, 52, 79] }
theorem toint_Whole.ev (N : Nat) (f : Int) (m_ : Int) (a : B2) : evFunc (toint_Whole.cfg N) N Tryz.f56 [.v ((dI .u8).enc f), .v ((dI .u8).enc m_), .v (dBits.enc a)] [] 0 (dT4 dB dW dB (dI .i64)).dec = toint_Whole.g f m_ a := by kernel_rfl
theorem toint_Whole.hl (N : Nat) : ∀ body, Tryz.f56.body = some body → ∀ b ∈ loopsOf body, ∀ lc, lkL (firstReg b) (toint_Whole.cfg N).lp = some lc → LCOk (toint_Whole.cfg N) N b lc := HL_nil rfl
theorem toint_Whole.cfg_ok (N : Nat) : CfgOk Tryz.prog (toint_Whole.cfg N) := mkCfg (.cons wide_Of.ok (.cons kind_Unpack.ok (.cons shape_CheckMode.ok (.cons wide_Left.ok (.cons wide_Add.ok (.cons jam_Cut.ok (.cons round_Up.ok .nil))))))) _ _ _ _
theorem toint_Whole.ok : CTok Tryz.prog 56 toint_Whole.ct := CTok.of3 Tryz.call56 mix Tryz.func56 (Nat.le_of_ble_eq_true (by kernel_rfl)) (fun f m_ a res hres _ _ _ => ⟨toint_Whole.cfg fuel, fuel, toint_Whole.cfg_ok fuel, toint_Whole.hl fuel, (toint_Whole.ev fuel f m_ a).trans hres⟩)

def toint_ends.cfg (_N : Nat) : Cfg := { T := tys, EQ := eqs, C := [], lp := [], un := [], ks := [], keep := [0, 2, 3, 4] }
theorem toint_ends.ev (N : Nat) (k_ : Int) : evFunc (toint_ends.cfg N) N Tryz.f57 [.v ((dI .u8).enc k_)] [] 0 (dT2 (dI .u64) (dI .u64)).dec = toint_ends.g k_ := by kernel_rfl
theorem toint_ends.hl (N : Nat) : ∀ body, Tryz.f57.body = some body → ∀ b ∈ loopsOf body, ∀ lc, lkL (firstReg b) (toint_ends.cfg N).lp = some lc → LCOk (toint_ends.cfg N) N b lc := HL_nil rfl
theorem toint_ends.cfg_ok (N : Nat) : CfgOk Tryz.prog (toint_ends.cfg N) := mkCfg .nil _ _ _ _
theorem toint_ends.ok : CTok Tryz.prog 57 toint_ends.ct := CTok.of1 Tryz.call57 mix Tryz.func57 (Nat.le_of_ble_eq_true (by kernel_rfl)) (fun k_ res hres _ => ⟨toint_ends.cfg fuel, fuel, toint_ends.cfg_ok fuel, toint_ends.hl fuel, (toint_ends.ev fuel k_).trans hres⟩)

def toint_told.cfg (_N : Nat) : Cfg := { T := tys, EQ := eqs, C := [], lp := [], un := [], ks := [], keep := [0, 1, 2, 6, 7, 15] }
theorem toint_told.ev (N : Nat) (k_ : Int) (neg : Bool) (n : Int) : evFunc (toint_told.cfg N) N Tryz.f59 [.v ((dI .u8).enc k_), .v (dB.enc neg), .v ((dI .u64).enc n)] [] 0 (dI .u64).dec = toint_told.g k_ neg n := by kernel_rfl
theorem toint_told.hl (N : Nat) : ∀ body, Tryz.f59.body = some body → ∀ b ∈ loopsOf body, ∀ lc, lkL (firstReg b) (toint_told.cfg N).lp = some lc → LCOk (toint_told.cfg N) N b lc := HL_nil rfl
theorem toint_told.cfg_ok (N : Nat) : CfgOk Tryz.prog (toint_told.cfg N) := mkCfg .nil _ _ _ _
theorem toint_told.ok : CTok Tryz.prog 59 toint_told.ct := CTok.of3 Tryz.call59 mix Tryz.func59 (Nat.le_of_ble_eq_true (by kernel_rfl)) (fun k_ neg n res hres _ _ _ => ⟨toint_told.cfg fuel, fuel, toint_told.cfg_ok fuel, toint_told.hl fuel, (toint_told.ev fuel k_ neg n).trans hres⟩)

def toint_Convert.cfg (_N : Nat) : Cfg := { T := tys, EQ := eqs, C := [(56, toint_Whole.ct), (57, toint_ends.ct), (58, kind_Class.ct), (59, toint_told.ct), (60, wide_Cmp.ct), (61, wide_Of.ct)], lp := [], un := [], ks := [], keep := [0, 1, 2, 3, 7, 8, 9, 10, 11, 12, 13, 14, 15, 16, 17, 20, 35, 43, 50, 52, 54, 66, 79] }
theorem toint_Convert.ev (N : Nat) (k_ : Int) (f : Int) (m_ : Int) (a : B2) : evFunc (toint_Convert.cfg N) N Tryz.f16 [.v ((dI .u8).enc k_), .v ((dI .u8).enc f), .v ((dI .u8).enc m_), .v (dBits.enc a)] [] 0 (dT3 (dI .u64) (dI .u8) (dI .i64)).dec = toint_Convert.g k_ f m_ a := by kernel_rfl
theorem toint_Convert.hl (N : Nat) : ∀ body, Tryz.f16.body = some body → ∀ b ∈ loopsOf body, ∀ lc, lkL (firstReg b) (toint_Convert.cfg N).lp = some lc → LCOk (toint_Convert.cfg N) N b lc := HL_nil rfl
theorem toint_Convert.cfg_ok (N : Nat) : CfgOk Tryz.prog (toint_Convert.cfg N) := mkCfg (.cons toint_Whole.ok (.cons toint_ends.ok (.cons kind_Class.ok (.cons toint_told.ok (.cons wide_Cmp.ok (.cons wide_Of.ok .nil)))))) _ _ _ _
theorem toint_Convert.ok : CTok Tryz.prog 16 toint_Convert.ct := CTok.of4 Tryz.call16 mix Tryz.func16 (Nat.le_of_ble_eq_true (by kernel_rfl)) (fun k_ f m_ a res hres _ _ _ _ => ⟨toint_Convert.cfg fuel, fuel, toint_Convert.cfg_ok fuel, toint_Convert.hl fuel, (toint_Convert.ev fuel k_ f m_ a).trans hres⟩)

def ref19_Greatest.cfg (_N : Nat) : Cfg := { T := tys, EQ := eqs, C := [], lp := [], un := [], ks := [], keep := [0, 2, 3, 4, 6] }
theorem ref19_Greatest.ev (N : Nat) (k_ : Int) : evFunc (ref19_Greatest.cfg N) N Tryz.f66 [.v ((dI .u8).enc k_)] [] 0 (dI .u64).dec = ref19_Greatest.g k_ := by kernel_rfl
theorem ref19_Greatest.hl (N : Nat) : ∀ body, Tryz.f66.body = some body → ∀ b ∈ loopsOf body, ∀ lc, lkL (firstReg b) (ref19_Greatest.cfg N).lp = some lc → LCOk (ref19_Greatest.cfg N) N b lc := HL_nil rfl
theorem ref19_Greatest.cfg_ok (N : Nat) : CfgOk Tryz.prog (ref19_Greatest.cfg N) := mkCfg .nil _ _ _ _
theorem ref19_Greatest.ok : CTok Tryz.prog 66 ref19_Greatest.ct := CTok.of1 Tryz.call66 mix Tryz.func66 (Nat.le_of_ble_eq_true (by kernel_rfl)) (fun k_ res hres _ => ⟨ref19_Greatest.cfg fuel, fuel, ref19_Greatest.cfg_ok fuel, ref19_Greatest.hl fuel, (ref19_Greatest.ev fuel k_).trans hres⟩)

def ref19_Least.cfg (_N : Nat) : Cfg := { T := tys, EQ := eqs, C := [], lp := [], un := [], ks := [], keep := [0, 2, 3, 4, 6] }
theorem ref19_Least.ev (N : Nat) (k_ : Int) : evFunc (ref19_Least.cfg N) N Tryz.f68 [.v ((dI .u8).enc k_)] [] 0 (dI .u64).dec = ref19_Least.g k_ := by kernel_rfl
theorem ref19_Least.hl (N : Nat) : ∀ body, Tryz.f68.body = some body → ∀ b ∈ loopsOf body, ∀ lc, lkL (firstReg b) (ref19_Least.cfg N).lp = some lc → LCOk (ref19_Least.cfg N) N b lc := HL_nil rfl
theorem ref19_Least.cfg_ok (N : Nat) : CfgOk Tryz.prog (ref19_Least.cfg N) := mkCfg .nil _ _ _ _
theorem ref19_Least.ok : CTok Tryz.prog 68 ref19_Least.ct := CTok.of1 Tryz.call68 mix Tryz.func68 (Nat.le_of_ble_eq_true (by kernel_rfl)) (fun k_ res hres _ => ⟨ref19_Least.cfg fuel, fuel, ref19_Least.cfg_ok fuel, ref19_Least.hl fuel, (ref19_Least.ev fuel k_).trans hres⟩)

def ref19_Rounded.cfg (_N : Nat) : Cfg := { T := tys, EQ := eqs, C := [(96, ref08_Value.ct), (160, ref06_Floor.ct), (161, ref05_Low.ct), (162, ref10_Up.ct), (163, ref05_Add.ct)], lp := [], un := [], ks := [], keep := [0, 1, 2, 5, 6, 7, 8, 10, 11, 13, 14, 16, 17, 30, 44, 45, 58] }
theorem ref19_Rounded.ev (N : Nat) (f : Int) (m_ : Int) (a : B2) : evFunc (ref19_Rounded.cfg N) N Tryz.f69 [.v ((dI .u8).enc f), .v ((dI .u8).enc m_), .v (dBits.enc a)] [] 0 (dT2 dS dB).dec = ref19_Rounded.g f m_ a := by kernel_rfl
theorem ref19_Rounded.hl (N : Nat) : ∀ body, Tryz.f69.body = some body → ∀ b ∈ loopsOf body, ∀ lc, lkL (firstReg b) (ref19_Rounded.cfg N).lp = some lc → LCOk (ref19_Rounded.cfg N) N b lc := HL_nil rfl
theorem ref19_Rounded.cfg_ok (N : Nat) : CfgOk Tryz.prog (ref19_Rounded.cfg N) := mkCfg (.cons ref08_Value.ok (.cons ref06_Floor.ok (.cons ref05_Low.ok (.cons ref10_Up.ok (.cons ref05_Add.ok .nil))))) _ _ _ _
theorem ref19_Rounded.ok : CTok Tryz.prog 69 ref19_Rounded.ct := CTok.of3 Tryz.call69 mix Tryz.func69 (Nat.le_of_ble_eq_true (by kernel_rfl)) (fun f m_ a res hres _ _ _ => ⟨ref19_Rounded.cfg fuel, fuel, ref19_Rounded.cfg_ok fuel, ref19_Rounded.hl fuel, (ref19_Rounded.ev fuel f m_ a).trans hres⟩)

def ref19_ends.cfg (_N : Nat) : Cfg := { T := tys, EQ := eqs, C := [], lp := [], un := [], ks := [], keep := [0, 2, 3, 4, 5, 7, 9] }
theorem ref19_ends.ev (N : Nat) (k_ : Int) : evFunc (ref19_ends.cfg N) N Tryz.f70 [.v ((dI .u8).enc k_)] [] 0 (dT2 (dI .u64) (dI .u64)).dec = ref19_ends.g k_ := by kernel_rfl
theorem ref19_ends.hl (N : Nat) : ∀ body, Tryz.f70.body = some body → ∀ b ∈ loopsOf body, ∀ lc, lkL (firstReg b) (ref19_ends.cfg N).lp = some lc → LCOk (ref19_ends.cfg N) N b lc := HL_nil rfl
theorem ref19_ends.cfg_ok (N : Nat) : CfgOk Tryz.prog (ref19_ends.cfg N) := mkCfg .nil _ _ _ _
theorem ref19_ends.ok : CTok Tryz.prog 70 ref19_ends.ct := CTok.of1 Tryz.call70 mix Tryz.func70 (Nat.le_of_ble_eq_true (by kernel_rfl)) (fun k_ res hres _ => ⟨ref19_ends.cfg fuel, fuel, ref19_ends.cfg_ok fuel, ref19_ends.hl fuel, (ref19_ends.ev fuel k_).trans hres⟩)

def ref19_Convert.cfg (_N : Nat) : Cfg := { T := tys, EQ := eqs, C := [(62, ref07_Fits.ct), (63, ref07_RightMode.ct), (64, ref08_Sign.ct), (65, ref08_IsNaN.ct), (66, ref19_Greatest.ct), (67, ref08_IsInf.ct), (68, ref19_Least.ct), (69, ref19_Rounded.ct), (70, ref19_ends.ct), (71, ref05_Cmp.ct), (72, ref05_Of.ct), (73, ref05_ToWide.ct), (74, ref01_Extend.ct)], lp := [], un := [], ks := [], keep := [0, 1, 2, 3, 7, 8, 9, 10, 11, 12, 13, 14, 15, 16, 18, 31, 37, 42, 43, 67, 78, 88, 96, 99] }
theorem ref19_Convert.ev (N : Nat) (k_ : Int) (f : Int) (m_ : Int) (a : B2) : evFunc (ref19_Convert.cfg N) N Tryz.f17 [.v ((dI .u8).enc k_), .v ((dI .u8).enc f), .v ((dI .u8).enc m_), .v (dBits.enc a)] [] 0 (dT3 (dI .u64) (dI .u8) (dI .i64)).dec = ref19_Convert.g k_ f m_ a := by kernel_rfl
theorem ref19_Convert.hl (N : Nat) : ∀ body, Tryz.f17.body = some body → ∀ b ∈ loopsOf body, ∀ lc, lkL (firstReg b) (ref19_Convert.cfg N).lp = some lc → LCOk (ref19_Convert.cfg N) N b lc := HL_nil rfl
theorem ref19_Convert.cfg_ok (N : Nat) : CfgOk Tryz.prog (ref19_Convert.cfg N) := mkCfg (.cons ref07_Fits.ok (.cons ref07_RightMode.ok (.cons ref08_Sign.ok (.cons ref08_IsNaN.ok (.cons ref19_Greatest.ok (.cons ref08_IsInf.ok (.cons ref19_Least.ok (.cons ref19_Rounded.ok (.cons ref19_ends.ok (.cons ref05_Cmp.ok (.cons ref05_Of.ok (.cons ref05_ToWide.ok (.cons ref01_Extend.ok .nil))))))))))))) _ _ _ _
theorem ref19_Convert.ok : CTok Tryz.prog 17 ref19_Convert.ct := CTok.of4 Tryz.call17 mix Tryz.func17 (Nat.le_of_ble_eq_true (by kernel_rfl)) (fun k_ f m_ a res hres _ _ _ _ => ⟨ref19_Convert.cfg fuel, fuel, ref19_Convert.cfg_ok fuel, ref19_Convert.hl fuel, (ref19_Convert.ev fuel k_ f m_ a).trans hres⟩)

end
end Go.Proofs.YtnfbcofieobkkaaGreatDoor
