/- Printed by a program: the contracts of Go functions. -/
import Derived.Test.YtnfbcofieobkkaaGreatDoorPV
import Derived.Test.YtnfbcofieobkkaaGreatDoorAR
namespace Go.Proofs.YtnfbcofieobkkaaGreatDoor
open Go Go.Proofs Ev
set_option linter.unusedVariables false
set_option linter.unusedSimpArgs false
noncomputable section

def widen_either_api_Flags.cfg (_N : Nat) : Cfg := { T := tys, EQ := eqs, C := [], lp := [], un := [], ks := [], keep := [0, 1, 2, 6, 7] }
theorem widen_either_api_Flags.ev (N : Nat) (is : Bool) (a : Int) (b : Int) : evFunc (widen_either_api_Flags.cfg N) N Tryz.f89 [.v (dB.enc is), .v ((dI .u8).enc a), .v ((dI .u8).enc b)] [] 0 (dI .u8).dec = widen_either_api_Flags.g is a b := by kernel_rfl
theorem widen_either_api_Flags.hl (N : Nat) : ∀ body, Tryz.f89.body = some body → ∀ b ∈ loopsOf body, ∀ lc, lkL (firstReg b) (widen_either_api_Flags.cfg N).lp = some lc → LCOk (widen_either_api_Flags.cfg N) N b lc := HL_nil rfl
theorem widen_either_api_Flags.cfg_ok (N : Nat) : CfgOk Tryz.prog (widen_either_api_Flags.cfg N) := mkCfg .nil _ _ _ _
theorem widen_either_api_Flags.ok : CTok Tryz.prog 89 widen_either_api_Flags.ct := CTok.of3 Tryz.call89 mix Tryz.func89 (Nat.le_of_ble_eq_true (by kernel_rfl)) (fun is a b res hres _ _ _ => ⟨widen_either_api_Flags.cfg fuel, fuel, widen_either_api_Flags.cfg_ok fuel, widen_either_api_Flags.hl fuel, (widen_either_api_Flags.ev fuel is a b).trans hres⟩)

def widen_Convert.cfg (_N : Nat) : Cfg := { T := tys, EQ := eqs, C := [(75, round_Pack.ct), (85, kind_Unpack.ct), (86, shape_Check.ct), (87, shape_CheckMode.ct), (88, shape_NaN.ct), (89, widen_either_api_Flags.ct), (90, shape_Inf.ct)], lp := [], un := [], ks := [], keep := [0, 1, 2, 3, 7, 8, 9, 10, 11, 12, 13, 31, 37, 38, 47] }
theorem widen_Convert.ev (N : Nat) (to_ : Int) (from_ : Int) (m_ : Int) (a : B2) : evFunc (widen_Convert.cfg N) N Tryz.f24 [.v ((dI .u8).enc to_), .v ((dI .u8).enc from_), .v ((dI .u8).enc m_), .v (dBits.enc a)] [] 0 (dT3 dBits (dI .u8) (dI .i64)).dec = widen_Convert.g to_ from_ m_ a := by kernel_rfl
theorem widen_Convert.hl (N : Nat) : ∀ body, Tryz.f24.body = some body → ∀ b ∈ loopsOf body, ∀ lc, lkL (firstReg b) (widen_Convert.cfg N).lp = some lc → LCOk (widen_Convert.cfg N) N b lc := HL_nil rfl
theorem widen_Convert.cfg_ok (N : Nat) : CfgOk Tryz.prog (widen_Convert.cfg N) := mkCfg (.cons round_Pack.ok (.cons kind_Unpack.ok (.cons shape_Check.ok (.cons shape_CheckMode.ok (.cons shape_NaN.ok (.cons widen_either_api_Flags.ok (.cons shape_Inf.ok .nil))))))) _ _ _ _
theorem widen_Convert.ok : CTok Tryz.prog 24 widen_Convert.ct := CTok.of4 Tryz.call24 mix Tryz.func24 (Nat.le_of_ble_eq_true (by kernel_rfl)) (fun to_ from_ m_ a res hres _ _ _ _ => ⟨widen_Convert.cfg fuel, fuel, widen_Convert.cfg_ok fuel, widen_Convert.hl fuel, (widen_Convert.ev fuel to_ from_ m_ a).trans hres⟩)

def ref18_Convert.cfg (_N : Nat) : Cfg := { T := tys, EQ := eqs, C := [(62, ref07_Fits.ct), (63, ref07_RightMode.ct), (64, ref08_Sign.ct), (65, ref08_IsNaN.ct), (67, ref08_IsInf.ct), (76, ref07_Right.ct), (78, ref09_Round.ct), (91, ref08_IsSignaling.ct), (92, ref07_NaN.ct), (93, ref07_Inf.ct), (94, ref08_IsZero.ct), (95, ref07_Zero.ct), (96, ref08_Value.ct)], lp := [], un := [], ks := [], keep := [0, 1, 2, 3, 7, 8, 9, 10, 11, 12, 27, 31, 34, 44, 50] }
theorem ref18_Convert.ev (N : Nat) (to_ : Int) (from_ : Int) (m_ : Int) (a : B2) : evFunc (ref18_Convert.cfg N) N Tryz.f25 [.v ((dI .u8).enc to_), .v ((dI .u8).enc from_), .v ((dI .u8).enc m_), .v (dBits.enc a)] [] 0 (dT3 dBits (dI .u8) (dI .i64)).dec = ref18_Convert.g to_ from_ m_ a := by kernel_rfl
theorem ref18_Convert.hl (N : Nat) : ∀ body, Tryz.f25.body = some body → ∀ b ∈ loopsOf body, ∀ lc, lkL (firstReg b) (ref18_Convert.cfg N).lp = some lc → LCOk (ref18_Convert.cfg N) N b lc := HL_nil rfl
theorem ref18_Convert.cfg_ok (N : Nat) : CfgOk Tryz.prog (ref18_Convert.cfg N) := mkCfg (.cons ref07_Fits.ok (.cons ref07_RightMode.ok (.cons ref08_Sign.ok (.cons ref08_IsNaN.ok (.cons ref08_IsInf.ok (.cons ref07_Right.ok (.cons ref09_Round.ok (.cons ref08_IsSignaling.ok (.cons ref07_NaN.ok (.cons ref07_Inf.ok (.cons ref08_IsZero.ok (.cons ref07_Zero.ok (.cons ref08_Value.ok .nil))))))))))))) _ _ _ _
theorem ref18_Convert.ok : CTok Tryz.prog 25 ref18_Convert.ct := CTok.of4 Tryz.call25 mix Tryz.func25 (Nat.le_of_ble_eq_true (by kernel_rfl)) (fun to_ from_ m_ a res hres _ _ _ _ => ⟨ref18_Convert.cfg fuel, fuel, ref18_Convert.cfg_ok fuel, ref18_Convert.hl fuel, (ref18_Convert.ev fuel to_ from_ m_ a).trans hres⟩)

def widen_either_bool.cfg (_N : Nat) : Cfg := { T := tys, EQ := eqs, C := [], lp := [], un := [], ks := [], keep := [0, 1, 2, 6, 7] }
theorem widen_either_bool.ev (N : Nat) (is : Bool) (a : Bool) (b : Bool) : evFunc (widen_either_bool.cfg N) N Tryz.f97 [.v (dB.enc is), .v (dB.enc a), .v (dB.enc b)] [] 0 dB.dec = widen_either_bool.g is a b := by kernel_rfl
theorem widen_either_bool.hl (N : Nat) : ∀ body, Tryz.f97.body = some body → ∀ b ∈ loopsOf body, ∀ lc, lkL (firstReg b) (widen_either_bool.cfg N).lp = some lc → LCOk (widen_either_bool.cfg N) N b lc := HL_nil rfl
theorem widen_either_bool.cfg_ok (N : Nat) : CfgOk Tryz.prog (widen_either_bool.cfg N) := mkCfg .nil _ _ _ _
theorem widen_either_bool.ok : CTok Tryz.prog 97 widen_either_bool.ct := CTok.of3 Tryz.call97 mix Tryz.func97 (Nat.le_of_ble_eq_true (by kernel_rfl)) (fun is a b res hres _ _ _ => ⟨widen_either_bool.cfg fuel, fuel, widen_either_bool.cfg_ok fuel, widen_either_bool.hl fuel, (widen_either_bool.ev fuel is a b).trans hres⟩)

def widen_Fits.cfg (_N : Nat) : Cfg := { T := tys, EQ := eqs, C := [(24, widen_Convert.ct), (58, kind_Class.ct), (97, widen_either_bool.ct)], lp := [], un := [], ks := [], keep := [0, 1, 2, 5, 6, 7, 9, 10, 11] }
theorem widen_Fits.ev (N : Nat) (to_ : Int) (from_ : Int) (a : B2) : evFunc (widen_Fits.cfg N) N Tryz.f27 [.v ((dI .u8).enc to_), .v ((dI .u8).enc from_), .v (dBits.enc a)] [] 0 (dT2 dB (dI .i64)).dec = widen_Fits.g to_ from_ a := by kernel_rfl
theorem widen_Fits.hl (N : Nat) : ∀ body, Tryz.f27.body = some body → ∀ b ∈ loopsOf body, ∀ lc, lkL (firstReg b) (widen_Fits.cfg N).lp = some lc → LCOk (widen_Fits.cfg N) N b lc := HL_nil rfl
theorem widen_Fits.cfg_ok (N : Nat) : CfgOk Tryz.prog (widen_Fits.cfg N) := mkCfg (.cons widen_Convert.ok (.cons kind_Class.ok (.cons widen_either_bool.ok .nil))) _ _ _ _
theorem widen_Fits.ok : CTok Tryz.prog 27 widen_Fits.ct := CTok.of3 Tryz.call27 mix Tryz.func27 (Nat.le_of_ble_eq_true (by kernel_rfl)) (fun to_ from_ a res hres _ _ _ => ⟨widen_Fits.cfg fuel, fuel, widen_Fits.cfg_ok fuel, widen_Fits.hl fuel, (widen_Fits.ev fuel to_ from_ a).trans hres⟩)

def ref18_Fits.cfg (_N : Nat) : Cfg := { T := tys, EQ := eqs, C := [(62, ref07_Fits.ct), (65, ref08_IsNaN.ct), (67, ref08_IsInf.ct), (76, ref07_Right.ct), (96, ref08_Value.ct), (98, ref08_Of.ct)], lp := [], un := [], ks := [], keep := [0, 1, 2, 5, 6, 7, 8, 11, 20, 23, 26] }
theorem ref18_Fits.ev (N : Nat) (to_ : Int) (from_ : Int) (a : B2) : evFunc (ref18_Fits.cfg N) N Tryz.f28 [.v ((dI .u8).enc to_), .v ((dI .u8).enc from_), .v (dBits.enc a)] [] 0 (dT2 dB (dI .i64)).dec = ref18_Fits.g to_ from_ a := by kernel_rfl
theorem ref18_Fits.hl (N : Nat) : ∀ body, Tryz.f28.body = some body → ∀ b ∈ loopsOf body, ∀ lc, lkL (firstReg b) (ref18_Fits.cfg N).lp = some lc → LCOk (ref18_Fits.cfg N) N b lc := HL_nil rfl
theorem ref18_Fits.cfg_ok (N : Nat) : CfgOk Tryz.prog (ref18_Fits.cfg N) := mkCfg (.cons ref07_Fits.ok (.cons ref08_IsNaN.ok (.cons ref08_IsInf.ok (.cons ref07_Right.ok (.cons ref08_Value.ok (.cons ref08_Of.ok .nil)))))) _ _ _ _
theorem ref18_Fits.ok : CTok Tryz.prog 28 ref18_Fits.ct := CTok.of3 Tryz.call28 mix Tryz.func28 (Nat.le_of_ble_eq_true (by kernel_rfl)) (fun to_ from_ a res hres _ _ _ => ⟨ref18_Fits.cfg fuel, fuel, ref18_Fits.cfg_ok fuel, ref18_Fits.hl fuel, (ref18_Fits.ev fuel to_ from_ a).trans hres⟩)

end
end Go.Proofs.YtnfbcofieobkkaaGreatDoor
