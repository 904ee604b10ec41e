/- Printed by a program: the contracts of Go functions. -/
import Derived.Test.YtnfbcofieobkkaaGreatDoorPF
import Derived.Test.YtnfbcofieobkkaaGreatDoorAR
namespace Go.Proofs.YtnfbcofieobkkaaGreatDoor
open Go Go.Proofs Ev
set_option linter.unusedVariables false
set_option linter.unusedSimpArgs false
noncomputable section

def fromint_signed.cfg (_N : Nat) : Cfg := { T := tys, EQ := eqs, C := [], lp := [], un := [], ks := [], keep := [0, 2, 3, 5] }
theorem fromint_signed.ev (N : Nat) (s : Int) : evFunc (fromint_signed.cfg N) N Tryz.f80 [.v ((dI .i64).enc s)] [] 0 (dT2 dB (dI .u64)).dec = fromint_signed.g s := by kernel_rfl
theorem fromint_signed.hl (N : Nat) : ∀ body, Tryz.f80.body = some body → ∀ b ∈ loopsOf body, ∀ lc, lkL (firstReg b) (fromint_signed.cfg N).lp = some lc → LCOk (fromint_signed.cfg N) N b lc := HL_nil rfl
theorem fromint_signed.cfg_ok (N : Nat) : CfgOk Tryz.prog (fromint_signed.cfg N) := mkCfg .nil _ _ _ _
theorem fromint_signed.ok : CTok Tryz.prog 80 fromint_signed.ct := CTok.of1 Tryz.call80 mix Tryz.func80 (Nat.le_of_ble_eq_true (by kernel_rfl)) (fun s res hres _ => ⟨fromint_signed.cfg fuel, fuel, fromint_signed.cfg_ok fuel, fromint_signed.hl fuel, (fromint_signed.ev fuel s).trans hres⟩)

def fromint_Number_1.cfg (_N : Nat) : Cfg := { T := tys, EQ := eqs, C := [(80, fromint_signed.ct)], lp := [], un := [], ks := [], keep := [0, 2, 3] }
theorem fromint_Number_1.ev (N : Nat) (x : Int) : evFunc (fromint_Number_1.cfg N) N Tryz.f79 [.v ((dI .u64).enc x)] [] 0 (dT2 dB (dI .u64)).dec = fromint_Number_1.g x := by kernel_rfl
theorem fromint_Number_1.hl (N : Nat) : ∀ body, Tryz.f79.body = some body → ∀ b ∈ loopsOf body, ∀ lc, lkL (firstReg b) (fromint_Number_1.cfg N).lp = some lc → LCOk (fromint_Number_1.cfg N) N b lc := HL_nil rfl
theorem fromint_Number_1.cfg_ok (N : Nat) : CfgOk Tryz.prog (fromint_Number_1.cfg N) := mkCfg (.cons fromint_signed.ok .nil) _ _ _ _
theorem fromint_Number_1.ok : CTok Tryz.prog 79 fromint_Number_1.ct := CTok.of1 Tryz.call79 mix Tryz.func79 (Nat.le_of_ble_eq_true (by kernel_rfl)) (fun x res hres _ => ⟨fromint_Number_1.cfg fuel, fuel, fromint_Number_1.cfg_ok fuel, fromint_Number_1.hl fuel, (fromint_Number_1.ev fuel x).trans hres⟩)

def fromint_Number_2.cfg (_N : Nat) : Cfg := { T := tys, EQ := eqs, C := [], lp := [], un := [], ks := [], keep := [0, 2, 3] }
theorem fromint_Number_2.ev (N : Nat) (x : Int) : evFunc (fromint_Number_2.cfg N) N Tryz.f81 [.v ((dI .u64).enc x)] [] 0 (dT2 dB (dI .u64)).dec = fromint_Number_2.g x := by kernel_rfl
theorem fromint_Number_2.hl (N : Nat) : ∀ body, Tryz.f81.body = some body → ∀ b ∈ loopsOf body, ∀ lc, lkL (firstReg b) (fromint_Number_2.cfg N).lp = some lc → LCOk (fromint_Number_2.cfg N) N b lc := HL_nil rfl
theorem fromint_Number_2.cfg_ok (N : Nat) : CfgOk Tryz.prog (fromint_Number_2.cfg N) := mkCfg .nil _ _ _ _
theorem fromint_Number_2.ok : CTok Tryz.prog 81 fromint_Number_2.ct := CTok.of1 Tryz.call81 mix Tryz.func81 (Nat.le_of_ble_eq_true (by kernel_rfl)) (fun x res hres _ => ⟨fromint_Number_2.cfg fuel, fuel, fromint_Number_2.cfg_ok fuel, fromint_Number_2.hl fuel, (fromint_Number_2.ev fuel x).trans hres⟩)

def fromint_Number_3.cfg (_N : Nat) : Cfg := { T := tys, EQ := eqs, C := [(80, fromint_signed.ct)], lp := [], un := [], ks := [], keep := [0, 2, 3] }
theorem fromint_Number_3.ev (N : Nat) (x : Int) : evFunc (fromint_Number_3.cfg N) N Tryz.f82 [.v ((dI .u64).enc x)] [] 0 (dT2 dB (dI .u64)).dec = fromint_Number_3.g x := by kernel_rfl
theorem fromint_Number_3.hl (N : Nat) : ∀ body, Tryz.f82.body = some body → ∀ b ∈ loopsOf body, ∀ lc, lkL (firstReg b) (fromint_Number_3.cfg N).lp = some lc → LCOk (fromint_Number_3.cfg N) N b lc := HL_nil rfl
theorem fromint_Number_3.cfg_ok (N : Nat) : CfgOk Tryz.prog (fromint_Number_3.cfg N) := mkCfg (.cons fromint_signed.ok .nil) _ _ _ _
theorem fromint_Number_3.ok : CTok Tryz.prog 82 fromint_Number_3.ct := CTok.of1 Tryz.call82 mix Tryz.func82 (Nat.le_of_ble_eq_true (by kernel_rfl)) (fun x res hres _ => ⟨fromint_Number_3.cfg fuel, fuel, fromint_Number_3.cfg_ok fuel, fromint_Number_3.hl fuel, (fromint_Number_3.ev fuel x).trans hres⟩)

def fromint_Number_4.cfg (_N : Nat) : Cfg := { T := tys, EQ := eqs, C := [], lp := [], un := [], ks := [], keep := [0, 2, 3] }
theorem fromint_Number_4.ev (N : Nat) (x : Int) : evFunc (fromint_Number_4.cfg N) N Tryz.f83 [.v ((dI .u64).enc x)] [] 0 (dT2 dB (dI .u64)).dec = fromint_Number_4.g x := by kernel_rfl
theorem fromint_Number_4.hl (N : Nat) : ∀ body, Tryz.f83.body = some body → ∀ b ∈ loopsOf body, ∀ lc, lkL (firstReg b) (fromint_Number_4.cfg N).lp = some lc → LCOk (fromint_Number_4.cfg N) N b lc := HL_nil rfl
theorem fromint_Number_4.cfg_ok (N : Nat) : CfgOk Tryz.prog (fromint_Number_4.cfg N) := mkCfg .nil _ _ _ _
theorem fromint_Number_4.ok : CTok Tryz.prog 83 fromint_Number_4.ct := CTok.of1 Tryz.call83 mix Tryz.func83 (Nat.le_of_ble_eq_true (by kernel_rfl)) (fun x res hres _ => ⟨fromint_Number_4.cfg fuel, fuel, fromint_Number_4.cfg_ok fuel, fromint_Number_4.hl fuel, (fromint_Number_4.ev fuel x).trans hres⟩)

def fromint_Number.cfg (_N : Nat) : Cfg := { T := tys, EQ := eqs, C := [(79, fromint_Number_1.ct), (81, fromint_Number_2.ct), (82, fromint_Number_3.ct), (83, fromint_Number_4.ct)], lp := [], un := [(3, 8)], ks := [(3, [0, 1, 4, 5, 6, 9, 15, 16, 17, 22])], keep := [0, 1, 4, 5, 6, 7, 9, 15, 16, 17, 22] }
theorem fromint_Number.ev (N : Nat) (k_ : Int) (x : Int) : evFunc (fromint_Number.cfg N) N Tryz.f21 [.v ((dI .u8).enc k_), .v ((dI .u64).enc x)] [] 0 (dT3 dB (dI .u64) (dI .i64)).dec = fromint_Number.g k_ x := by kernel_rfl
theorem fromint_Number.hl (N : Nat) : ∀ body, Tryz.f21.body = some body → ∀ b ∈ loopsOf body, ∀ lc, lkL (firstReg b) (fromint_Number.cfg N).lp = some lc → LCOk (fromint_Number.cfg N) N b lc := HL_nil rfl
theorem fromint_Number.cfg_ok (N : Nat) : CfgOk Tryz.prog (fromint_Number.cfg N) := mkCfg (.cons fromint_Number_1.ok (.cons fromint_Number_2.ok (.cons fromint_Number_3.ok (.cons fromint_Number_4.ok .nil)))) _ _ _ _
theorem fromint_Number.ok : CTok Tryz.prog 21 fromint_Number.ct := CTok.of2 Tryz.call21 mix Tryz.func21 (Nat.le_of_ble_eq_true (by kernel_rfl)) (fun k_ x res hres _ _ => ⟨fromint_Number.cfg fuel, fuel, fromint_Number.cfg_ok fuel, fromint_Number.hl fuel, (fromint_Number.ev fuel k_ x).trans hres⟩)

def fromint_Convert.cfg (_N : Nat) : Cfg := { T := tys, EQ := eqs, C := [(21, fromint_Number.ct), (61, wide_Of.ct), (75, round_Pack.ct)], lp := [], un := [], ks := [], keep := [0, 1, 2, 3, 8, 9, 10, 11, 12, 13, 22] }
theorem fromint_Convert.ev (N : Nat) (f : Int) (k_ : Int) (m_ : Int) (x : Int) : evFunc (fromint_Convert.cfg N) N Tryz.f19 [.v ((dI .u8).enc f), .v ((dI .u8).enc k_), .v ((dI .u8).enc m_), .v ((dI .u64).enc x)] [] 0 (dT3 dBits (dI .u8) (dI .i64)).dec = fromint_Convert.g f k_ m_ x := by kernel_rfl
theorem fromint_Convert.hl (N : Nat) : ∀ body, Tryz.f19.body = some body → ∀ b ∈ loopsOf body, ∀ lc, lkL (firstReg b) (fromint_Convert.cfg N).lp = some lc → LCOk (fromint_Convert.cfg N) N b lc := HL_nil rfl
theorem fromint_Convert.cfg_ok (N : Nat) : CfgOk Tryz.prog (fromint_Convert.cfg N) := mkCfg (.cons fromint_Number.ok (.cons wide_Of.ok (.cons round_Pack.ok .nil))) _ _ _ _
theorem fromint_Convert.ok : CTok Tryz.prog 19 fromint_Convert.ct := CTok.of4 Tryz.call19 mix Tryz.func19 (Nat.le_of_ble_eq_true (by kernel_rfl)) (fun f k_ m_ x res hres _ _ _ _ => ⟨fromint_Convert.cfg fuel, fuel, fromint_Convert.cfg_ok fuel, fromint_Convert.hl fuel, (fromint_Convert.ev fuel f k_ m_ x).trans hres⟩)

def ref20_Number.cfg (_N : Nat) : Cfg := { T := tys, EQ := eqs, C := [(74, ref01_Extend.ct), (84, ref01_Field.ct)], lp := [], un := [], ks := [], keep := [0, 1, 4, 5, 6, 7, 11, 15, 20] }
theorem ref20_Number.ev (N : Nat) (k_ : Int) (x : Int) : evFunc (ref20_Number.cfg N) N Tryz.f23 [.v ((dI .u8).enc k_), .v ((dI .u64).enc x)] [] 0 (dT2 dB (dI .u64)).dec = ref20_Number.g k_ x := by kernel_rfl
theorem ref20_Number.hl (N : Nat) : ∀ body, Tryz.f23.body = some body → ∀ b ∈ loopsOf body, ∀ lc, lkL (firstReg b) (ref20_Number.cfg N).lp = some lc → LCOk (ref20_Number.cfg N) N b lc := HL_nil rfl
theorem ref20_Number.cfg_ok (N : Nat) : CfgOk Tryz.prog (ref20_Number.cfg N) := mkCfg (.cons ref01_Extend.ok (.cons ref01_Field.ok .nil)) _ _ _ _
theorem ref20_Number.ok : CTok Tryz.prog 23 ref20_Number.ct := CTok.of2 Tryz.call23 mix Tryz.func23 (Nat.le_of_ble_eq_true (by kernel_rfl)) (fun k_ x res hres _ _ => ⟨ref20_Number.cfg fuel, fuel, ref20_Number.cfg_ok fuel, ref20_Number.hl fuel, (ref20_Number.ev fuel k_ x).trans hres⟩)

def ref20_Convert.cfg (_N : Nat) : Cfg := { T := tys, EQ := eqs, C := [(23, ref20_Number.ct), (63, ref07_RightMode.ct), (72, ref05_Of.ct), (76, ref07_Right.ct), (77, ref06_Make.ct), (78, ref09_Round.ct)], lp := [], un := [], ks := [], keep := [0, 1, 2, 3, 8, 9, 10, 11, 12, 13, 26] }
theorem ref20_Convert.ev (N : Nat) (f : Int) (k_ : Int) (m_ : Int) (x : Int) : evFunc (ref20_Convert.cfg N) N Tryz.f20 [.v ((dI .u8).enc f), .v ((dI .u8).enc k_), .v ((dI .u8).enc m_), .v ((dI .u64).enc x)] [] 0 (dT3 dBits (dI .u8) (dI .i64)).dec = ref20_Convert.g f k_ m_ x := by kernel_rfl
theorem ref20_Convert.hl (N : Nat) : ∀ body, Tryz.f20.body = some body → ∀ b ∈ loopsOf body, ∀ lc, lkL (firstReg b) (ref20_Convert.cfg N).lp = some lc → LCOk (ref20_Convert.cfg N) N b lc := HL_nil rfl
theorem ref20_Convert.cfg_ok (N : Nat) : CfgOk Tryz.prog (ref20_Convert.cfg N) := mkCfg (.cons ref20_Number.ok (.cons ref07_RightMode.ok (.cons ref05_Of.ok (.cons ref07_Right.ok (.cons ref06_Make.ok (.cons ref09_Round.ok .nil)))))) _ _ _ _
theorem ref20_Convert.ok : CTok Tryz.prog 20 ref20_Convert.ct := CTok.of4 Tryz.call20 mix Tryz.func20 (Nat.le_of_ble_eq_true (by kernel_rfl)) (fun f k_ m_ x res hres _ _ _ _ => ⟨ref20_Convert.cfg fuel, fuel, ref20_Convert.cfg_ok fuel, ref20_Convert.hl fuel, (ref20_Convert.ev fuel f k_ m_ x).trans hres⟩)

end
end Go.Proofs.YtnfbcofieobkkaaGreatDoor
