/- Printed by a program: the contracts of Go functions. -/
import Derived.Test.YtnfbcofieobkkaaDoorPW
namespace Go.Proofs.YtnfbcofieobkkaaDoor
open Go Go.Proofs Ev
set_option linter.unusedVariables false
set_option linter.unusedSimpArgs false
noncomputable section

def wide_Bit.cfg (_N : Nat) : Cfg := { T := tys, EQ := eqs, C := [], lp := [], un := [], ks := [], keep := [0, 1, 2, 4] }
theorem wide_Bit.ev (N : Nat) (a : W6) (i : Int) : evFunc (wide_Bit.cfg N) N Tryd.f58 [.v (dW.enc a), .v ((dI .i64).enc i)] [] 0 dB.dec = wide_Bit.g a i := by kernel_rfl
theorem wide_Bit.hl (N : Nat) : ∀ body, Tryd.f58.body = some body → ∀ b ∈ loopsOf body, ∀ lc, lkL (firstReg b) (wide_Bit.cfg N).lp = some lc → LCOk (wide_Bit.cfg N) N b lc := HL_nil rfl
theorem wide_Bit.cfg_ok (N : Nat) : CfgOk Tryd.prog (wide_Bit.cfg N) := mkCfg .nil _ _ _ _
theorem wide_Bit.ok : CTok Tryd.prog 58 wide_Bit.ct := CTok.of2 Tryd.call58 mix Tryd.func58 (Nat.le_of_ble_eq_true (by kernel_rfl)) (fun a i res hres _ _ => ⟨wide_Bit.cfg fuel, fuel, wide_Bit.cfg_ok fuel, wide_Bit.hl fuel, (wide_Bit.ev fuel a i).trans hres⟩)

def wide_OfBits.cfg (_N : Nat) : Cfg := { T := tys, EQ := eqs, C := [], lp := [], un := [], ks := [], keep := [0, 1, 2] }
theorem wide_OfBits.ev (N : Nat) (b : B2) : evFunc (wide_OfBits.cfg N) N Tryd.f59 [.v (dBits.enc b)] [] 0 dW.dec = wide_OfBits.g b := by kernel_rfl
theorem wide_OfBits.hl (N : Nat) : ∀ body, Tryd.f59.body = some body → ∀ b ∈ loopsOf body, ∀ lc, lkL (firstReg b) (wide_OfBits.cfg N).lp = some lc → LCOk (wide_OfBits.cfg N) N b lc := HL_nil rfl
theorem wide_OfBits.cfg_ok (N : Nat) : CfgOk Tryd.prog (wide_OfBits.cfg N) := mkCfg .nil _ _ _ _
theorem wide_OfBits.ok : CTok Tryd.prog 59 wide_OfBits.ct := CTok.of1 Tryd.call59 mix Tryd.func59 (Nat.le_of_ble_eq_true (by kernel_rfl)) (fun b res hres _ => ⟨wide_OfBits.cfg fuel, fuel, wide_OfBits.cfg_ok fuel, wide_OfBits.hl fuel, (wide_OfBits.ev fuel b).trans hres⟩)

def wide_count.cfg (_N : Nat) : Cfg := { T := tys, EQ := eqs, C := [], lp := [], un := [], ks := [], keep := [0, 2] }
theorem wide_count.ev (N : Nat) (n : Int) : evFunc (wide_count.cfg N) N Tryd.f100 [.v ((dI .i64).enc n)] [] 0 (dI .i64).dec = wide_count.g n := by kernel_rfl
theorem wide_count.hl (N : Nat) : ∀ body, Tryd.f100.body = some body → ∀ b ∈ loopsOf body, ∀ lc, lkL (firstReg b) (wide_count.cfg N).lp = some lc → LCOk (wide_count.cfg N) N b lc := HL_nil rfl
theorem wide_count.cfg_ok (N : Nat) : CfgOk Tryd.prog (wide_count.cfg N) := mkCfg .nil _ _ _ _
theorem wide_count.ok : CTok Tryd.prog 100 wide_count.ct := CTok.of1 Tryd.call100 mix Tryd.func100 (Nat.le_of_ble_eq_true (by kernel_rfl)) (fun n res hres _ => ⟨wide_count.cfg fuel, fuel, wide_count.cfg_ok fuel, wide_count.hl fuel, (wide_count.ev fuel n).trans hres⟩)

def word_Low.cfg (_N : Nat) : Cfg := { T := tys, EQ := eqs, C := [(172, math_bits_TrailingZeros64.ct)], lp := [], un := [], ks := [], keep := [0, 2] }
theorem word_Low.ev (N : Nat) (x : Int) : evFunc (word_Low.cfg N) N Tryd.f156 [.v ((dI .u64).enc x)] [] 0 (dI .i64).dec = word_Low.g x := by kernel_rfl
theorem word_Low.hl (N : Nat) : ∀ body, Tryd.f156.body = some body → ∀ b ∈ loopsOf body, ∀ lc, lkL (firstReg b) (word_Low.cfg N).lp = some lc → LCOk (word_Low.cfg N) N b lc := HL_nil rfl
theorem word_Low.cfg_ok (N : Nat) : CfgOk Tryd.prog (word_Low.cfg N) := mkCfg (.cons math_bits_TrailingZeros64.ok .nil) _ _ _ _
theorem word_Low.ok : CTok Tryd.prog 156 word_Low.ct := CTok.of1 Tryd.call156 mix Tryd.func156 (Nat.le_of_ble_eq_true (by kernel_rfl)) (fun x res hres _ => ⟨word_Low.cfg fuel, fuel, word_Low.cfg_ok fuel, word_Low.hl fuel, (word_Low.ev fuel x).trans hres⟩)

def wide_Low.cfg (_N : Nat) : Cfg := { T := tys, EQ := eqs, C := [(156, word_Low.ct)], lp := [], un := [(2, 10)], ks := [(2, [2, 3, 4, 5, 6, 7, 11])], keep := [0, 1, 2, 3, 4, 5, 6, 7, 11] }
theorem wide_Low.ev (N : Nat) (a : W6) : evFunc (wide_Low.cfg N) N Tryd.f136 [.v (dW.enc a)] [] 0 (dI .i64).dec = wide_Low.g a := by kernel_rfl
theorem wide_Low.hl (N : Nat) : ∀ body, Tryd.f136.body = some body → ∀ b ∈ loopsOf body, ∀ lc, lkL (firstReg b) (wide_Low.cfg N).lp = some lc → LCOk (wide_Low.cfg N) N b lc := HL_nil rfl
theorem wide_Low.cfg_ok (N : Nat) : CfgOk Tryd.prog (wide_Low.cfg N) := mkCfg (.cons word_Low.ok .nil) _ _ _ _
theorem wide_Low.ok : CTok Tryd.prog 136 wide_Low.ct := CTok.of1 Tryd.call136 mix Tryd.func136 (Nat.le_of_ble_eq_true (by kernel_rfl)) (fun a res hres _ => ⟨wide_Low.cfg fuel, fuel, wide_Low.cfg_ok fuel, wide_Low.hl fuel, (wide_Low.ev fuel a).trans hres⟩)

def wide_Right.cfg (N : Nat) : Cfg := { T := tys, EQ := eqs, C := [(100, wide_count.ct), (136, wide_Low.ct)], lp := [(5, wide_Right.lc0 N)], un := [], ks := [(5, [2, 4, 5, 6, 7, 8, 28, 43])], keep := [0, 1, 2, 4, 5, 6, 7, 8, 28, 43] }
theorem wide_Right.step0 {R : Type} (N : Nat) (x5 : Bool) (x6 : Int) (x7 : Int) (m0 : W6) (k : Ex → St → Option R) (n : Nat) (x8 : Int) (m1 : W6) :
    loopN (evCode (wide_Right.cfg N) N (loopAt 0 Tryd.f101)) [2, 4, 5, 6, 7, 8] 24 (n + 1) (wide_Right.enc0 x5 x6 x7 x8 m1 m0) k = wide_Right.b0 N x5 x6 x7 m0 (fun x8 m1 => loopN (evCode (wide_Right.cfg N) N (loopAt 0 Tryd.f101)) [2, 4, 5, 6, 7, 8] 24 n (wide_Right.enc0 x5 x6 x7 x8 m1 m0) k) (fun x8 m1 => k (.exit 0) (wide_Right.enc0 x5 x6 x7 x8 m1 m0)) x8 m1 := by kernel_rfl
theorem wide_Right.eq0 {R : Type} (N : Nat) (x5 : Bool) (x6 : Int) (x7 : Int) (m0 : W6) (k : Ex → St → Option R) : ∀ (n : Nat) (x8 : Int) (m1 : W6), loopN (evCode (wide_Right.cfg N) N (loopAt 0 Tryd.f101)) [2, 4, 5, 6, 7, 8] 24 n (wide_Right.enc0 x5 x6 x7 x8 m1 m0) k = wide_Right.l0 N x5 x6 x7 m0 (fun x8 m1 => k (.exit 0) (wide_Right.enc0 x5 x6 x7 x8 m1 m0)) n x8 m1
  | 0, _, _ => rfl
  | n + 1, x8, m1 => (wide_Right.step0 N x5 x6 x7 m0 k n x8 m1).trans (congrArg (fun self => wide_Right.b0 N x5 x6 x7 m0 self (fun x8 m1 => k (.exit 0) (wide_Right.enc0 x5 x6 x7 x8 m1 m0)) x8 m1) ((funext fun x8 => funext fun m1 => wide_Right.eq0 N x5 x6 x7 m0 k n x8 m1)))
theorem wide_Right.lc0_ok (N : Nat) : LCOk (wide_Right.cfg N) N (loopAt 0 Tryd.f101) (wide_Right.lc0 N) := by
  intro R r st k h
  unfold wide_Right.lc0 at h
  obtain ⟨e, m, rfl, h⟩ := tkSt_some h
  obtain ⟨e, rfl, h⟩ := tkP_some h
  obtain ⟨e, rfl, h⟩ := tkP_some h
  obtain ⟨x5, e, rfl, h⟩ := tkD_some h
  obtain ⟨x6, e, rfl, h⟩ := tkD_some h
  obtain ⟨x7, e, rfl, h⟩ := tkD_some h
  obtain ⟨x8, e, rfl, h⟩ := tkD_some h
  obtain ⟨rfl, h⟩ := tkN_some h
  obtain ⟨m1, m, rfl, h⟩ := tkM_some h
  obtain ⟨m0, m, rfl, h⟩ := tkM_some h
  obtain ⟨rfl, h⟩ := tkN_some h
  exact ⟨N, (wide_Right.eq0 N x5 x6 x7 m0 k N x8 m1).trans h⟩
theorem wide_Right.ev (N : Nat) (a : W6) (n : Int) : evFunc (wide_Right.cfg N) N Tryd.f101 [.v (dW.enc a), .v ((dI .i64).enc n)] [] 0 (dT2 dW dB).dec = wide_Right.f N a n := by kernel_rfl
theorem wide_Right.hl (N : Nat) : ∀ body, Tryd.f101.body = some body → ∀ b ∈ loopsOf body, ∀ lc, lkL (firstReg b) (wide_Right.cfg N).lp = some lc → LCOk (wide_Right.cfg N) N b lc := by
  refine HL_of (ids := [5]) (by kernel_rfl) fun j lc hj h => ?_
  match j, hj, h with
    | 0, _, h => cases h; exact wide_Right.lc0_ok N
    | j + 1, hj, _ => exact absurd hj (by simp)
theorem wide_Right.cfg_ok (N : Nat) : CfgOk Tryd.prog (wide_Right.cfg N) := mkCfg (.cons wide_count.ok (.cons wide_Low.ok .nil)) _ _ _ _
theorem wide_Right.ok : CTok Tryd.prog 101 wide_Right.ct := CTok.of2 Tryd.call101 mix Tryd.func101 (Nat.le_of_ble_eq_true (by kernel_rfl)) (fun a n res hres _ _ => ⟨wide_Right.cfg fuel, fuel, wide_Right.cfg_ok fuel, wide_Right.hl fuel, (wide_Right.ev fuel a n).trans hres⟩)

def wide_And.cfg (_N : Nat) : Cfg := { T := tys, EQ := eqs, C := [], lp := [], un := [(2, 10)], ks := [(2, [2, 3, 4, 5, 6, 7])], keep := [0, 1, 2, 3, 4, 5, 6, 7] }
theorem wide_And.ev (N : Nat) (a : W6) (b : W6) : evFunc (wide_And.cfg N) N Tryd.f102 [.v (dW.enc a), .v (dW.enc b)] [] 0 dW.dec = wide_And.g a b := by kernel_rfl
theorem wide_And.hl (N : Nat) : ∀ body, Tryd.f102.body = some body → ∀ b ∈ loopsOf body, ∀ lc, lkL (firstReg b) (wide_And.cfg N).lp = some lc → LCOk (wide_And.cfg N) N b lc := HL_nil rfl
theorem wide_And.cfg_ok (N : Nat) : CfgOk Tryd.prog (wide_And.cfg N) := mkCfg .nil _ _ _ _
theorem wide_And.ok : CTok Tryd.prog 102 wide_And.ct := CTok.of2 Tryd.call102 mix Tryd.func102 (Nat.le_of_ble_eq_true (by kernel_rfl)) (fun a b res hres _ _ => ⟨wide_And.cfg fuel, fuel, wide_And.cfg_ok fuel, wide_And.hl fuel, (wide_And.ev fuel a b).trans hres⟩)

def word_count.cfg (_N : Nat) : Cfg := { T := tys, EQ := eqs, C := [], lp := [], un := [], ks := [], keep := [0, 2] }
theorem word_count.ev (N : Nat) (n : Int) : evFunc (word_count.cfg N) N Tryd.f157 [.v ((dI .i64).enc n)] [] 0 (dI .u64).dec = word_count.g n := by kernel_rfl
theorem word_count.hl (N : Nat) : ∀ body, Tryd.f157.body = some body → ∀ b ∈ loopsOf body, ∀ lc, lkL (firstReg b) (word_count.cfg N).lp = some lc → LCOk (word_count.cfg N) N b lc := HL_nil rfl
theorem word_count.cfg_ok (N : Nat) : CfgOk Tryd.prog (word_count.cfg N) := mkCfg .nil _ _ _ _
theorem word_count.ok : CTok Tryd.prog 157 word_count.ct := CTok.of1 Tryd.call157 mix Tryd.func157 (Nat.le_of_ble_eq_true (by kernel_rfl)) (fun n res hres _ => ⟨word_count.cfg fuel, fuel, word_count.cfg_ok fuel, word_count.hl fuel, (word_count.ev fuel n).trans hres⟩)

def word_Mask.cfg (_N : Nat) : Cfg := { T := tys, EQ := eqs, C := [(157, word_count.ct)], lp := [], un := [], ks := [], keep := [0, 2] }
theorem word_Mask.ev (N : Nat) (n : Int) : evFunc (word_Mask.cfg N) N Tryd.f137 [.v ((dI .i64).enc n)] [] 0 (dI .u64).dec = word_Mask.g n := by kernel_rfl
theorem word_Mask.hl (N : Nat) : ∀ body, Tryd.f137.body = some body → ∀ b ∈ loopsOf body, ∀ lc, lkL (firstReg b) (word_Mask.cfg N).lp = some lc → LCOk (word_Mask.cfg N) N b lc := HL_nil rfl
theorem word_Mask.cfg_ok (N : Nat) : CfgOk Tryd.prog (word_Mask.cfg N) := mkCfg (.cons word_count.ok .nil) _ _ _ _
theorem word_Mask.ok : CTok Tryd.prog 137 word_Mask.ct := CTok.of1 Tryd.call137 mix Tryd.func137 (Nat.le_of_ble_eq_true (by kernel_rfl)) (fun n res hres _ => ⟨word_Mask.cfg fuel, fuel, word_Mask.cfg_ok fuel, word_Mask.hl fuel, (word_Mask.ev fuel n).trans hres⟩)

def wide_Mask.cfg (_N : Nat) : Cfg := { T := tys, EQ := eqs, C := [(100, wide_count.ct), (137, word_Mask.ct)], lp := [], un := [(4, 10)], ks := [(4, [0, 2, 3, 4, 7, 8])], keep := [0, 2, 3, 4, 7, 8] }
theorem wide_Mask.ev (N : Nat) (n : Int) : evFunc (wide_Mask.cfg N) N Tryd.f103 [.v ((dI .i64).enc n)] [] 0 dW.dec = wide_Mask.g n := by kernel_rfl
theorem wide_Mask.hl (N : Nat) : ∀ body, Tryd.f103.body = some body → ∀ b ∈ loopsOf body, ∀ lc, lkL (firstReg b) (wide_Mask.cfg N).lp = some lc → LCOk (wide_Mask.cfg N) N b lc := HL_nil rfl
theorem wide_Mask.cfg_ok (N : Nat) : CfgOk Tryd.prog (wide_Mask.cfg N) := mkCfg (.cons wide_count.ok (.cons word_Mask.ok .nil)) _ _ _ _
theorem wide_Mask.ok : CTok Tryd.prog 103 wide_Mask.ct := CTok.of1 Tryd.call103 mix Tryd.func103 (Nat.le_of_ble_eq_true (by kernel_rfl)) (fun n res hres _ => ⟨wide_Mask.cfg fuel, fuel, wide_Mask.cfg_ok fuel, wide_Mask.hl fuel, (wide_Mask.ev fuel n).trans hres⟩)

def word_Len.cfg (_N : Nat) : Cfg := { T := tys, EQ := eqs, C := [(155, math_bits_Len64.ct)], lp := [], un := [], ks := [], keep := [0, 2] }
theorem word_Len.ev (N : Nat) (x : Int) : evFunc (word_Len.cfg N) N Tryd.f135 [.v ((dI .u64).enc x)] [] 0 (dI .i64).dec = word_Len.g x := by kernel_rfl
theorem word_Len.hl (N : Nat) : ∀ body, Tryd.f135.body = some body → ∀ b ∈ loopsOf body, ∀ lc, lkL (firstReg b) (word_Len.cfg N).lp = some lc → LCOk (word_Len.cfg N) N b lc := HL_nil rfl
theorem word_Len.cfg_ok (N : Nat) : CfgOk Tryd.prog (word_Len.cfg N) := mkCfg (.cons math_bits_Len64.ok .nil) _ _ _ _
theorem word_Len.ok : CTok Tryd.prog 135 word_Len.ct := CTok.of1 Tryd.call135 mix Tryd.func135 (Nat.le_of_ble_eq_true (by kernel_rfl)) (fun x res hres _ => ⟨word_Len.cfg fuel, fuel, word_Len.cfg_ok fuel, word_Len.hl fuel, (word_Len.ev fuel x).trans hres⟩)

def wide_Len.cfg (_N : Nat) : Cfg := { T := tys, EQ := eqs, C := [(135, word_Len.ct)], lp := [], un := [(2, 10)], ks := [(2, [1, 2, 3, 5, 11])], keep := [0, 1, 2, 3, 5, 11] }
theorem wide_Len.ev (N : Nat) (a : W6) : evFunc (wide_Len.cfg N) N Tryd.f95 [.v (dW.enc a)] [] 0 (dI .i64).dec = wide_Len.g a := by kernel_rfl
theorem wide_Len.hl (N : Nat) : ∀ body, Tryd.f95.body = some body → ∀ b ∈ loopsOf body, ∀ lc, lkL (firstReg b) (wide_Len.cfg N).lp = some lc → LCOk (wide_Len.cfg N) N b lc := HL_nil rfl
theorem wide_Len.cfg_ok (N : Nat) : CfgOk Tryd.prog (wide_Len.cfg N) := mkCfg (.cons word_Len.ok .nil) _ _ _ _
theorem wide_Len.ok : CTok Tryd.prog 95 wide_Len.ct := CTok.of1 Tryd.call95 mix Tryd.func95 (Nat.le_of_ble_eq_true (by kernel_rfl)) (fun a res hres _ => ⟨wide_Len.cfg fuel, fuel, wide_Len.cfg_ok fuel, wide_Len.hl fuel, (wide_Len.ev fuel a).trans hres⟩)

def wide_Left.cfg (N : Nat) : Cfg := { T := tys, EQ := eqs, C := [(95, wide_Len.ct), (100, wide_count.ct)], lp := [(5, wide_Left.lc0 N)], un := [], ks := [(5, [2, 4, 5, 6, 7, 8, 28, 42])], keep := [0, 1, 2, 4, 5, 6, 7, 8, 28, 42] }
theorem wide_Left.step0 {R : Type} (N : Nat) (x5 : Bool) (x6 : Int) (x7 : Int) (m0 : W6) (k : Ex → St → Option R) (n : Nat) (x8 : Int) (m1 : W6) :
    loopN (evCode (wide_Left.cfg N) N (loopAt 0 Tryd.f42)) [2, 4, 5, 6, 7, 8] 25 (n + 1) (wide_Left.enc0 x5 x6 x7 x8 m1 m0) k = wide_Left.b0 N x5 x6 x7 m0 (fun x8 m1 => loopN (evCode (wide_Left.cfg N) N (loopAt 0 Tryd.f42)) [2, 4, 5, 6, 7, 8] 25 n (wide_Left.enc0 x5 x6 x7 x8 m1 m0) k) (fun x8 m1 => k (.exit 0) (wide_Left.enc0 x5 x6 x7 x8 m1 m0)) x8 m1 := by kernel_rfl
theorem wide_Left.eq0 {R : Type} (N : Nat) (x5 : Bool) (x6 : Int) (x7 : Int) (m0 : W6) (k : Ex → St → Option R) : ∀ (n : Nat) (x8 : Int) (m1 : W6), loopN (evCode (wide_Left.cfg N) N (loopAt 0 Tryd.f42)) [2, 4, 5, 6, 7, 8] 25 n (wide_Left.enc0 x5 x6 x7 x8 m1 m0) k = wide_Left.l0 N x5 x6 x7 m0 (fun x8 m1 => k (.exit 0) (wide_Left.enc0 x5 x6 x7 x8 m1 m0)) n x8 m1
  | 0, _, _ => rfl
  | n + 1, x8, m1 => (wide_Left.step0 N x5 x6 x7 m0 k n x8 m1).trans (congrArg (fun self => wide_Left.b0 N x5 x6 x7 m0 self (fun x8 m1 => k (.exit 0) (wide_Left.enc0 x5 x6 x7 x8 m1 m0)) x8 m1) ((funext fun x8 => funext fun m1 => wide_Left.eq0 N x5 x6 x7 m0 k n x8 m1)))
theorem wide_Left.lc0_ok (N : Nat) : LCOk (wide_Left.cfg N) N (loopAt 0 Tryd.f42) (wide_Left.lc0 N) := by
  intro R r st k h
  unfold wide_Left.lc0 at h
  obtain ⟨e, m, rfl, h⟩ := tkSt_some h
  obtain ⟨e, rfl, h⟩ := tkP_some h
  obtain ⟨e, rfl, h⟩ := tkP_some h
  obtain ⟨x5, e, rfl, h⟩ := tkD_some h
  obtain ⟨x6, e, rfl, h⟩ := tkD_some h
  obtain ⟨x7, e, rfl, h⟩ := tkD_some h
  obtain ⟨x8, e, rfl, h⟩ := tkD_some h
  obtain ⟨rfl, h⟩ := tkN_some h
  obtain ⟨m1, m, rfl, h⟩ := tkM_some h
  obtain ⟨m0, m, rfl, h⟩ := tkM_some h
  obtain ⟨rfl, h⟩ := tkN_some h
  exact ⟨N, (wide_Left.eq0 N x5 x6 x7 m0 k N x8 m1).trans h⟩
theorem wide_Left.ev (N : Nat) (a : W6) (n : Int) : evFunc (wide_Left.cfg N) N Tryd.f42 [.v (dW.enc a), .v ((dI .i64).enc n)] [] 0 (dT2 dW dB).dec = wide_Left.f N a n := by kernel_rfl
theorem wide_Left.hl (N : Nat) : ∀ body, Tryd.f42.body = some body → ∀ b ∈ loopsOf body, ∀ lc, lkL (firstReg b) (wide_Left.cfg N).lp = some lc → LCOk (wide_Left.cfg N) N b lc := by
  refine HL_of (ids := [5]) (by kernel_rfl) fun j lc hj h => ?_
  match j, hj, h with
    | 0, _, h => cases h; exact wide_Left.lc0_ok N
    | j + 1, hj, _ => exact absurd hj (by simp)
theorem wide_Left.cfg_ok (N : Nat) : CfgOk Tryd.prog (wide_Left.cfg N) := mkCfg (.cons wide_Len.ok (.cons wide_count.ok .nil)) _ _ _ _
theorem wide_Left.ok : CTok Tryd.prog 42 wide_Left.ct := CTok.of2 Tryd.call42 mix Tryd.func42 (Nat.le_of_ble_eq_true (by kernel_rfl)) (fun a n res hres _ _ => ⟨wide_Left.cfg fuel, fuel, wide_Left.cfg_ok fuel, wide_Left.hl fuel, (wide_Left.ev fuel a n).trans hres⟩)

def word_one.cfg (_N : Nat) : Cfg := { T := tys, EQ := eqs, C := [], lp := [], un := [], ks := [], keep := [0, 2, 3] }
theorem word_one.ev (N : Nat) (c : Bool) : evFunc (word_one.cfg N) N Tryd.f138 [.v (dB.enc c)] [] 0 (dI .u64).dec = word_one.g c := by kernel_rfl
theorem word_one.hl (N : Nat) : ∀ body, Tryd.f138.body = some body → ∀ b ∈ loopsOf body, ∀ lc, lkL (firstReg b) (word_one.cfg N).lp = some lc → LCOk (word_one.cfg N) N b lc := HL_nil rfl
theorem word_one.cfg_ok (N : Nat) : CfgOk Tryd.prog (word_one.cfg N) := mkCfg .nil _ _ _ _
theorem word_one.ok : CTok Tryd.prog 138 word_one.ct := CTok.of1 Tryd.call138 mix Tryd.func138 (Nat.le_of_ble_eq_true (by kernel_rfl)) (fun c res hres _ => ⟨word_one.cfg fuel, fuel, word_one.cfg_ok fuel, word_one.hl fuel, (word_one.ev fuel c).trans hres⟩)

def word_Add.cfg (_N : Nat) : Cfg := { T := tys, EQ := eqs, C := [(138, word_one.ct)], lp := [], un := [], ks := [], keep := [0, 1, 2, 6, 7] }
theorem word_Add.ev (N : Nat) (a : Int) (b : Int) (carry : Bool) : evFunc (word_Add.cfg N) N Tryd.f104 [.v ((dI .u64).enc a), .v ((dI .u64).enc b), .v (dB.enc carry)] [] 0 (dT2 (dI .u64) dB).dec = word_Add.g a b carry := by kernel_rfl
theorem word_Add.hl (N : Nat) : ∀ body, Tryd.f104.body = some body → ∀ b ∈ loopsOf body, ∀ lc, lkL (firstReg b) (word_Add.cfg N).lp = some lc → LCOk (word_Add.cfg N) N b lc := HL_nil rfl
theorem word_Add.cfg_ok (N : Nat) : CfgOk Tryd.prog (word_Add.cfg N) := mkCfg (.cons word_one.ok .nil) _ _ _ _
theorem word_Add.ok : CTok Tryd.prog 104 word_Add.ct := CTok.of3 Tryd.call104 mix Tryd.func104 (Nat.le_of_ble_eq_true (by kernel_rfl)) (fun a b carry res hres _ _ _ => ⟨word_Add.cfg fuel, fuel, word_Add.cfg_ok fuel, word_Add.hl fuel, (word_Add.ev fuel a b carry).trans hres⟩)

def wide_Add.cfg (_N : Nat) : Cfg := { T := tys, EQ := eqs, C := [(104, word_Add.ct)], lp := [], un := [(2, 10)], ks := [(2, [2, 3, 4, 5, 6, 7, 8])], keep := [0, 1, 2, 3, 4, 5, 6, 7, 8] }
theorem wide_Add.ev (N : Nat) (a : W6) (b : W6) : evFunc (wide_Add.cfg N) N Tryd.f45 [.v (dW.enc a), .v (dW.enc b)] [] 0 (dT2 dW dB).dec = wide_Add.g a b := by kernel_rfl
theorem wide_Add.hl (N : Nat) : ∀ body, Tryd.f45.body = some body → ∀ b ∈ loopsOf body, ∀ lc, lkL (firstReg b) (wide_Add.cfg N).lp = some lc → LCOk (wide_Add.cfg N) N b lc := HL_nil rfl
theorem wide_Add.cfg_ok (N : Nat) : CfgOk Tryd.prog (wide_Add.cfg N) := mkCfg (.cons word_Add.ok .nil) _ _ _ _
theorem wide_Add.ok : CTok Tryd.prog 45 wide_Add.ct := CTok.of2 Tryd.call45 mix Tryd.func45 (Nat.le_of_ble_eq_true (by kernel_rfl)) (fun a b res hres _ _ => ⟨wide_Add.cfg fuel, fuel, wide_Add.cfg_ok fuel, wide_Add.hl fuel, (wide_Add.ev fuel a b).trans hres⟩)

def wide_Of.cfg (_N : Nat) : Cfg := { T := tys, EQ := eqs, C := [], lp := [], un := [], ks := [], keep := [0, 2] }
theorem wide_Of.ev (N : Nat) (x : Int) : evFunc (wide_Of.cfg N) N Tryd.f46 [.v ((dI .u64).enc x)] [] 0 dW.dec = wide_Of.g x := by kernel_rfl
theorem wide_Of.hl (N : Nat) : ∀ body, Tryd.f46.body = some body → ∀ b ∈ loopsOf body, ∀ lc, lkL (firstReg b) (wide_Of.cfg N).lp = some lc → LCOk (wide_Of.cfg N) N b lc := HL_nil rfl
theorem wide_Of.cfg_ok (N : Nat) : CfgOk Tryd.prog (wide_Of.cfg N) := mkCfg .nil _ _ _ _
theorem wide_Of.ok : CTok Tryd.prog 46 wide_Of.ct := CTok.of1 Tryd.call46 mix Tryd.func46 (Nat.le_of_ble_eq_true (by kernel_rfl)) (fun x res hres _ => ⟨wide_Of.cfg fuel, fuel, wide_Of.cfg_ok fuel, wide_Of.hl fuel, (wide_Of.ev fuel x).trans hres⟩)

def ref02_OfBits.cfg (_N : Nat) : Cfg := { T := tys, EQ := eqs, C := [], lp := [], un := [], ks := [], keep := [0, 1, 2, 3] }
theorem ref02_OfBits.ev (N : Nat) (b : B2) : evFunc (ref02_OfBits.cfg N) N Tryd.f107 [.v (dBits.enc b)] [] 0 dW.dec = ref02_OfBits.g b := by kernel_rfl
theorem ref02_OfBits.hl (N : Nat) : ∀ body, Tryd.f107.body = some body → ∀ b ∈ loopsOf body, ∀ lc, lkL (firstReg b) (ref02_OfBits.cfg N).lp = some lc → LCOk (ref02_OfBits.cfg N) N b lc := HL_nil rfl
theorem ref02_OfBits.cfg_ok (N : Nat) : CfgOk Tryd.prog (ref02_OfBits.cfg N) := mkCfg .nil _ _ _ _
theorem ref02_OfBits.ok : CTok Tryd.prog 107 ref02_OfBits.ct := CTok.of1 Tryd.call107 mix Tryd.func107 (Nat.le_of_ble_eq_true (by kernel_rfl)) (fun b res hres _ => ⟨ref02_OfBits.cfg fuel, fuel, ref02_OfBits.cfg_ok fuel, ref02_OfBits.hl fuel, (ref02_OfBits.ev fuel b).trans hres⟩)

def ref01_Bit.cfg (_N : Nat) : Cfg := { T := tys, EQ := eqs, C := [], lp := [], un := [], ks := [], keep := [0, 1, 4] }
theorem ref01_Bit.ev (N : Nat) (x : Int) (i : Int) : evFunc (ref01_Bit.cfg N) N Tryd.f148 [.v ((dI .u64).enc x), .v ((dI .i64).enc i)] [] 0 dB.dec = ref01_Bit.g x i := by kernel_rfl
theorem ref01_Bit.hl (N : Nat) : ∀ body, Tryd.f148.body = some body → ∀ b ∈ loopsOf body, ∀ lc, lkL (firstReg b) (ref01_Bit.cfg N).lp = some lc → LCOk (ref01_Bit.cfg N) N b lc := HL_nil rfl
theorem ref01_Bit.cfg_ok (N : Nat) : CfgOk Tryd.prog (ref01_Bit.cfg N) := mkCfg .nil _ _ _ _
theorem ref01_Bit.ok : CTok Tryd.prog 148 ref01_Bit.ct := CTok.of2 Tryd.call148 mix Tryd.func148 (Nat.le_of_ble_eq_true (by kernel_rfl)) (fun x i res hres _ _ => ⟨ref01_Bit.cfg fuel, fuel, ref01_Bit.cfg_ok fuel, ref01_Bit.hl fuel, (ref01_Bit.ev fuel x i).trans hres⟩)

def ref02_Bit.cfg (_N : Nat) : Cfg := { T := tys, EQ := eqs, C := [(148, ref01_Bit.ct)], lp := [], un := [], ks := [], keep := [0, 1, 2, 4] }
theorem ref02_Bit.ev (N : Nat) (a : W6) (i : Int) : evFunc (ref02_Bit.cfg N) N Tryd.f130 [.v (dW.enc a), .v ((dI .i64).enc i)] [] 0 dB.dec = ref02_Bit.g a i := by kernel_rfl
theorem ref02_Bit.hl (N : Nat) : ∀ body, Tryd.f130.body = some body → ∀ b ∈ loopsOf body, ∀ lc, lkL (firstReg b) (ref02_Bit.cfg N).lp = some lc → LCOk (ref02_Bit.cfg N) N b lc := HL_nil rfl
theorem ref02_Bit.cfg_ok (N : Nat) : CfgOk Tryd.prog (ref02_Bit.cfg N) := mkCfg (.cons ref01_Bit.ok .nil) _ _ _ _
theorem ref02_Bit.ok : CTok Tryd.prog 130 ref02_Bit.ct := CTok.of2 Tryd.call130 mix Tryd.func130 (Nat.le_of_ble_eq_true (by kernel_rfl)) (fun a i res hres _ _ => ⟨ref02_Bit.cfg fuel, fuel, ref02_Bit.cfg_ok fuel, ref02_Bit.hl fuel, (ref02_Bit.ev fuel a i).trans hres⟩)

def ref02_And.cfg (_N : Nat) : Cfg := { T := tys, EQ := eqs, C := [], lp := [], un := [(2, 10)], ks := [(2, [2, 3, 4, 5, 7])], keep := [0, 1, 2, 3, 4, 5, 7] }
theorem ref02_And.ev (N : Nat) (a : W6) (b : W6) : evFunc (ref02_And.cfg N) N Tryd.f149 [.v (dW.enc a), .v (dW.enc b)] [] 0 dW.dec = ref02_And.g a b := by kernel_rfl
theorem ref02_And.hl (N : Nat) : ∀ body, Tryd.f149.body = some body → ∀ b ∈ loopsOf body, ∀ lc, lkL (firstReg b) (ref02_And.cfg N).lp = some lc → LCOk (ref02_And.cfg N) N b lc := HL_nil rfl
theorem ref02_And.cfg_ok (N : Nat) : CfgOk Tryd.prog (ref02_And.cfg N) := mkCfg .nil _ _ _ _
theorem ref02_And.ok : CTok Tryd.prog 149 ref02_And.ct := CTok.of2 Tryd.call149 mix Tryd.func149 (Nat.le_of_ble_eq_true (by kernel_rfl)) (fun a b res hres _ _ => ⟨ref02_And.cfg fuel, fuel, ref02_And.cfg_ok fuel, ref02_And.hl fuel, (ref02_And.ev fuel a b).trans hres⟩)

def ref02_Count.cfg (_N : Nat) : Cfg := { T := tys, EQ := eqs, C := [], lp := [], un := [], ks := [], keep := [0, 2, 4, 6] }
theorem ref02_Count.ev (N : Nat) (n : Int) : evFunc (ref02_Count.cfg N) N Tryd.f171 [.v ((dI .i64).enc n)] [] 0 (dI .i64).dec = ref02_Count.g n := by kernel_rfl
theorem ref02_Count.hl (N : Nat) : ∀ body, Tryd.f171.body = some body → ∀ b ∈ loopsOf body, ∀ lc, lkL (firstReg b) (ref02_Count.cfg N).lp = some lc → LCOk (ref02_Count.cfg N) N b lc := HL_nil rfl
theorem ref02_Count.cfg_ok (N : Nat) : CfgOk Tryd.prog (ref02_Count.cfg N) := mkCfg .nil _ _ _ _
theorem ref02_Count.ok : CTok Tryd.prog 171 ref02_Count.ct := CTok.of1 Tryd.call171 mix Tryd.func171 (Nat.le_of_ble_eq_true (by kernel_rfl)) (fun n res hres _ => ⟨ref02_Count.cfg fuel, fuel, ref02_Count.cfg_ok fuel, ref02_Count.hl fuel, (ref02_Count.ev fuel n).trans hres⟩)

def ref02_Mask.cfg (N : Nat) : Cfg := { T := tys, EQ := eqs, C := [(171, ref02_Count.ct)], lp := [(4, ref02_Mask.lc0 N)], un := [], ks := [(4, [0, 2, 3, 4, 9])], keep := [0, 2, 3, 4, 9] }
theorem ref02_Mask.step0 {R : Type} (N : Nat) (x0 : Int) (m0 : W6) (k : Ex → St → Option R) (n : Nat) (x4 : Int) (m4 : W6) :
    loopN (evCode (ref02_Mask.cfg N) N (loopAt 0 Tryd.f150)) [0, 2, 3, 4] 6 (n + 1) (ref02_Mask.enc0 x0 x4 m4 m0) k = ref02_Mask.b0 N x0 m0 (fun x4 m4 => loopN (evCode (ref02_Mask.cfg N) N (loopAt 0 Tryd.f150)) [0, 2, 3, 4] 6 n (ref02_Mask.enc0 x0 x4 m4 m0) k) (fun x4 m4 => k (.exit 0) (ref02_Mask.enc0 x0 x4 m4 m0)) x4 m4 := by kernel_rfl
theorem ref02_Mask.eq0 {R : Type} (N : Nat) (x0 : Int) (m0 : W6) (k : Ex → St → Option R) : ∀ (n : Nat) (x4 : Int) (m4 : W6), loopN (evCode (ref02_Mask.cfg N) N (loopAt 0 Tryd.f150)) [0, 2, 3, 4] 6 n (ref02_Mask.enc0 x0 x4 m4 m0) k = ref02_Mask.l0 N x0 m0 (fun x4 m4 => k (.exit 0) (ref02_Mask.enc0 x0 x4 m4 m0)) n x4 m4
  | 0, _, _ => rfl
  | n + 1, x4, m4 => (ref02_Mask.step0 N x0 m0 k n x4 m4).trans (congrArg (fun self => ref02_Mask.b0 N x0 m0 self (fun x4 m4 => k (.exit 0) (ref02_Mask.enc0 x0 x4 m4 m0)) x4 m4) ((funext fun x4 => funext fun m4 => ref02_Mask.eq0 N x0 m0 k n x4 m4)))
theorem ref02_Mask.lc0_ok (N : Nat) : LCOk (ref02_Mask.cfg N) N (loopAt 0 Tryd.f150) (ref02_Mask.lc0 N) := by
  intro R r st k h
  unfold ref02_Mask.lc0 at h
  obtain ⟨e, m, rfl, h⟩ := tkSt_some h
  obtain ⟨x0, e, rfl, h⟩ := tkD_some h
  obtain ⟨e, rfl, h⟩ := tkP_some h
  obtain ⟨e, rfl, h⟩ := tkP_some h
  obtain ⟨x4, e, rfl, h⟩ := tkD_some h
  obtain ⟨rfl, h⟩ := tkN_some h
  obtain ⟨m4, m, rfl, h⟩ := tkM_some h
  obtain ⟨m0, m, rfl, h⟩ := tkM_some h
  obtain ⟨rfl, h⟩ := tkN_some h
  exact ⟨N, (ref02_Mask.eq0 N x0 m0 k N x4 m4).trans h⟩
theorem ref02_Mask.ev (N : Nat) (n : Int) : evFunc (ref02_Mask.cfg N) N Tryd.f150 [.v ((dI .i64).enc n)] [] 0 dW.dec = ref02_Mask.f N n := by kernel_rfl
theorem ref02_Mask.hl (N : Nat) : ∀ body, Tryd.f150.body = some body → ∀ b ∈ loopsOf body, ∀ lc, lkL (firstReg b) (ref02_Mask.cfg N).lp = some lc → LCOk (ref02_Mask.cfg N) N b lc := by
  refine HL_of (ids := [4]) (by kernel_rfl) fun j lc hj h => ?_
  match j, hj, h with
    | 0, _, h => cases h; exact ref02_Mask.lc0_ok N
    | j + 1, hj, _ => exact absurd hj (by simp)
theorem ref02_Mask.cfg_ok (N : Nat) : CfgOk Tryd.prog (ref02_Mask.cfg N) := mkCfg (.cons ref02_Count.ok .nil) _ _ _ _
theorem ref02_Mask.ok : CTok Tryd.prog 150 ref02_Mask.ct := CTok.of1 Tryd.call150 mix Tryd.func150 (Nat.le_of_ble_eq_true (by kernel_rfl)) (fun n res hres _ => ⟨ref02_Mask.cfg fuel, fuel, ref02_Mask.cfg_ok fuel, ref02_Mask.hl fuel, (ref02_Mask.ev fuel n).trans hres⟩)

def ref02_Right.cfg (N : Nat) : Cfg := { T := tys, EQ := eqs, C := [(130, ref02_Bit.ct), (171, ref02_Count.ct)], lp := [(5, ref02_Right.lc0 N)], un := [], ks := [(5, [1, 2, 4, 5, 6, 7, 8, 12, 17, 20])], keep := [0, 1, 2, 4, 5, 6, 7, 8, 12, 17, 20] }
theorem ref02_Right.step0 {R : Type} (N : Nat) (x1 : Int) (x5 : Bool) (m1 : W6) (m0 : W6) (k : Ex → St → Option R) (n : Nat) (x7 : Bool) (x8 : Int) (m6 : W6) :
    loopN (evCode (ref02_Right.cfg N) N (loopAt 0 Tryd.f151)) [1, 2, 4, 5, 6, 7, 8] 9 (n + 1) (ref02_Right.enc0 x1 x5 x7 x8 m6 m1 m0) k = ref02_Right.b0 N x1 x5 m1 m0 (fun x7 x8 m6 => loopN (evCode (ref02_Right.cfg N) N (loopAt 0 Tryd.f151)) [1, 2, 4, 5, 6, 7, 8] 9 n (ref02_Right.enc0 x1 x5 x7 x8 m6 m1 m0) k) (fun x7 x8 m6 => k (.exit 0) (ref02_Right.enc0 x1 x5 x7 x8 m6 m1 m0)) x7 x8 m6 := by kernel_rfl
theorem ref02_Right.eq0 {R : Type} (N : Nat) (x1 : Int) (x5 : Bool) (m1 : W6) (m0 : W6) (k : Ex → St → Option R) : ∀ (n : Nat) (x7 : Bool) (x8 : Int) (m6 : W6), loopN (evCode (ref02_Right.cfg N) N (loopAt 0 Tryd.f151)) [1, 2, 4, 5, 6, 7, 8] 9 n (ref02_Right.enc0 x1 x5 x7 x8 m6 m1 m0) k = ref02_Right.l0 N x1 x5 m1 m0 (fun x7 x8 m6 => k (.exit 0) (ref02_Right.enc0 x1 x5 x7 x8 m6 m1 m0)) n x7 x8 m6
  | 0, _, _, _ => rfl
  | n + 1, x7, x8, m6 => (ref02_Right.step0 N x1 x5 m1 m0 k n x7 x8 m6).trans (congrArg (fun self => ref02_Right.b0 N x1 x5 m1 m0 self (fun x7 x8 m6 => k (.exit 0) (ref02_Right.enc0 x1 x5 x7 x8 m6 m1 m0)) x7 x8 m6) ((funext fun x7 => funext fun x8 => funext fun m6 => ref02_Right.eq0 N x1 x5 m1 m0 k n x7 x8 m6)))
theorem ref02_Right.lc0_ok (N : Nat) : LCOk (ref02_Right.cfg N) N (loopAt 0 Tryd.f151) (ref02_Right.lc0 N) := by
  intro R r st k h
  unfold ref02_Right.lc0 at h
  obtain ⟨e, m, rfl, h⟩ := tkSt_some h
  obtain ⟨x1, e, rfl, h⟩ := tkD_some h
  obtain ⟨e, rfl, h⟩ := tkP_some h
  obtain ⟨e, rfl, h⟩ := tkP_some h
  obtain ⟨x5, e, rfl, h⟩ := tkD_some h
  obtain ⟨e, rfl, h⟩ := tkP_some h
  obtain ⟨x7, e, rfl, h⟩ := tkD_some h
  obtain ⟨x8, e, rfl, h⟩ := tkD_some h
  obtain ⟨rfl, h⟩ := tkN_some h
  obtain ⟨m6, m, rfl, h⟩ := tkM_some h
  obtain ⟨m1, m, rfl, h⟩ := tkM_some h
  obtain ⟨m0, m, rfl, h⟩ := tkM_some h
  obtain ⟨rfl, h⟩ := tkN_some h
  exact ⟨N, (ref02_Right.eq0 N x1 x5 m1 m0 k N x7 x8 m6).trans h⟩
theorem ref02_Right.ev (N : Nat) (a : W6) (n : Int) : evFunc (ref02_Right.cfg N) N Tryd.f151 [.v (dW.enc a), .v ((dI .i64).enc n)] [] 0 (dT2 dW dB).dec = ref02_Right.f N a n := by kernel_rfl
theorem ref02_Right.hl (N : Nat) : ∀ body, Tryd.f151.body = some body → ∀ b ∈ loopsOf body, ∀ lc, lkL (firstReg b) (ref02_Right.cfg N).lp = some lc → LCOk (ref02_Right.cfg N) N b lc := by
  refine HL_of (ids := [5]) (by kernel_rfl) fun j lc hj h => ?_
  match j, hj, h with
    | 0, _, h => cases h; exact ref02_Right.lc0_ok N
    | j + 1, hj, _ => exact absurd hj (by simp)
theorem ref02_Right.cfg_ok (N : Nat) : CfgOk Tryd.prog (ref02_Right.cfg N) := mkCfg (.cons ref02_Bit.ok (.cons ref02_Count.ok .nil)) _ _ _ _
theorem ref02_Right.ok : CTok Tryd.prog 151 ref02_Right.ct := CTok.of2 Tryd.call151 mix Tryd.func151 (Nat.le_of_ble_eq_true (by kernel_rfl)) (fun a n res hres _ _ => ⟨ref02_Right.cfg fuel, fuel, ref02_Right.cfg_ok fuel, ref02_Right.hl fuel, (ref02_Right.ev fuel a n).trans hres⟩)

def ref01_Len.cfg (N : Nat) : Cfg := { T := tys, EQ := eqs, C := [(148, ref01_Bit.ct)], lp := [(3, ref01_Len.lc0 N)], un := [], ks := [(3, [0, 2, 3, 4, 6, 11])], keep := [0, 2, 3, 4, 6, 11] }
theorem ref01_Len.step0 {R : Type} (N : Nat) (x0 : Int) (x2 : Int) (k : Ex → St → Option R) (n : Nat) (x3 : Int) (x4 : Int) :
    loopN (evCode (ref01_Len.cfg N) N (loopAt 0 Tryd.f115)) [0, 2, 3, 4] 3 (n + 1) (ref01_Len.enc0 x0 x2 x3 x4) k = ref01_Len.b0 N x0 x2 (fun x3 x4 => loopN (evCode (ref01_Len.cfg N) N (loopAt 0 Tryd.f115)) [0, 2, 3, 4] 3 n (ref01_Len.enc0 x0 x2 x3 x4) k) (fun x3 x4 => k (.exit 0) (ref01_Len.enc0 x0 x2 x3 x4)) x3 x4 := by kernel_rfl
theorem ref01_Len.eq0 {R : Type} (N : Nat) (x0 : Int) (x2 : Int) (k : Ex → St → Option R) : ∀ (n : Nat) (x3 : Int) (x4 : Int), loopN (evCode (ref01_Len.cfg N) N (loopAt 0 Tryd.f115)) [0, 2, 3, 4] 3 n (ref01_Len.enc0 x0 x2 x3 x4) k = ref01_Len.l0 N x0 x2 (fun x3 x4 => k (.exit 0) (ref01_Len.enc0 x0 x2 x3 x4)) n x3 x4
  | 0, _, _ => rfl
  | n + 1, x3, x4 => (ref01_Len.step0 N x0 x2 k n x3 x4).trans (congrArg (fun self => ref01_Len.b0 N x0 x2 self (fun x3 x4 => k (.exit 0) (ref01_Len.enc0 x0 x2 x3 x4)) x3 x4) ((funext fun x3 => funext fun x4 => ref01_Len.eq0 N x0 x2 k n x3 x4)))
theorem ref01_Len.lc0_ok (N : Nat) : LCOk (ref01_Len.cfg N) N (loopAt 0 Tryd.f115) (ref01_Len.lc0 N) := by
  intro R r st k h
  unfold ref01_Len.lc0 at h
  obtain ⟨e, m, rfl, h⟩ := tkSt_some h
  obtain ⟨x0, e, rfl, h⟩ := tkD_some h
  obtain ⟨x2, e, rfl, h⟩ := tkD_some h
  obtain ⟨x3, e, rfl, h⟩ := tkD_some h
  obtain ⟨x4, e, rfl, h⟩ := tkD_some h
  obtain ⟨rfl, h⟩ := tkN_some h
  obtain ⟨rfl, h⟩ := tkN_some h
  exact ⟨N, (ref01_Len.eq0 N x0 x2 k N x3 x4).trans h⟩
theorem ref01_Len.ev (N : Nat) (x : Int) : evFunc (ref01_Len.cfg N) N Tryd.f115 [.v ((dI .u64).enc x)] [] 0 (dI .i64).dec = ref01_Len.f N x := by kernel_rfl
theorem ref01_Len.hl (N : Nat) : ∀ body, Tryd.f115.body = some body → ∀ b ∈ loopsOf body, ∀ lc, lkL (firstReg b) (ref01_Len.cfg N).lp = some lc → LCOk (ref01_Len.cfg N) N b lc := by
  refine HL_of (ids := [3]) (by kernel_rfl) fun j lc hj h => ?_
  match j, hj, h with
    | 0, _, h => cases h; exact ref01_Len.lc0_ok N
    | j + 1, hj, _ => exact absurd hj (by simp)
theorem ref01_Len.cfg_ok (N : Nat) : CfgOk Tryd.prog (ref01_Len.cfg N) := mkCfg (.cons ref01_Bit.ok .nil) _ _ _ _
theorem ref01_Len.ok : CTok Tryd.prog 115 ref01_Len.ct := CTok.of1 Tryd.call115 mix Tryd.func115 (Nat.le_of_ble_eq_true (by kernel_rfl)) (fun x res hres _ => ⟨ref01_Len.cfg fuel, fuel, ref01_Len.cfg_ok fuel, ref01_Len.hl fuel, (ref01_Len.ev fuel x).trans hres⟩)

def ref02_Len.cfg (_N : Nat) : Cfg := { T := tys, EQ := eqs, C := [(115, ref01_Len.ct)], lp := [], un := [(2, 10)], ks := [(2, [1, 2, 3, 5, 11])], keep := [0, 1, 2, 3, 5, 11] }
theorem ref02_Len.ev (N : Nat) (a : W6) : evFunc (ref02_Len.cfg N) N Tryd.f106 [.v (dW.enc a)] [] 0 (dI .i64).dec = ref02_Len.g a := by kernel_rfl
theorem ref02_Len.hl (N : Nat) : ∀ body, Tryd.f106.body = some body → ∀ b ∈ loopsOf body, ∀ lc, lkL (firstReg b) (ref02_Len.cfg N).lp = some lc → LCOk (ref02_Len.cfg N) N b lc := HL_nil rfl
theorem ref02_Len.cfg_ok (N : Nat) : CfgOk Tryd.prog (ref02_Len.cfg N) := mkCfg (.cons ref01_Len.ok .nil) _ _ _ _
theorem ref02_Len.ok : CTok Tryd.prog 106 ref02_Len.ct := CTok.of1 Tryd.call106 mix Tryd.func106 (Nat.le_of_ble_eq_true (by kernel_rfl)) (fun a res hres _ => ⟨ref02_Len.cfg fuel, fuel, ref02_Len.cfg_ok fuel, ref02_Len.hl fuel, (ref02_Len.ev fuel a).trans hres⟩)

def ref02_Left.cfg (N : Nat) : Cfg := { T := tys, EQ := eqs, C := [(130, ref02_Bit.ct), (171, ref02_Count.ct)], lp := [(5, ref02_Left.lc0 N)], un := [], ks := [(5, [1, 2, 4, 5, 6, 7, 8, 12, 17, 21])], keep := [0, 1, 2, 4, 5, 6, 7, 8, 12, 17, 21] }
theorem ref02_Left.step0 {R : Type} (N : Nat) (x1 : Int) (x5 : Bool) (m1 : W6) (m0 : W6) (k : Ex → St → Option R) (n : Nat) (x7 : Bool) (x8 : Int) (m6 : W6) :
    loopN (evCode (ref02_Left.cfg N) N (loopAt 0 Tryd.f159)) [1, 2, 4, 5, 6, 7, 8] 9 (n + 1) (ref02_Left.enc0 x1 x5 x7 x8 m6 m1 m0) k = ref02_Left.b0 N x1 x5 m1 m0 (fun x7 x8 m6 => loopN (evCode (ref02_Left.cfg N) N (loopAt 0 Tryd.f159)) [1, 2, 4, 5, 6, 7, 8] 9 n (ref02_Left.enc0 x1 x5 x7 x8 m6 m1 m0) k) (fun x7 x8 m6 => k (.exit 0) (ref02_Left.enc0 x1 x5 x7 x8 m6 m1 m0)) x7 x8 m6 := by kernel_rfl
theorem ref02_Left.eq0 {R : Type} (N : Nat) (x1 : Int) (x5 : Bool) (m1 : W6) (m0 : W6) (k : Ex → St → Option R) : ∀ (n : Nat) (x7 : Bool) (x8 : Int) (m6 : W6), loopN (evCode (ref02_Left.cfg N) N (loopAt 0 Tryd.f159)) [1, 2, 4, 5, 6, 7, 8] 9 n (ref02_Left.enc0 x1 x5 x7 x8 m6 m1 m0) k = ref02_Left.l0 N x1 x5 m1 m0 (fun x7 x8 m6 => k (.exit 0) (ref02_Left.enc0 x1 x5 x7 x8 m6 m1 m0)) n x7 x8 m6
  | 0, _, _, _ => rfl
  | n + 1, x7, x8, m6 => (ref02_Left.step0 N x1 x5 m1 m0 k n x7 x8 m6).trans (congrArg (fun self => ref02_Left.b0 N x1 x5 m1 m0 self (fun x7 x8 m6 => k (.exit 0) (ref02_Left.enc0 x1 x5 x7 x8 m6 m1 m0)) x7 x8 m6) ((funext fun x7 => funext fun x8 => funext fun m6 => ref02_Left.eq0 N x1 x5 m1 m0 k n x7 x8 m6)))
theorem ref02_Left.lc0_ok (N : Nat) : LCOk (ref02_Left.cfg N) N (loopAt 0 Tryd.f159) (ref02_Left.lc0 N) := by
  intro R r st k h
  unfold ref02_Left.lc0 at h
  obtain ⟨e, m, rfl, h⟩ := tkSt_some h
  obtain ⟨x1, e, rfl, h⟩ := tkD_some h
  obtain ⟨e, rfl, h⟩ := tkP_some h
  obtain ⟨e, rfl, h⟩ := tkP_some h
  obtain ⟨x5, e, rfl, h⟩ := tkD_some h
  obtain ⟨e, rfl, h⟩ := tkP_some h
  obtain ⟨x7, e, rfl, h⟩ := tkD_some h
  obtain ⟨x8, e, rfl, h⟩ := tkD_some h
  obtain ⟨rfl, h⟩ := tkN_some h
  obtain ⟨m6, m, rfl, h⟩ := tkM_some h
  obtain ⟨m1, m, rfl, h⟩ := tkM_some h
  obtain ⟨m0, m, rfl, h⟩ := tkM_some h
  obtain ⟨rfl, h⟩ := tkN_some h
  exact ⟨N, (ref02_Left.eq0 N x1 x5 m1 m0 k N x7 x8 m6).trans h⟩
theorem ref02_Left.ev (N : Nat) (a : W6) (n : Int) : evFunc (ref02_Left.cfg N) N Tryd.f159 [.v (dW.enc a), .v ((dI .i64).enc n)] [] 0 (dT2 dW dB).dec = ref02_Left.f N a n := by kernel_rfl
theorem ref02_Left.hl (N : Nat) : ∀ body, Tryd.f159.body = some body → ∀ b ∈ loopsOf body, ∀ lc, lkL (firstReg b) (ref02_Left.cfg N).lp = some lc → LCOk (ref02_Left.cfg N) N b lc := by
  refine HL_of (ids := [5]) (by kernel_rfl) fun j lc hj h => ?_
  match j, hj, h with
    | 0, _, h => cases h; exact ref02_Left.lc0_ok N
    | j + 1, hj, _ => exact absurd hj (by simp)
theorem ref02_Left.cfg_ok (N : Nat) : CfgOk Tryd.prog (ref02_Left.cfg N) := mkCfg (.cons ref02_Bit.ok (.cons ref02_Count.ok .nil)) _ _ _ _
theorem ref02_Left.ok : CTok Tryd.prog 159 ref02_Left.ct := CTok.of2 Tryd.call159 mix Tryd.func159 (Nat.le_of_ble_eq_true (by kernel_rfl)) (fun a n res hres _ _ => ⟨ref02_Left.cfg fuel, fuel, ref02_Left.cfg_ok fuel, ref02_Left.hl fuel, (ref02_Left.ev fuel a n).trans hres⟩)

def ref02_Of.cfg (_N : Nat) : Cfg := { T := tys, EQ := eqs, C := [], lp := [], un := [], ks := [], keep := [0, 2, 3] }
theorem ref02_Of.ev (N : Nat) (x : Int) : evFunc (ref02_Of.cfg N) N Tryd.f160 [.v ((dI .u64).enc x)] [] 0 dW.dec = ref02_Of.g x := by kernel_rfl
theorem ref02_Of.hl (N : Nat) : ∀ body, Tryd.f160.body = some body → ∀ b ∈ loopsOf body, ∀ lc, lkL (firstReg b) (ref02_Of.cfg N).lp = some lc → LCOk (ref02_Of.cfg N) N b lc := HL_nil rfl
theorem ref02_Of.cfg_ok (N : Nat) : CfgOk Tryd.prog (ref02_Of.cfg N) := mkCfg .nil _ _ _ _
theorem ref02_Of.ok : CTok Tryd.prog 160 ref02_Of.ct := CTok.of1 Tryd.call160 mix Tryd.func160 (Nat.le_of_ble_eq_true (by kernel_rfl)) (fun x res hres _ => ⟨ref02_Of.cfg fuel, fuel, ref02_Of.cfg_ok fuel, ref02_Of.hl fuel, (ref02_Of.ev fuel x).trans hres⟩)

def ref01_Add.cfg (N : Nat) : Cfg := { T := tys, EQ := eqs, C := [(148, ref01_Bit.ct)], lp := [(3, ref01_Add.lc0 N)], un := [], ks := [(3, [0, 1, 2, 6, 7, 8, 9, 10, 11, 13, 26])], keep := [0, 1, 2, 6, 7, 8, 9, 10, 11, 13, 26] }
theorem ref01_Add.step0 {R : Type} (N : Nat) (x0 : Int) (x1 : Int) (x6 : Int) (x7 : Bool) (k : Ex → St → Option R) (n : Nat) (x2 : Bool) (x8 : Int) (x9 : Int) :
    loopN (evCode (ref01_Add.cfg N) N (loopAt 0 Tryd.f173)) [0, 1, 2, 6, 7, 8, 9] 4 (n + 1) (ref01_Add.enc0 x0 x1 x2 x6 x7 x8 x9) k = ref01_Add.b0 N x0 x1 x6 x7 (fun x2 x8 x9 => loopN (evCode (ref01_Add.cfg N) N (loopAt 0 Tryd.f173)) [0, 1, 2, 6, 7, 8, 9] 4 n (ref01_Add.enc0 x0 x1 x2 x6 x7 x8 x9) k) (fun x2 x8 x9 => k (.exit 0) (ref01_Add.enc0 x0 x1 x2 x6 x7 x8 x9)) x2 x8 x9 := by kernel_rfl
theorem ref01_Add.eq0 {R : Type} (N : Nat) (x0 : Int) (x1 : Int) (x6 : Int) (x7 : Bool) (k : Ex → St → Option R) : ∀ (n : Nat) (x2 : Bool) (x8 : Int) (x9 : Int), loopN (evCode (ref01_Add.cfg N) N (loopAt 0 Tryd.f173)) [0, 1, 2, 6, 7, 8, 9] 4 n (ref01_Add.enc0 x0 x1 x2 x6 x7 x8 x9) k = ref01_Add.l0 N x0 x1 x6 x7 (fun x2 x8 x9 => k (.exit 0) (ref01_Add.enc0 x0 x1 x2 x6 x7 x8 x9)) n x2 x8 x9
  | 0, _, _, _ => rfl
  | n + 1, x2, x8, x9 => (ref01_Add.step0 N x0 x1 x6 x7 k n x2 x8 x9).trans (congrArg (fun self => ref01_Add.b0 N x0 x1 x6 x7 self (fun x2 x8 x9 => k (.exit 0) (ref01_Add.enc0 x0 x1 x2 x6 x7 x8 x9)) x2 x8 x9) ((funext fun x2 => funext fun x8 => funext fun x9 => ref01_Add.eq0 N x0 x1 x6 x7 k n x2 x8 x9)))
theorem ref01_Add.lc0_ok (N : Nat) : LCOk (ref01_Add.cfg N) N (loopAt 0 Tryd.f173) (ref01_Add.lc0 N) := by
  intro R r st k h
  unfold ref01_Add.lc0 at h
  obtain ⟨e, m, rfl, h⟩ := tkSt_some h
  obtain ⟨x0, e, rfl, h⟩ := tkD_some h
  obtain ⟨x1, e, rfl, h⟩ := tkD_some h
  obtain ⟨x2, e, rfl, h⟩ := tkD_some h
  obtain ⟨x6, e, rfl, h⟩ := tkD_some h
  obtain ⟨x7, e, rfl, h⟩ := tkD_some h
  obtain ⟨x8, e, rfl, h⟩ := tkD_some h
  obtain ⟨x9, e, rfl, h⟩ := tkD_some h
  obtain ⟨rfl, h⟩ := tkN_some h
  obtain ⟨rfl, h⟩ := tkN_some h
  exact ⟨N, (ref01_Add.eq0 N x0 x1 x6 x7 k N x2 x8 x9).trans h⟩
theorem ref01_Add.ev (N : Nat) (a : Int) (b : Int) (carry : Bool) : evFunc (ref01_Add.cfg N) N Tryd.f173 [.v ((dI .u64).enc a), .v ((dI .u64).enc b), .v (dB.enc carry)] [] 0 (dT2 (dI .u64) dB).dec = ref01_Add.f N a b carry := by kernel_rfl
theorem ref01_Add.hl (N : Nat) : ∀ body, Tryd.f173.body = some body → ∀ b ∈ loopsOf body, ∀ lc, lkL (firstReg b) (ref01_Add.cfg N).lp = some lc → LCOk (ref01_Add.cfg N) N b lc := by
  refine HL_of (ids := [3]) (by kernel_rfl) fun j lc hj h => ?_
  match j, hj, h with
    | 0, _, h => cases h; exact ref01_Add.lc0_ok N
    | j + 1, hj, _ => exact absurd hj (by simp)
theorem ref01_Add.cfg_ok (N : Nat) : CfgOk Tryd.prog (ref01_Add.cfg N) := mkCfg (.cons ref01_Bit.ok .nil) _ _ _ _
theorem ref01_Add.ok : CTok Tryd.prog 173 ref01_Add.ct := CTok.of3 Tryd.call173 mix Tryd.func173 (Nat.le_of_ble_eq_true (by kernel_rfl)) (fun a b carry res hres _ _ _ => ⟨ref01_Add.cfg fuel, fuel, ref01_Add.cfg_ok fuel, ref01_Add.hl fuel, (ref01_Add.ev fuel a b carry).trans hres⟩)

def ref02_Add.cfg (_N : Nat) : Cfg := { T := tys, EQ := eqs, C := [(173, ref01_Add.ct)], lp := [], un := [(4, 10)], ks := [(4, [2, 3, 4, 5, 6, 7, 8, 9, 10, 12])], keep := [0, 1, 2, 3, 4, 5, 6, 7, 8, 9, 10, 12] }
theorem ref02_Add.ev (N : Nat) (a : W6) (b : W6) : evFunc (ref02_Add.cfg N) N Tryd.f161 [.v (dW.enc a), .v (dW.enc b)] [] 0 (dT2 dW dB).dec = ref02_Add.g a b := by kernel_rfl
theorem ref02_Add.hl (N : Nat) : ∀ body, Tryd.f161.body = some body → ∀ b ∈ loopsOf body, ∀ lc, lkL (firstReg b) (ref02_Add.cfg N).lp = some lc → LCOk (ref02_Add.cfg N) N b lc := HL_nil rfl
theorem ref02_Add.cfg_ok (N : Nat) : CfgOk Tryd.prog (ref02_Add.cfg N) := mkCfg (.cons ref01_Add.ok .nil) _ _ _ _
theorem ref02_Add.ok : CTok Tryd.prog 161 ref02_Add.ct := CTok.of2 Tryd.call161 mix Tryd.func161 (Nat.le_of_ble_eq_true (by kernel_rfl)) (fun a b res hres _ _ => ⟨ref02_Add.cfg fuel, fuel, ref02_Add.cfg_ok fuel, ref02_Add.hl fuel, (ref02_Add.ev fuel a b).trans hres⟩)

def ref01_Low.cfg (N : Nat) : Cfg := { T := tys, EQ := eqs, C := [(148, ref01_Bit.ct)], lp := [(2, ref01_Low.lc0 N)], un := [], ks := [(2, [0, 2, 3, 5, 10])], keep := [0, 2, 3, 5, 10] }
theorem ref01_Low.step0 {R : Type} (N : Nat) (x0 : Int) (k : Ex → St → Option R) (n : Nat) (x2 : Int) (x3 : Int) :
    loopN (evCode (ref01_Low.cfg N) N (loopAt 0 Tryd.f145)) [0, 2, 3] 2 (n + 1) (ref01_Low.enc0 x0 x2 x3) k = ref01_Low.b0 N x0 (fun x2 x3 => loopN (evCode (ref01_Low.cfg N) N (loopAt 0 Tryd.f145)) [0, 2, 3] 2 n (ref01_Low.enc0 x0 x2 x3) k) (fun x2 x3 => k .ret (ref01_Low.enc0 x0 x2 x3)) (fun x2 x3 => k (.exit 0) (ref01_Low.enc0 x0 x2 x3)) x2 x3 := by kernel_rfl
theorem ref01_Low.eq0 {R : Type} (N : Nat) (x0 : Int) (k : Ex → St → Option R) : ∀ (n : Nat) (x2 : Int) (x3 : Int), loopN (evCode (ref01_Low.cfg N) N (loopAt 0 Tryd.f145)) [0, 2, 3] 2 n (ref01_Low.enc0 x0 x2 x3) k = ref01_Low.l0 N x0 (fun x2 x3 => k .ret (ref01_Low.enc0 x0 x2 x3)) (fun x2 x3 => k (.exit 0) (ref01_Low.enc0 x0 x2 x3)) n x2 x3
  | 0, _, _ => rfl
  | n + 1, x2, x3 => (ref01_Low.step0 N x0 k n x2 x3).trans (congrArg (fun self => ref01_Low.b0 N x0 self (fun x2 x3 => k .ret (ref01_Low.enc0 x0 x2 x3)) (fun x2 x3 => k (.exit 0) (ref01_Low.enc0 x0 x2 x3)) x2 x3) ((funext fun x2 => funext fun x3 => ref01_Low.eq0 N x0 k n x2 x3)))
theorem ref01_Low.lc0_ok (N : Nat) : LCOk (ref01_Low.cfg N) N (loopAt 0 Tryd.f145) (ref01_Low.lc0 N) := by
  intro R r st k h
  unfold ref01_Low.lc0 at h
  obtain ⟨e, m, rfl, h⟩ := tkSt_some h
  obtain ⟨x0, e, rfl, h⟩ := tkD_some h
  obtain ⟨x2, e, rfl, h⟩ := tkD_some h
  obtain ⟨x3, e, rfl, h⟩ := tkD_some h
  obtain ⟨rfl, h⟩ := tkN_some h
  obtain ⟨rfl, h⟩ := tkN_some h
  exact ⟨N, (ref01_Low.eq0 N x0 k N x2 x3).trans h⟩
theorem ref01_Low.ev (N : Nat) (x : Int) : evFunc (ref01_Low.cfg N) N Tryd.f145 [.v ((dI .u64).enc x)] [] 0 (dI .i64).dec = ref01_Low.f N x := by kernel_rfl
theorem ref01_Low.hl (N : Nat) : ∀ body, Tryd.f145.body = some body → ∀ b ∈ loopsOf body, ∀ lc, lkL (firstReg b) (ref01_Low.cfg N).lp = some lc → LCOk (ref01_Low.cfg N) N b lc := by
  refine HL_of (ids := [2]) (by kernel_rfl) fun j lc hj h => ?_
  match j, hj, h with
    | 0, _, h => cases h; exact ref01_Low.lc0_ok N
    | j + 1, hj, _ => exact absurd hj (by simp)
theorem ref01_Low.cfg_ok (N : Nat) : CfgOk Tryd.prog (ref01_Low.cfg N) := mkCfg (.cons ref01_Bit.ok .nil) _ _ _ _
theorem ref01_Low.ok : CTok Tryd.prog 145 ref01_Low.ct := CTok.of1 Tryd.call145 mix Tryd.func145 (Nat.le_of_ble_eq_true (by kernel_rfl)) (fun x res hres _ => ⟨ref01_Low.cfg fuel, fuel, ref01_Low.cfg_ok fuel, ref01_Low.hl fuel, (ref01_Low.ev fuel x).trans hres⟩)

def wide_Cmp.cfg (_N : Nat) : Cfg := { T := tys, EQ := eqs, C := [], lp := [], un := [(2, 10)], ks := [(2, [2, 3, 4, 5, 7, 10, 18])], keep := [0, 1, 2, 3, 4, 5, 7, 10, 18] }
theorem wide_Cmp.ev (N : Nat) (a : W6) (b : W6) : evFunc (wide_Cmp.cfg N) N Tryd.f57 [.v (dW.enc a), .v (dW.enc b)] [] 0 (dI .i64).dec = wide_Cmp.g a b := by kernel_rfl
theorem wide_Cmp.hl (N : Nat) : ∀ body, Tryd.f57.body = some body → ∀ b ∈ loopsOf body, ∀ lc, lkL (firstReg b) (wide_Cmp.cfg N).lp = some lc → LCOk (wide_Cmp.cfg N) N b lc := HL_nil rfl
theorem wide_Cmp.cfg_ok (N : Nat) : CfgOk Tryd.prog (wide_Cmp.cfg N) := mkCfg .nil _ _ _ _
theorem wide_Cmp.ok : CTok Tryd.prog 57 wide_Cmp.ct := CTok.of2 Tryd.call57 mix Tryd.func57 (Nat.le_of_ble_eq_true (by kernel_rfl)) (fun a b res hres _ _ => ⟨wide_Cmp.cfg fuel, fuel, wide_Cmp.cfg_ok fuel, wide_Cmp.hl fuel, (wide_Cmp.ev fuel a b).trans hres⟩)

def wide_ToBits.cfg (_N : Nat) : Cfg := { T := tys, EQ := eqs, C := [], lp := [], un := [], ks := [], keep := [0, 1, 2, 3, 15] }
theorem wide_ToBits.ev (N : Nat) (w : W6) : evFunc (wide_ToBits.cfg N) N Tryd.f127 [.v (dW.enc w)] [] 0 (dT2 dBits dB).dec = wide_ToBits.g w := by kernel_rfl
theorem wide_ToBits.hl (N : Nat) : ∀ body, Tryd.f127.body = some body → ∀ b ∈ loopsOf body, ∀ lc, lkL (firstReg b) (wide_ToBits.cfg N).lp = some lc → LCOk (wide_ToBits.cfg N) N b lc := HL_nil rfl
theorem wide_ToBits.cfg_ok (N : Nat) : CfgOk Tryd.prog (wide_ToBits.cfg N) := mkCfg .nil _ _ _ _
theorem wide_ToBits.ok : CTok Tryd.prog 127 wide_ToBits.ct := CTok.of1 Tryd.call127 mix Tryd.func127 (Nat.le_of_ble_eq_true (by kernel_rfl)) (fun w res hres _ => ⟨wide_ToBits.cfg fuel, fuel, wide_ToBits.cfg_ok fuel, wide_ToBits.hl fuel, (wide_ToBits.ev fuel w).trans hres⟩)

def word_Sub.cfg (_N : Nat) : Cfg := { T := tys, EQ := eqs, C := [(138, word_one.ct)], lp := [], un := [], ks := [], keep := [0, 1, 2, 6, 7] }
theorem word_Sub.ev (N : Nat) (a : Int) (b : Int) (borrow : Bool) : evFunc (word_Sub.cfg N) N Tryd.f132 [.v ((dI .u64).enc a), .v ((dI .u64).enc b), .v (dB.enc borrow)] [] 0 (dT2 (dI .u64) dB).dec = word_Sub.g a b borrow := by kernel_rfl
theorem word_Sub.hl (N : Nat) : ∀ body, Tryd.f132.body = some body → ∀ b ∈ loopsOf body, ∀ lc, lkL (firstReg b) (word_Sub.cfg N).lp = some lc → LCOk (word_Sub.cfg N) N b lc := HL_nil rfl
theorem word_Sub.cfg_ok (N : Nat) : CfgOk Tryd.prog (word_Sub.cfg N) := mkCfg (.cons word_one.ok .nil) _ _ _ _
theorem word_Sub.ok : CTok Tryd.prog 132 word_Sub.ct := CTok.of3 Tryd.call132 mix Tryd.func132 (Nat.le_of_ble_eq_true (by kernel_rfl)) (fun a b borrow res hres _ _ _ => ⟨word_Sub.cfg fuel, fuel, word_Sub.cfg_ok fuel, word_Sub.hl fuel, (word_Sub.ev fuel a b borrow).trans hres⟩)

def wide_Sub.cfg (_N : Nat) : Cfg := { T := tys, EQ := eqs, C := [(132, word_Sub.ct)], lp := [], un := [(2, 10)], ks := [(2, [2, 3, 4, 5, 6, 7, 8])], keep := [0, 1, 2, 3, 4, 5, 6, 7, 8] }
theorem wide_Sub.ev (N : Nat) (a : W6) (b : W6) : evFunc (wide_Sub.cfg N) N Tryd.f69 [.v (dW.enc a), .v (dW.enc b)] [] 0 (dT2 dW dB).dec = wide_Sub.g a b := by kernel_rfl
theorem wide_Sub.hl (N : Nat) : ∀ body, Tryd.f69.body = some body → ∀ b ∈ loopsOf body, ∀ lc, lkL (firstReg b) (wide_Sub.cfg N).lp = some lc → LCOk (wide_Sub.cfg N) N b lc := HL_nil rfl
theorem wide_Sub.cfg_ok (N : Nat) : CfgOk Tryd.prog (wide_Sub.cfg N) := mkCfg (.cons word_Sub.ok .nil) _ _ _ _
theorem wide_Sub.ok : CTok Tryd.prog 69 wide_Sub.ct := CTok.of2 Tryd.call69 mix Tryd.func69 (Nat.le_of_ble_eq_true (by kernel_rfl)) (fun a b res hres _ _ => ⟨wide_Sub.cfg fuel, fuel, wide_Sub.cfg_ok fuel, wide_Sub.hl fuel, (wide_Sub.ev fuel a b).trans hres⟩)

def word_Mul.cfg (_N : Nat) : Cfg := { T := tys, EQ := eqs, C := [(154, math_bits_Mul64.ct)], lp := [], un := [], ks := [], keep := [0, 1, 4, 5] }
theorem word_Mul.ev (N : Nat) (a : Int) (b : Int) : evFunc (word_Mul.cfg N) N Tryd.f133 [.v ((dI .u64).enc a), .v ((dI .u64).enc b)] [] 0 (dT2 (dI .u64) (dI .u64)).dec = word_Mul.g a b := by kernel_rfl
theorem word_Mul.hl (N : Nat) : ∀ body, Tryd.f133.body = some body → ∀ b ∈ loopsOf body, ∀ lc, lkL (firstReg b) (word_Mul.cfg N).lp = some lc → LCOk (word_Mul.cfg N) N b lc := HL_nil rfl
theorem word_Mul.cfg_ok (N : Nat) : CfgOk Tryd.prog (word_Mul.cfg N) := mkCfg (.cons math_bits_Mul64.ok .nil) _ _ _ _
theorem word_Mul.ok : CTok Tryd.prog 133 word_Mul.ct := CTok.of2 Tryd.call133 mix Tryd.func133 (Nat.le_of_ble_eq_true (by kernel_rfl)) (fun a b res hres _ _ => ⟨word_Mul.cfg fuel, fuel, word_Mul.cfg_ok fuel, word_Mul.hl fuel, (word_Mul.ev fuel a b).trans hres⟩)

def wide_Mul.cfg (N : Nat) : Cfg := { T := tys, EQ := eqs, C := [(104, word_Add.ct), (133, word_Mul.ct)], lp := [(7, wide_Mul.lc1 N), (3, wide_Mul.lc0 N), (21, wide_Mul.lc2 N)], un := [], ks := [(3, [3, 4, 5, 6, 7, 8, 9, 10, 11, 12, 13, 14, 15, 16, 17, 18, 19, 20, 23, 24, 25, 74, 75, 76, 80, 85]), (7, [3, 4, 5, 6, 7, 8, 9, 10, 11, 12, 13, 14, 15, 16, 17, 18, 19, 20, 23, 24, 25, 74, 75, 76, 80, 85]), (21, [4, 5, 16, 17, 74, 75, 76, 80, 85])], keep := [0, 1, 2, 3, 4, 5, 6, 7, 8, 9, 10, 11, 12, 13, 14, 15, 16, 17, 18, 19, 20, 23, 24, 25, 74, 75, 76, 80, 85] }
theorem wide_Mul.step1 {R : Type} (N : Nat) (x5 : Bool) (x18 : W6) (x19 : Int) (x20 : Bool) (x7 : Int) (x8 : Int) (x23 : W6) (m2 : W6) (m1 : W6) (k : Ex → St → Option R) (n : Nat) (x9 : Int) (x24 : Int) (m4 : V12) :
    loopN (evCode (wide_Mul.cfg N) N (loopAt 1 Tryd.f79)) [3, 4, 5, 6, 18, 19, 20, 7, 8, 9, 23, 24] 15 (n + 1) (wide_Mul.enc1 x5 x18 x19 x20 x7 x8 x9 x23 x24 m4 m2 m1) k = wide_Mul.b1 N x5 x18 x19 x20 x7 x8 x23 m2 m1 (fun x9 x24 m4 => loopN (evCode (wide_Mul.cfg N) N (loopAt 1 Tryd.f79)) [3, 4, 5, 6, 18, 19, 20, 7, 8, 9, 23, 24] 15 n (wide_Mul.enc1 x5 x18 x19 x20 x7 x8 x9 x23 x24 m4 m2 m1) k) (fun x9 x24 m4 => k (.exit 2) (wide_Mul.enc1 x5 x18 x19 x20 x7 x8 x9 x23 x24 m4 m2 m1)) x9 x24 m4 := by kernel_rfl
theorem wide_Mul.eq1 {R : Type} (N : Nat) (x5 : Bool) (x18 : W6) (x19 : Int) (x20 : Bool) (x7 : Int) (x8 : Int) (x23 : W6) (m2 : W6) (m1 : W6) (k : Ex → St → Option R) : ∀ (n : Nat) (x9 : Int) (x24 : Int) (m4 : V12), loopN (evCode (wide_Mul.cfg N) N (loopAt 1 Tryd.f79)) [3, 4, 5, 6, 18, 19, 20, 7, 8, 9, 23, 24] 15 n (wide_Mul.enc1 x5 x18 x19 x20 x7 x8 x9 x23 x24 m4 m2 m1) k = wide_Mul.l1 N x5 x18 x19 x20 x7 x8 x23 m2 m1 (fun x9 x24 m4 => k (.exit 2) (wide_Mul.enc1 x5 x18 x19 x20 x7 x8 x9 x23 x24 m4 m2 m1)) n x9 x24 m4
  | 0, _, _, _ => rfl
  | n + 1, x9, x24, m4 => (wide_Mul.step1 N x5 x18 x19 x20 x7 x8 x23 m2 m1 k n x9 x24 m4).trans (congrArg (fun self => wide_Mul.b1 N x5 x18 x19 x20 x7 x8 x23 m2 m1 self (fun x9 x24 m4 => k (.exit 2) (wide_Mul.enc1 x5 x18 x19 x20 x7 x8 x9 x23 x24 m4 m2 m1)) x9 x24 m4) ((funext fun x9 => funext fun x24 => funext fun m4 => wide_Mul.eq1 N x5 x18 x19 x20 x7 x8 x23 m2 m1 k n x9 x24 m4)))
theorem wide_Mul.lc1_ok (N : Nat) : LCOk (wide_Mul.cfg N) N (loopAt 1 Tryd.f79) (wide_Mul.lc1 N) := by
  intro R r st k h
  unfold wide_Mul.lc1 at h
  obtain ⟨e, m, rfl, h⟩ := tkSt_some h
  obtain ⟨e, rfl, h⟩ := tkP_some h
  obtain ⟨e, rfl, h⟩ := tkP_some h
  obtain ⟨x5, e, rfl, h⟩ := tkD_some h
  obtain ⟨e, rfl, h⟩ := tkP_some h
  obtain ⟨x18, e, rfl, h⟩ := tkD_some h
  obtain ⟨x19, e, rfl, h⟩ := tkD_some h
  obtain ⟨x20, e, rfl, h⟩ := tkD_some h
  obtain ⟨x7, e, rfl, h⟩ := tkD_some h
  obtain ⟨x8, e, rfl, h⟩ := tkD_some h
  obtain ⟨x9, e, rfl, h⟩ := tkD_some h
  obtain ⟨x23, e, rfl, h⟩ := tkD_some h
  obtain ⟨x24, e, rfl, h⟩ := tkD_some h
  obtain ⟨rfl, h⟩ := tkN_some h
  obtain ⟨m4, m, rfl, h⟩ := tkM_some h
  obtain ⟨m2, m, rfl, h⟩ := tkM_some h
  obtain ⟨m1, m, rfl, h⟩ := tkM_some h
  obtain ⟨rfl, h⟩ := tkN_some h
  exact ⟨N, (wide_Mul.eq1 N x5 x18 x19 x20 x7 x8 x23 m2 m1 k N x9 x24 m4).trans h⟩
theorem wide_Mul.step0 {R : Type} (N : Nat) (x5 : Bool) (x18 : W6) (m2 : W6) (m1 : W6) (k : Ex → St → Option R) (n : Nat) (x19 : Int) (m4 : V12) :
    loopN (evCode (wide_Mul.cfg N) N (loopAt 0 Tryd.f79)) [3, 4, 5, 6, 18, 19] 7 (n + 1) (wide_Mul.enc0 x5 x18 x19 m4 m2 m1) k = wide_Mul.b0 N x5 x18 m2 m1 (fun x19 m4 => loopN (evCode (wide_Mul.cfg N) N (loopAt 0 Tryd.f79)) [3, 4, 5, 6, 18, 19] 7 n (wide_Mul.enc0 x5 x18 x19 m4 m2 m1) k) (fun x19 m4 => k (.exit 0) (wide_Mul.enc0 x5 x18 x19 m4 m2 m1)) x19 m4 := by kernel_rfl
theorem wide_Mul.eq0 {R : Type} (N : Nat) (x5 : Bool) (x18 : W6) (m2 : W6) (m1 : W6) (k : Ex → St → Option R) : ∀ (n : Nat) (x19 : Int) (m4 : V12), loopN (evCode (wide_Mul.cfg N) N (loopAt 0 Tryd.f79)) [3, 4, 5, 6, 18, 19] 7 n (wide_Mul.enc0 x5 x18 x19 m4 m2 m1) k = wide_Mul.l0 N x5 x18 m2 m1 (fun x19 m4 => k (.exit 0) (wide_Mul.enc0 x5 x18 x19 m4 m2 m1)) n x19 m4
  | 0, _, _ => rfl
  | n + 1, x19, m4 => (wide_Mul.step0 N x5 x18 m2 m1 k n x19 m4).trans (congrArg (fun self => wide_Mul.b0 N x5 x18 m2 m1 self (fun x19 m4 => k (.exit 0) (wide_Mul.enc0 x5 x18 x19 m4 m2 m1)) x19 m4) ((funext fun x19 => funext fun m4 => wide_Mul.eq0 N x5 x18 m2 m1 k n x19 m4)))
theorem wide_Mul.lc0_ok (N : Nat) : LCOk (wide_Mul.cfg N) N (loopAt 0 Tryd.f79) (wide_Mul.lc0 N) := by
  intro R r st k h
  unfold wide_Mul.lc0 at h
  obtain ⟨e, m, rfl, h⟩ := tkSt_some h
  obtain ⟨e, rfl, h⟩ := tkP_some h
  obtain ⟨e, rfl, h⟩ := tkP_some h
  obtain ⟨x5, e, rfl, h⟩ := tkD_some h
  obtain ⟨e, rfl, h⟩ := tkP_some h
  obtain ⟨x18, e, rfl, h⟩ := tkD_some h
  obtain ⟨x19, e, rfl, h⟩ := tkD_some h
  obtain ⟨rfl, h⟩ := tkN_some h
  obtain ⟨m4, m, rfl, h⟩ := tkM_some h
  obtain ⟨m2, m, rfl, h⟩ := tkM_some h
  obtain ⟨m1, m, rfl, h⟩ := tkM_some h
  obtain ⟨rfl, h⟩ := tkN_some h
  exact ⟨N, (wide_Mul.eq0 N x5 x18 m2 m1 k N x19 m4).trans h⟩
theorem wide_Mul.step2 {R : Type} (N : Nat) (x74 : V12) (k : Ex → St → Option R) (n : Nat) (x5 : Bool) (x75 : Int) (m2 : W6) :
    loopN (evCode (wide_Mul.cfg N) N (loopAt 2 Tryd.f79)) [4, 5, 74, 75] 9 (n + 1) (wide_Mul.enc2 x5 x74 x75 m2) k = wide_Mul.b2 N x74 (fun x5 x75 m2 => loopN (evCode (wide_Mul.cfg N) N (loopAt 2 Tryd.f79)) [4, 5, 74, 75] 9 n (wide_Mul.enc2 x5 x74 x75 m2) k) (fun x5 x75 m2 => k (.exit 4) (wide_Mul.enc2 x5 x74 x75 m2)) x5 x75 m2 := by kernel_rfl
theorem wide_Mul.eq2 {R : Type} (N : Nat) (x74 : V12) (k : Ex → St → Option R) : ∀ (n : Nat) (x5 : Bool) (x75 : Int) (m2 : W6), loopN (evCode (wide_Mul.cfg N) N (loopAt 2 Tryd.f79)) [4, 5, 74, 75] 9 n (wide_Mul.enc2 x5 x74 x75 m2) k = wide_Mul.l2 N x74 (fun x5 x75 m2 => k (.exit 4) (wide_Mul.enc2 x5 x74 x75 m2)) n x5 x75 m2
  | 0, _, _, _ => rfl
  | n + 1, x5, x75, m2 => (wide_Mul.step2 N x74 k n x5 x75 m2).trans (congrArg (fun self => wide_Mul.b2 N x74 self (fun x5 x75 m2 => k (.exit 4) (wide_Mul.enc2 x5 x74 x75 m2)) x5 x75 m2) ((funext fun x5 => funext fun x75 => funext fun m2 => wide_Mul.eq2 N x74 k n x5 x75 m2)))
theorem wide_Mul.lc2_ok (N : Nat) : LCOk (wide_Mul.cfg N) N (loopAt 2 Tryd.f79) (wide_Mul.lc2 N) := by
  intro R r st k h
  unfold wide_Mul.lc2 at h
  obtain ⟨e, m, rfl, h⟩ := tkSt_some h
  obtain ⟨e, rfl, h⟩ := tkP_some h
  obtain ⟨x5, e, rfl, h⟩ := tkD_some h
  obtain ⟨x74, e, rfl, h⟩ := tkD_some h
  obtain ⟨x75, e, rfl, h⟩ := tkD_some h
  obtain ⟨rfl, h⟩ := tkN_some h
  obtain ⟨m2, m, rfl, h⟩ := tkM_some h
  obtain ⟨rfl, h⟩ := tkN_some h
  exact ⟨N, (wide_Mul.eq2 N x74 k N x5 x75 m2).trans h⟩
theorem wide_Mul.ev (N : Nat) (a : W6) (b : W6) : evFunc (wide_Mul.cfg N) N Tryd.f79 [.v (dW.enc a), .v (dW.enc b)] [] 0 (dT2 dW dB).dec = wide_Mul.f N a b := by kernel_rfl
theorem wide_Mul.hl (N : Nat) : ∀ body, Tryd.f79.body = some body → ∀ b ∈ loopsOf body, ∀ lc, lkL (firstReg b) (wide_Mul.cfg N).lp = some lc → LCOk (wide_Mul.cfg N) N b lc := by
  refine HL_of (ids := [3, 7, 21]) (by kernel_rfl) fun j lc hj h => ?_
  match j, hj, h with
    | 0, _, h => cases h; exact wide_Mul.lc0_ok N
    | 1, _, h => cases h; exact wide_Mul.lc1_ok N
    | 2, _, h => cases h; exact wide_Mul.lc2_ok N
    | j + 3, hj, _ => exact absurd hj (by simp)
theorem wide_Mul.cfg_ok (N : Nat) : CfgOk Tryd.prog (wide_Mul.cfg N) := mkCfg (.cons word_Add.ok (.cons word_Mul.ok .nil)) _ _ _ _
theorem wide_Mul.ok : CTok Tryd.prog 79 wide_Mul.ct := CTok.of2 Tryd.call79 mix Tryd.func79 (Nat.le_of_ble_eq_true (by kernel_rfl)) (fun a b res hres _ _ => ⟨wide_Mul.cfg fuel, fuel, wide_Mul.cfg_ok fuel, wide_Mul.hl fuel, (wide_Mul.ev fuel a b).trans hres⟩)

end
end Go.Proofs.YtnfbcofieobkkaaDoor
