/- Printed by a program: the contracts of Go functions. -/
import Derived.Test.YtnfbcofieobkkaaGreatDoorPE
import Derived.Test.YtnfbcofieobkkaaGreatDoorAW
namespace Go.Proofs.YtnfbcofieobkkaaGreatDoor
open Go Go.Proofs Ev
set_option linter.unusedVariables false
set_option linter.unusedSimpArgs false
noncomputable section

def quot_Sqrt.cfg (N : Nat) : Cfg := { T := tys, EQ := eqs, C := [(60, wide_Cmp.ct), (117, wide_Len.ct), (118, wide_Left.ct), (139, wide_Sub.ct)], lp := [(2, quot_Sqrt.lc0 N)], un := [], ks := [(2, [1, 2, 3, 4, 5, 13, 51])], keep := [0, 1, 2, 3, 4, 5, 13, 51] }
theorem quot_Sqrt.step0 {R : Type} (N : Nat) (m0 : W6) (k : Ex → St → Option R) (n : Nat) (x4 : Int) (m2 : W6) (m1 : W6) :
    loopN (evCode (quot_Sqrt.cfg N) N (loopAt 0 Tryz.f119)) [1, 2, 3, 4] 9 (n + 1) (quot_Sqrt.enc0 x4 m2 m1 m0) k = quot_Sqrt.b0 N m0 (fun x4 m2 m1 => loopN (evCode (quot_Sqrt.cfg N) N (loopAt 0 Tryz.f119)) [1, 2, 3, 4] 9 n (quot_Sqrt.enc0 x4 m2 m1 m0) k) (fun x4 m2 m1 => k (.exit 0) (quot_Sqrt.enc0 x4 m2 m1 m0)) x4 m2 m1 := by kernel_rfl
theorem quot_Sqrt.eq0 {R : Type} (N : Nat) (m0 : W6) (k : Ex → St → Option R) : ∀ (n : Nat) (x4 : Int) (m2 : W6) (m1 : W6), loopN (evCode (quot_Sqrt.cfg N) N (loopAt 0 Tryz.f119)) [1, 2, 3, 4] 9 n (quot_Sqrt.enc0 x4 m2 m1 m0) k = quot_Sqrt.l0 N m0 (fun x4 m2 m1 => k (.exit 0) (quot_Sqrt.enc0 x4 m2 m1 m0)) n x4 m2 m1
  | 0, _, _, _ => rfl
  | n + 1, x4, m2, m1 => (quot_Sqrt.step0 N m0 k n x4 m2 m1).trans (congrArg (fun self => quot_Sqrt.b0 N m0 self (fun x4 m2 m1 => k (.exit 0) (quot_Sqrt.enc0 x4 m2 m1 m0)) x4 m2 m1) ((funext fun x4 => funext fun m2 => funext fun m1 => quot_Sqrt.eq0 N m0 k n x4 m2 m1)))
theorem quot_Sqrt.lc0_ok (N : Nat) : LCOk (quot_Sqrt.cfg N) N (loopAt 0 Tryz.f119) (quot_Sqrt.lc0 N) := by
  intro R r st k h
  unfold quot_Sqrt.lc0 at h
  obtain ⟨e, m, rfl, h⟩ := tkSt_some h
  obtain ⟨e, rfl, h⟩ := tkP_some h
  obtain ⟨e, rfl, h⟩ := tkP_some h
  obtain ⟨e, rfl, h⟩ := tkP_some h
  obtain ⟨x4, e, rfl, h⟩ := tkD_some h
  obtain ⟨rfl, h⟩ := tkN_some h
  obtain ⟨m2, m, rfl, h⟩ := tkM_some h
  obtain ⟨m1, m, rfl, h⟩ := tkM_some h
  obtain ⟨m0, m, rfl, h⟩ := tkM_some h
  obtain ⟨rfl, h⟩ := tkN_some h
  exact ⟨N, (quot_Sqrt.eq0 N m0 k N x4 m2 m1).trans h⟩
theorem quot_Sqrt.ev (N : Nat) (a : W6) : evFunc (quot_Sqrt.cfg N) N Tryz.f119 [.v (dW.enc a)] [] 0 (dT2 dW dW).dec = quot_Sqrt.f N a := by kernel_rfl
theorem quot_Sqrt.hl (N : Nat) : ∀ body, Tryz.f119.body = some body → ∀ b ∈ loopsOf body, ∀ lc, lkL (firstReg b) (quot_Sqrt.cfg N).lp = some lc → LCOk (quot_Sqrt.cfg N) N b lc := by
  refine HL_of (ids := [2]) (by kernel_rfl) fun j lc hj h => ?_
  match j, hj, h with
    | 0, _, h => cases h; exact quot_Sqrt.lc0_ok N
    | j + 1, hj, _ => exact absurd hj (by simp)
theorem quot_Sqrt.cfg_ok (N : Nat) : CfgOk Tryz.prog (quot_Sqrt.cfg N) := mkCfg (.cons wide_Cmp.ok (.cons wide_Len.ok (.cons wide_Left.ok (.cons wide_Sub.ok .nil)))) _ _ _ _
theorem quot_Sqrt.ok : CTok Tryz.prog 119 quot_Sqrt.ct := CTok.of1 Tryz.call119 mix Tryz.func119 (Nat.le_of_ble_eq_true (by kernel_rfl)) (fun a res hres _ => ⟨quot_Sqrt.cfg fuel, fuel, quot_Sqrt.cfg_ok fuel, quot_Sqrt.hl fuel, (quot_Sqrt.ev fuel a).trans hres⟩)

def quot_Div.cfg (N : Nat) : Cfg := { T := tys, EQ := eqs, C := [(60, wide_Cmp.ct), (117, wide_Len.ct), (118, wide_Left.ct), (139, wide_Sub.ct), (215, wide_Bit.ct)], lp := [(4, quot_Div.lc0 N)], un := [], ks := [(4, [2, 3, 4, 5, 6, 7, 8, 18, 30, 41])], keep := [0, 1, 2, 3, 4, 5, 6, 7, 8, 11, 18, 30, 41] }
theorem quot_Div.step0 {R : Type} (N : Nat) (x6 : Int) (m1 : W6) (m0 : W6) (k : Ex → St → Option R) (n : Nat) (x7 : Int) (m3 : W6) (m2 : W6) :
    loopN (evCode (quot_Div.cfg N) N (loopAt 0 Tryz.f208)) [2, 3, 4, 5, 6, 7] 12 (n + 1) (quot_Div.enc0 x6 x7 m3 m2 m1 m0) k = quot_Div.b0 N x6 m1 m0 (fun x7 m3 m2 => loopN (evCode (quot_Div.cfg N) N (loopAt 0 Tryz.f208)) [2, 3, 4, 5, 6, 7] 12 n (quot_Div.enc0 x6 x7 m3 m2 m1 m0) k) (fun x7 m3 m2 => k (.exit 0) (quot_Div.enc0 x6 x7 m3 m2 m1 m0)) x7 m3 m2 := by kernel_rfl
theorem quot_Div.eq0 {R : Type} (N : Nat) (x6 : Int) (m1 : W6) (m0 : W6) (k : Ex → St → Option R) : ∀ (n : Nat) (x7 : Int) (m3 : W6) (m2 : W6), loopN (evCode (quot_Div.cfg N) N (loopAt 0 Tryz.f208)) [2, 3, 4, 5, 6, 7] 12 n (quot_Div.enc0 x6 x7 m3 m2 m1 m0) k = quot_Div.l0 N x6 m1 m0 (fun x7 m3 m2 => k (.exit 0) (quot_Div.enc0 x6 x7 m3 m2 m1 m0)) n x7 m3 m2
  | 0, _, _, _ => rfl
  | n + 1, x7, m3, m2 => (quot_Div.step0 N x6 m1 m0 k n x7 m3 m2).trans (congrArg (fun self => quot_Div.b0 N x6 m1 m0 self (fun x7 m3 m2 => k (.exit 0) (quot_Div.enc0 x6 x7 m3 m2 m1 m0)) x7 m3 m2) ((funext fun x7 => funext fun m3 => funext fun m2 => quot_Div.eq0 N x6 m1 m0 k n x7 m3 m2)))
theorem quot_Div.lc0_ok (N : Nat) : LCOk (quot_Div.cfg N) N (loopAt 0 Tryz.f208) (quot_Div.lc0 N) := by
  intro R r st k h
  unfold quot_Div.lc0 at h
  obtain ⟨e, m, rfl, h⟩ := tkSt_some h
  obtain ⟨e, rfl, h⟩ := tkP_some h
  obtain ⟨e, rfl, h⟩ := tkP_some h
  obtain ⟨e, rfl, h⟩ := tkP_some h
  obtain ⟨e, rfl, h⟩ := tkP_some h
  obtain ⟨x6, e, rfl, h⟩ := tkD_some h
  obtain ⟨x7, e, rfl, h⟩ := tkD_some h
  obtain ⟨rfl, h⟩ := tkN_some h
  obtain ⟨m3, m, rfl, h⟩ := tkM_some h
  obtain ⟨m2, m, rfl, h⟩ := tkM_some h
  obtain ⟨m1, m, rfl, h⟩ := tkM_some h
  obtain ⟨m0, m, rfl, h⟩ := tkM_some h
  obtain ⟨rfl, h⟩ := tkN_some h
  exact ⟨N, (quot_Div.eq0 N x6 m1 m0 k N x7 m3 m2).trans h⟩
theorem quot_Div.ev (N : Nat) (a : W6) (b : W6) : evFunc (quot_Div.cfg N) N Tryz.f208 [.v (dW.enc a), .v (dW.enc b)] [] 0 (dT3 dW dW (dI .i64)).dec = quot_Div.f N a b := by kernel_rfl
theorem quot_Div.hl (N : Nat) : ∀ body, Tryz.f208.body = some body → ∀ b ∈ loopsOf body, ∀ lc, lkL (firstReg b) (quot_Div.cfg N).lp = some lc → LCOk (quot_Div.cfg N) N b lc := by
  refine HL_of (ids := [4]) (by kernel_rfl) fun j lc hj h => ?_
  match j, hj, h with
    | 0, _, h => cases h; exact quot_Div.lc0_ok N
    | j + 1, hj, _ => exact absurd hj (by simp)
theorem quot_Div.cfg_ok (N : Nat) : CfgOk Tryz.prog (quot_Div.cfg N) := mkCfg (.cons wide_Cmp.ok (.cons wide_Len.ok (.cons wide_Left.ok (.cons wide_Sub.ok (.cons wide_Bit.ok .nil))))) _ _ _ _
theorem quot_Div.ok : CTok Tryz.prog 208 quot_Div.ct := CTok.of2 Tryz.call208 mix Tryz.func208 (Nat.le_of_ble_eq_true (by kernel_rfl)) (fun a b res hres _ _ => ⟨quot_Div.cfg fuel, fuel, quot_Div.cfg_ok fuel, quot_Div.hl fuel, (quot_Div.ev fuel a b).trans hres⟩)

def quot_Digits.cfg (_N : Nat) : Cfg := { T := tys, EQ := eqs, C := [(118, wide_Left.ct), (208, quot_Div.ct)], lp := [], un := [], ks := [], keep := [0, 1, 2, 3, 4, 6, 7, 8, 9, 10, 11, 22, 30] }
theorem quot_Digits.ev (N : Nat) (a : W6) (b : W6) (n : Int) : evFunc (quot_Digits.cfg N) N Tryz.f126 [.v (dW.enc a), .v (dW.enc b), .v ((dI .i64).enc n)] [] 0 (dT3 dW dB (dI .i64)).dec = quot_Digits.g a b n := by kernel_rfl
theorem quot_Digits.hl (N : Nat) : ∀ body, Tryz.f126.body = some body → ∀ b ∈ loopsOf body, ∀ lc, lkL (firstReg b) (quot_Digits.cfg N).lp = some lc → LCOk (quot_Digits.cfg N) N b lc := HL_nil rfl
theorem quot_Digits.cfg_ok (N : Nat) : CfgOk Tryz.prog (quot_Digits.cfg N) := mkCfg (.cons wide_Left.ok (.cons quot_Div.ok .nil)) _ _ _ _
theorem quot_Digits.ok : CTok Tryz.prog 126 quot_Digits.ct := CTok.of3 Tryz.call126 mix Tryz.func126 (Nat.le_of_ble_eq_true (by kernel_rfl)) (fun a b n res hres _ _ _ => ⟨quot_Digits.cfg fuel, fuel, quot_Digits.cfg_ok fuel, quot_Digits.hl fuel, (quot_Digits.ev fuel a b n).trans hres⟩)

end
end Go.Proofs.YtnfbcofieobkkaaGreatDoor
