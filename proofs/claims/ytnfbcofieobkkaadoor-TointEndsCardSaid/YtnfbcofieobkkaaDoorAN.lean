/- Printed by a program: the contracts of Go functions. -/
import Derived.Test.YtnfbcofieobkkaaDoorPN
import Derived.Test.YtnfbcofieobkkaaDoorAS
namespace Go.Proofs.YtnfbcofieobkkaaDoor
open Go Go.Proofs Ev
set_option linter.unusedVariables false
set_option linter.unusedSimpArgs false
noncomputable section

def ref05_May.cfg (_N : Nat) : Cfg := { T := tys, EQ := eqs, C := [], lp := [], un := [], ks := [], keep := [0, 2] }
theorem ref05_May.ev (N : Nat) (a : ByteArray) : evFunc (ref05_May.cfg N) N Tryd.f114 [.v (dS.enc a)] [] 0 dB.dec = ref05_May.g a := by kernel_rfl
theorem ref05_May.hl (N : Nat) : ∀ body, Tryd.f114.body = some body → ∀ b ∈ loopsOf body, ∀ lc, lkL (firstReg b) (ref05_May.cfg N).lp = some lc → LCOk (ref05_May.cfg N) N b lc := HL_nil rfl
theorem ref05_May.cfg_ok (N : Nat) : CfgOk Tryd.prog (ref05_May.cfg N) := mkCfg .nil _ _ _ _
theorem ref05_May.ok : CTok Tryd.prog 114 ref05_May.ct := CTok.of1 Tryd.call114 mix Tryd.func114 (Nat.le_of_ble_eq_true (by kernel_rfl)) (fun a res hres _ => ⟨ref05_May.cfg fuel, fuel, ref05_May.cfg_ok fuel, ref05_May.hl fuel, (ref05_May.ev fuel a).trans hres⟩)

def ref05_at.cfg (_N : Nat) : Cfg := { T := tys, EQ := eqs, C := [], lp := [], un := [], ks := [], keep := [0, 1, 4, 8] }
theorem ref05_at.ev (N : Nat) (a : ByteArray) (i : Int) : evFunc (ref05_at.cfg N) N Tryd.f116 [.v (dS.enc a), .v ((dI .i64).enc i)] [] 0 (dI .i64).dec = ref05_at.g a i := by kernel_rfl
theorem ref05_at.hl (N : Nat) : ∀ body, Tryd.f116.body = some body → ∀ b ∈ loopsOf body, ∀ lc, lkL (firstReg b) (ref05_at.cfg N).lp = some lc → LCOk (ref05_at.cfg N) N b lc := HL_nil rfl
theorem ref05_at.cfg_ok (N : Nat) : CfgOk Tryd.prog (ref05_at.cfg N) := mkCfg .nil _ _ _ _
theorem ref05_at.ok : CTok Tryd.prog 116 ref05_at.ct := CTok.of2 Tryd.call116 mix Tryd.func116 (Nat.le_of_ble_eq_true (by kernel_rfl)) (fun a i res hres _ _ => ⟨ref05_at.cfg fuel, fuel, ref05_at.cfg_ok fuel, ref05_at.hl fuel, (ref05_at.ev fuel a i).trans hres⟩)

def ref05_Low.cfg (N : Nat) : Cfg := { T := tys, EQ := eqs, C := [(114, ref05_May.ct), (116, ref05_at.ct), (145, ref01_Low.ct)], lp := [(4, ref05_Low.lc0 N)], un := [], ks := [(4, [0, 2, 3, 10, 16])], keep := [0, 2, 3, 6, 10, 16] }
theorem ref05_Low.step0 {R : Type} (N : Nat) (x0 : ByteArray) (k : Ex → St → Option R) (n : Nat) (x2 : Int) (x3 : Int) :
    loopN (evCode (ref05_Low.cfg N) N (loopAt 0 Tryd.f111)) [0, 2, 3] 5 (n + 1) (ref05_Low.enc0 x0 x2 x3) k = ref05_Low.b0 N x0 (fun x2 x3 => loopN (evCode (ref05_Low.cfg N) N (loopAt 0 Tryd.f111)) [0, 2, 3] 5 n (ref05_Low.enc0 x0 x2 x3) k) (fun x2 x3 => k .ret (ref05_Low.enc0 x0 x2 x3)) (fun x2 x3 => k (.exit 0) (ref05_Low.enc0 x0 x2 x3)) x2 x3 := by kernel_rfl
theorem ref05_Low.eq0 {R : Type} (N : Nat) (x0 : ByteArray) (k : Ex → St → Option R) : ∀ (n : Nat) (x2 : Int) (x3 : Int), loopN (evCode (ref05_Low.cfg N) N (loopAt 0 Tryd.f111)) [0, 2, 3] 5 n (ref05_Low.enc0 x0 x2 x3) k = ref05_Low.l0 N x0 (fun x2 x3 => k .ret (ref05_Low.enc0 x0 x2 x3)) (fun x2 x3 => k (.exit 0) (ref05_Low.enc0 x0 x2 x3)) n x2 x3
  | 0, _, _ => rfl
  | n + 1, x2, x3 => (ref05_Low.step0 N x0 k n x2 x3).trans (congrArg (fun self => ref05_Low.b0 N x0 self (fun x2 x3 => k .ret (ref05_Low.enc0 x0 x2 x3)) (fun x2 x3 => k (.exit 0) (ref05_Low.enc0 x0 x2 x3)) x2 x3) ((funext fun x2 => funext fun x3 => ref05_Low.eq0 N x0 k n x2 x3)))
theorem ref05_Low.lc0_ok (N : Nat) : LCOk (ref05_Low.cfg N) N (loopAt 0 Tryd.f111) (ref05_Low.lc0 N) := by
  intro R r st k h
  unfold ref05_Low.lc0 at h
  obtain ⟨e, m, rfl, h⟩ := tkSt_some h
  obtain ⟨x0, e, rfl, h⟩ := tkD_some h
  obtain ⟨x2, e, rfl, h⟩ := tkD_some h
  obtain ⟨x3, e, rfl, h⟩ := tkD_some h
  obtain ⟨rfl, h⟩ := tkN_some h
  obtain ⟨rfl, h⟩ := tkN_some h
  exact ⟨N, (ref05_Low.eq0 N x0 k N x2 x3).trans h⟩
theorem ref05_Low.ev (N : Nat) (a : ByteArray) : evFunc (ref05_Low.cfg N) N Tryd.f111 [.v (dS.enc a)] [] 0 (dI .i64).dec = ref05_Low.f N a := by kernel_rfl
theorem ref05_Low.hl (N : Nat) : ∀ body, Tryd.f111.body = some body → ∀ b ∈ loopsOf body, ∀ lc, lkL (firstReg b) (ref05_Low.cfg N).lp = some lc → LCOk (ref05_Low.cfg N) N b lc := by
  refine HL_of (ids := [4]) (by kernel_rfl) fun j lc hj h => ?_
  match j, hj, h with
    | 0, _, h => cases h; exact ref05_Low.lc0_ok N
    | j + 1, hj, _ => exact absurd hj (by simp)
theorem ref05_Low.cfg_ok (N : Nat) : CfgOk Tryd.prog (ref05_Low.cfg N) := mkCfg (.cons ref05_May.ok (.cons ref05_at.ok (.cons ref01_Low.ok .nil))) _ _ _ _
theorem ref05_Low.ok : CTok Tryd.prog 111 ref05_Low.ct := CTok.of1 Tryd.call111 mix Tryd.func111 (Nat.le_of_ble_eq_true (by kernel_rfl)) (fun a res hres _ => ⟨ref05_Low.cfg fuel, fuel, ref05_Low.cfg_ok fuel, ref05_Low.hl fuel, (ref05_Low.ev fuel a).trans hres⟩)

def ref05_Len.cfg (_N : Nat) : Cfg := { T := tys, EQ := eqs, C := [(114, ref05_May.ct), (115, ref01_Len.ct)], lp := [], un := [], ks := [], keep := [0, 2, 9] }
theorem ref05_Len.ev (N : Nat) (a : ByteArray) : evFunc (ref05_Len.cfg N) N Tryd.f51 [.v (dS.enc a)] [] 0 (dI .i64).dec = ref05_Len.g a := by kernel_rfl
theorem ref05_Len.hl (N : Nat) : ∀ body, Tryd.f51.body = some body → ∀ b ∈ loopsOf body, ∀ lc, lkL (firstReg b) (ref05_Len.cfg N).lp = some lc → LCOk (ref05_Len.cfg N) N b lc := HL_nil rfl
theorem ref05_Len.cfg_ok (N : Nat) : CfgOk Tryd.prog (ref05_Len.cfg N) := mkCfg (.cons ref05_May.ok (.cons ref01_Len.ok .nil)) _ _ _ _
theorem ref05_Len.ok : CTok Tryd.prog 51 ref05_Len.ct := CTok.of1 Tryd.call51 mix Tryd.func51 (Nat.le_of_ble_eq_true (by kernel_rfl)) (fun a res hres _ => ⟨ref05_Len.cfg fuel, fuel, ref05_Len.cfg_ok fuel, ref05_Len.hl fuel, (ref05_Len.ev fuel a).trans hres⟩)

def ref05_fit.cfg (N : Nat) : Cfg := { T := tys, EQ := eqs, C := [], lp := [(2, ref05_fit.lc0 N), (6, ref05_fit.lc1 N)], un := [], ks := [(2, [0, 2, 3, 4, 5, 17, 24]), (6, [0, 2, 3, 4, 5, 24])], keep := [0, 2, 3, 4, 5, 17, 24] }
theorem ref05_fit.step0 {R : Type} (N : Nat) (n0 : Nat) (c0 : Nat) (x2 : ByteArray) (m0 : List Int) (k : Ex → St → Option R) (n : Nat) (x3 : Int) :
    loopN (evCode (ref05_fit.cfg N) N (loopAt 0 Tryd.f165)) [0, 2, 3] 5 (n + 1) (ref05_fit.enc0 n0 c0 x2 x3 m0) k = ref05_fit.b0 N n0 c0 x2 m0 (fun x3 => loopN (evCode (ref05_fit.cfg N) N (loopAt 0 Tryd.f165)) [0, 2, 3] 5 n (ref05_fit.enc0 n0 c0 x2 x3 m0) k) (fun x3 => k (.exit 0) (ref05_fit.enc0 n0 c0 x2 x3 m0)) x3 := by kernel_rfl
theorem ref05_fit.eq0 {R : Type} (N : Nat) (n0 : Nat) (c0 : Nat) (x2 : ByteArray) (m0 : List Int) (k : Ex → St → Option R) : ∀ (n : Nat) (x3 : Int), loopN (evCode (ref05_fit.cfg N) N (loopAt 0 Tryd.f165)) [0, 2, 3] 5 n (ref05_fit.enc0 n0 c0 x2 x3 m0) k = ref05_fit.l0 N n0 c0 x2 m0 (fun x3 => k (.exit 0) (ref05_fit.enc0 n0 c0 x2 x3 m0)) n x3
  | 0, _ => rfl
  | n + 1, x3 => (ref05_fit.step0 N n0 c0 x2 m0 k n x3).trans (congrArg (fun self => ref05_fit.b0 N n0 c0 x2 m0 self (fun x3 => k (.exit 0) (ref05_fit.enc0 n0 c0 x2 x3 m0)) x3) ((funext fun x3 => ref05_fit.eq0 N n0 c0 x2 m0 k n x3)))
theorem ref05_fit.lc0_ok (N : Nat) : LCOk (ref05_fit.cfg N) N (loopAt 0 Tryd.f165) (ref05_fit.lc0 N) := by
  intro R r st k h
  unfold ref05_fit.lc0 at h
  obtain ⟨e, m, rfl, h⟩ := tkSt_some h
  obtain ⟨n0, c0, e, rfl, h⟩ := tkS_some h
  obtain ⟨x2, e, rfl, h⟩ := tkD_some h
  obtain ⟨x3, e, rfl, h⟩ := tkD_some h
  obtain ⟨rfl, h⟩ := tkN_some h
  obtain ⟨m0, m, rfl, h⟩ := tkM_some h
  obtain ⟨rfl, h⟩ := tkN_some h
  exact ⟨N, (ref05_fit.eq0 N n0 c0 x2 m0 k N x3).trans h⟩
theorem ref05_fit.step1 {R : Type} (N : Nat) (n0 : Nat) (c0 : Nat) (x2 : ByteArray) (x3 : Int) (n4 : Nat) (c4 : Nat) (m0 : List Int) (k : Ex → St → Option R) (n : Nat) (x5 : Int) (m6 : List Int) :
    loopN (evCode (ref05_fit.cfg N) N (loopAt 1 Tryd.f165)) [0, 2, 3, 4, 5] 9 (n + 1) (ref05_fit.enc1 n0 c0 x2 x3 n4 c4 x5 m6 m0) k = ref05_fit.b1 N n0 c0 x2 x3 n4 c4 m0 (fun x5 m6 => loopN (evCode (ref05_fit.cfg N) N (loopAt 1 Tryd.f165)) [0, 2, 3, 4, 5] 9 n (ref05_fit.enc1 n0 c0 x2 x3 n4 c4 x5 m6 m0) k) (fun x5 m6 => k (.exit 2) (ref05_fit.enc1 n0 c0 x2 x3 n4 c4 x5 m6 m0)) x5 m6 := by kernel_rfl
theorem ref05_fit.eq1 {R : Type} (N : Nat) (n0 : Nat) (c0 : Nat) (x2 : ByteArray) (x3 : Int) (n4 : Nat) (c4 : Nat) (m0 : List Int) (k : Ex → St → Option R) : ∀ (n : Nat) (x5 : Int) (m6 : List Int), loopN (evCode (ref05_fit.cfg N) N (loopAt 1 Tryd.f165)) [0, 2, 3, 4, 5] 9 n (ref05_fit.enc1 n0 c0 x2 x3 n4 c4 x5 m6 m0) k = ref05_fit.l1 N n0 c0 x2 x3 n4 c4 m0 (fun x5 m6 => k (.exit 2) (ref05_fit.enc1 n0 c0 x2 x3 n4 c4 x5 m6 m0)) n x5 m6
  | 0, _, _ => rfl
  | n + 1, x5, m6 => (ref05_fit.step1 N n0 c0 x2 x3 n4 c4 m0 k n x5 m6).trans (congrArg (fun self => ref05_fit.b1 N n0 c0 x2 x3 n4 c4 m0 self (fun x5 m6 => k (.exit 2) (ref05_fit.enc1 n0 c0 x2 x3 n4 c4 x5 m6 m0)) x5 m6) ((funext fun x5 => funext fun m6 => ref05_fit.eq1 N n0 c0 x2 x3 n4 c4 m0 k n x5 m6)))
theorem ref05_fit.lc1_ok (N : Nat) : LCOk (ref05_fit.cfg N) N (loopAt 1 Tryd.f165) (ref05_fit.lc1 N) := by
  intro R r st k h
  unfold ref05_fit.lc1 at h
  obtain ⟨e, m, rfl, h⟩ := tkSt_some h
  obtain ⟨n0, c0, e, rfl, h⟩ := tkS_some h
  obtain ⟨x2, e, rfl, h⟩ := tkD_some h
  obtain ⟨x3, e, rfl, h⟩ := tkD_some h
  obtain ⟨n4, c4, e, rfl, h⟩ := tkS_some h
  obtain ⟨x5, e, rfl, h⟩ := tkD_some h
  obtain ⟨rfl, h⟩ := tkN_some h
  obtain ⟨m6, m, rfl, h⟩ := tkM_some h
  obtain ⟨m0, m, rfl, h⟩ := tkM_some h
  obtain ⟨rfl, h⟩ := tkN_some h
  exact ⟨N, (ref05_fit.eq1 N n0 c0 x2 x3 n4 c4 m0 k N x5 m6).trans h⟩
theorem ref05_fit.ev (N : Nat) (l_n : Nat) (l_c : Nat) (l : List Int) : evFunc (ref05_fit.cfg N) N Tryd.f165 [.s 0 0 l_n l_c] [(0, ⟨false, 5, (mL .u8).enc l⟩)] 1 dS.dec = ref05_fit.f N l_n l_c l := by kernel_rfl
theorem ref05_fit.hl (N : Nat) : ∀ body, Tryd.f165.body = some body → ∀ b ∈ loopsOf body, ∀ lc, lkL (firstReg b) (ref05_fit.cfg N).lp = some lc → LCOk (ref05_fit.cfg N) N b lc := by
  refine HL_of (ids := [2, 6]) (by kernel_rfl) fun j lc hj h => ?_
  match j, hj, h with
    | 0, _, h => cases h; exact ref05_fit.lc0_ok N
    | 1, _, h => cases h; exact ref05_fit.lc1_ok N
    | j + 2, hj, _ => exact absurd hj (by simp)
theorem ref05_fit.cfg_ok (N : Nat) : CfgOk Tryd.prog (ref05_fit.cfg N) := mkCfg .nil _ _ _ _
theorem ref05_fit.ok : CTok Tryd.prog 165 ref05_fit.ct := CTok.ofS0 Tryd.call165 mix Tryd.func165 (Nat.le_of_ble_eq_true (by kernel_rfl)) (fun l_n l_c l res hres  => ⟨ref05_fit.cfg fuel, fuel, ref05_fit.cfg_ok fuel, ref05_fit.hl fuel, (ref05_fit.ev fuel l_n l_c l).trans hres⟩)

def ref05_Right.cfg (N : Nat) : Cfg := { T := tys, EQ := eqs, C := [(111, ref05_Low.ct), (116, ref05_at.ct), (165, ref05_fit.ct)], lp := [(11, ref05_Right.lc0 N)], un := [], ks := [(11, [0, 1, 4, 5, 6, 7, 8, 9, 10, 11, 35])], keep := [0, 1, 4, 5, 6, 7, 8, 9, 10, 11, 13, 15, 24, 35] }
theorem ref05_Right.step0 {R : Type} (N : Nat) (x0 : ByteArray) (x1 : Int) (x4 : ByteArray) (x5 : Bool) (x6 : Int) (x7 : Bool) (x8 : Int) (n9 : Nat) (c9 : Nat) (k : Ex → St → Option R) (n : Nat) (x10 : Int) (m24 : List Int) :
    loopN (evCode (ref05_Right.cfg N) N (loopAt 0 Tryd.f163)) [0, 1, 4, 5, 6, 7, 8, 9, 10] 27 (n + 1) (ref05_Right.enc0 x0 x1 x4 x5 x6 x7 x8 n9 c9 x10 m24) k = ref05_Right.b0 N x0 x1 x4 x5 x6 x7 x8 n9 c9 (fun x10 m24 => loopN (evCode (ref05_Right.cfg N) N (loopAt 0 Tryd.f163)) [0, 1, 4, 5, 6, 7, 8, 9, 10] 27 n (ref05_Right.enc0 x0 x1 x4 x5 x6 x7 x8 n9 c9 x10 m24) k) (fun x10 m24 => k (.exit 0) (ref05_Right.enc0 x0 x1 x4 x5 x6 x7 x8 n9 c9 x10 m24)) x10 m24 := by kernel_rfl
theorem ref05_Right.eq0 {R : Type} (N : Nat) (x0 : ByteArray) (x1 : Int) (x4 : ByteArray) (x5 : Bool) (x6 : Int) (x7 : Bool) (x8 : Int) (n9 : Nat) (c9 : Nat) (k : Ex → St → Option R) : ∀ (n : Nat) (x10 : Int) (m24 : List Int), loopN (evCode (ref05_Right.cfg N) N (loopAt 0 Tryd.f163)) [0, 1, 4, 5, 6, 7, 8, 9, 10] 27 n (ref05_Right.enc0 x0 x1 x4 x5 x6 x7 x8 n9 c9 x10 m24) k = ref05_Right.l0 N x0 x1 x4 x5 x6 x7 x8 n9 c9 (fun x10 m24 => k (.exit 0) (ref05_Right.enc0 x0 x1 x4 x5 x6 x7 x8 n9 c9 x10 m24)) n x10 m24
  | 0, _, _ => rfl
  | n + 1, x10, m24 => (ref05_Right.step0 N x0 x1 x4 x5 x6 x7 x8 n9 c9 k n x10 m24).trans (congrArg (fun self => ref05_Right.b0 N x0 x1 x4 x5 x6 x7 x8 n9 c9 self (fun x10 m24 => k (.exit 0) (ref05_Right.enc0 x0 x1 x4 x5 x6 x7 x8 n9 c9 x10 m24)) x10 m24) ((funext fun x10 => funext fun m24 => ref05_Right.eq0 N x0 x1 x4 x5 x6 x7 x8 n9 c9 k n x10 m24)))
theorem ref05_Right.lc0_ok (N : Nat) : LCOk (ref05_Right.cfg N) N (loopAt 0 Tryd.f163) (ref05_Right.lc0 N) := by
  intro R r st k h
  unfold ref05_Right.lc0 at h
  obtain ⟨e, m, rfl, h⟩ := tkSt_some h
  obtain ⟨x0, e, rfl, h⟩ := tkD_some h
  obtain ⟨x1, e, rfl, h⟩ := tkD_some h
  obtain ⟨x4, e, rfl, h⟩ := tkD_some h
  obtain ⟨x5, e, rfl, h⟩ := tkD_some h
  obtain ⟨x6, e, rfl, h⟩ := tkD_some h
  obtain ⟨x7, e, rfl, h⟩ := tkD_some h
  obtain ⟨x8, e, rfl, h⟩ := tkD_some h
  obtain ⟨n9, c9, e, rfl, h⟩ := tkS_some h
  obtain ⟨x10, e, rfl, h⟩ := tkD_some h
  obtain ⟨rfl, h⟩ := tkN_some h
  obtain ⟨m24, m, rfl, h⟩ := tkM_some h
  obtain ⟨rfl, h⟩ := tkN_some h
  exact ⟨N, (ref05_Right.eq0 N x0 x1 x4 x5 x6 x7 x8 n9 c9 k N x10 m24).trans h⟩
theorem ref05_Right.ev (N : Nat) (a : ByteArray) (n : Int) : evFunc (ref05_Right.cfg N) N Tryd.f163 [.v (dS.enc a), .v ((dI .i64).enc n)] [] 0 (dT3 dS dB (dI .i64)).dec = ref05_Right.f N a n := by kernel_rfl
theorem ref05_Right.hl (N : Nat) : ∀ body, Tryd.f163.body = some body → ∀ b ∈ loopsOf body, ∀ lc, lkL (firstReg b) (ref05_Right.cfg N).lp = some lc → LCOk (ref05_Right.cfg N) N b lc := by
  refine HL_of (ids := [11]) (by kernel_rfl) fun j lc hj h => ?_
  match j, hj, h with
    | 0, _, h => cases h; exact ref05_Right.lc0_ok N
    | j + 1, hj, _ => exact absurd hj (by simp)
theorem ref05_Right.cfg_ok (N : Nat) : CfgOk Tryd.prog (ref05_Right.cfg N) := mkCfg (.cons ref05_Low.ok (.cons ref05_at.ok (.cons ref05_fit.ok .nil))) _ _ _ _
theorem ref05_Right.ok : CTok Tryd.prog 163 ref05_Right.ct := CTok.of2 Tryd.call163 mix Tryd.func163 (Nat.le_of_ble_eq_true (by kernel_rfl)) (fun a n res hres _ _ => ⟨ref05_Right.cfg fuel, fuel, ref05_Right.cfg_ok fuel, ref05_Right.hl fuel, (ref05_Right.ev fuel a n).trans hres⟩)

def ref05_Cmp.cfg (_N : Nat) : Cfg := { T := tys, EQ := eqs, C := [], lp := [], un := [], ks := [], keep := [0, 1, 4, 9, 14, 17, 20] }
theorem ref05_Cmp.ev (N : Nat) (a : ByteArray) (b : ByteArray) : evFunc (ref05_Cmp.cfg N) N Tryd.f166 [.v (dS.enc a), .v (dS.enc b)] [] 0 (dI .i64).dec = ref05_Cmp.g a b := by kernel_rfl
theorem ref05_Cmp.hl (N : Nat) : ∀ body, Tryd.f166.body = some body → ∀ b ∈ loopsOf body, ∀ lc, lkL (firstReg b) (ref05_Cmp.cfg N).lp = some lc → LCOk (ref05_Cmp.cfg N) N b lc := HL_nil rfl
theorem ref05_Cmp.cfg_ok (N : Nat) : CfgOk Tryd.prog (ref05_Cmp.cfg N) := mkCfg .nil _ _ _ _
theorem ref05_Cmp.ok : CTok Tryd.prog 166 ref05_Cmp.ct := CTok.of2 Tryd.call166 mix Tryd.func166 (Nat.le_of_ble_eq_true (by kernel_rfl)) (fun a b res hres _ _ => ⟨ref05_Cmp.cfg fuel, fuel, ref05_Cmp.cfg_ok fuel, ref05_Cmp.hl fuel, (ref05_Cmp.ev fuel a b).trans hres⟩)

def ref05_double.cfg (N : Nat) : Cfg := { T := tys, EQ := eqs, C := [(116, ref05_at.ct), (165, ref05_fit.ct)], lp := [(4, ref05_double.lc0 N)], un := [], ks := [(4, [0, 4, 5, 6, 7, 16])], keep := [0, 1, 4, 5, 6, 7, 16] }
theorem ref05_double.step0 {R : Type} (N : Nat) (x0 : ByteArray) (x4 : ByteArray) (n5 : Nat) (c5 : Nat) (k : Ex → St → Option R) (n : Nat) (x6 : Int) (x7 : Int) (m4 : List Int) :
    loopN (evCode (ref05_double.cfg N) N (loopAt 0 Tryd.f167)) [0, 4, 5, 6, 7] 9 (n + 1) (ref05_double.enc0 x0 x4 n5 c5 x6 x7 m4) k = ref05_double.b0 N x0 x4 n5 c5 (fun x6 x7 m4 => loopN (evCode (ref05_double.cfg N) N (loopAt 0 Tryd.f167)) [0, 4, 5, 6, 7] 9 n (ref05_double.enc0 x0 x4 n5 c5 x6 x7 m4) k) (fun x6 x7 m4 => k (.exit 0) (ref05_double.enc0 x0 x4 n5 c5 x6 x7 m4)) x6 x7 m4 := by kernel_rfl
theorem ref05_double.eq0 {R : Type} (N : Nat) (x0 : ByteArray) (x4 : ByteArray) (n5 : Nat) (c5 : Nat) (k : Ex → St → Option R) : ∀ (n : Nat) (x6 : Int) (x7 : Int) (m4 : List Int), loopN (evCode (ref05_double.cfg N) N (loopAt 0 Tryd.f167)) [0, 4, 5, 6, 7] 9 n (ref05_double.enc0 x0 x4 n5 c5 x6 x7 m4) k = ref05_double.l0 N x0 x4 n5 c5 (fun x6 x7 m4 => k (.exit 0) (ref05_double.enc0 x0 x4 n5 c5 x6 x7 m4)) n x6 x7 m4
  | 0, _, _, _ => rfl
  | n + 1, x6, x7, m4 => (ref05_double.step0 N x0 x4 n5 c5 k n x6 x7 m4).trans (congrArg (fun self => ref05_double.b0 N x0 x4 n5 c5 self (fun x6 x7 m4 => k (.exit 0) (ref05_double.enc0 x0 x4 n5 c5 x6 x7 m4)) x6 x7 m4) ((funext fun x6 => funext fun x7 => funext fun m4 => ref05_double.eq0 N x0 x4 n5 c5 k n x6 x7 m4)))
theorem ref05_double.lc0_ok (N : Nat) : LCOk (ref05_double.cfg N) N (loopAt 0 Tryd.f167) (ref05_double.lc0 N) := by
  intro R r st k h
  unfold ref05_double.lc0 at h
  obtain ⟨e, m, rfl, h⟩ := tkSt_some h
  obtain ⟨x0, e, rfl, h⟩ := tkD_some h
  obtain ⟨x4, e, rfl, h⟩ := tkD_some h
  obtain ⟨n5, c5, e, rfl, h⟩ := tkS_some h
  obtain ⟨x6, e, rfl, h⟩ := tkD_some h
  obtain ⟨x7, e, rfl, h⟩ := tkD_some h
  obtain ⟨rfl, h⟩ := tkN_some h
  obtain ⟨m4, m, rfl, h⟩ := tkM_some h
  obtain ⟨rfl, h⟩ := tkN_some h
  exact ⟨N, (ref05_double.eq0 N x0 x4 n5 c5 k N x6 x7 m4).trans h⟩
theorem ref05_double.ev (N : Nat) (a : ByteArray) (one : Int) : evFunc (ref05_double.cfg N) N Tryd.f167 [.v (dS.enc a), .v ((dI .i64).enc one)] [] 0 dS.dec = ref05_double.f N a one := by kernel_rfl
theorem ref05_double.hl (N : Nat) : ∀ body, Tryd.f167.body = some body → ∀ b ∈ loopsOf body, ∀ lc, lkL (firstReg b) (ref05_double.cfg N).lp = some lc → LCOk (ref05_double.cfg N) N b lc := by
  refine HL_of (ids := [4]) (by kernel_rfl) fun j lc hj h => ?_
  match j, hj, h with
    | 0, _, h => cases h; exact ref05_double.lc0_ok N
    | j + 1, hj, _ => exact absurd hj (by simp)
theorem ref05_double.cfg_ok (N : Nat) : CfgOk Tryd.prog (ref05_double.cfg N) := mkCfg (.cons ref05_at.ok (.cons ref05_fit.ok .nil)) _ _ _ _
theorem ref05_double.ok : CTok Tryd.prog 167 ref05_double.ct := CTok.of2 Tryd.call167 mix Tryd.func167 (Nat.le_of_ble_eq_true (by kernel_rfl)) (fun a one res hres _ _ => ⟨ref05_double.cfg fuel, fuel, ref05_double.cfg_ok fuel, ref05_double.hl fuel, (ref05_double.ev fuel a one).trans hres⟩)

def ref05_bit.cfg (_N : Nat) : Cfg := { T := tys, EQ := eqs, C := [(116, ref05_at.ct)], lp := [], un := [], ks := [], keep := [0, 1, 4] }
theorem ref05_bit.ev (N : Nat) (a : ByteArray) (i : Int) : evFunc (ref05_bit.cfg N) N Tryd.f168 [.v (dS.enc a), .v ((dI .i64).enc i)] [] 0 (dI .i64).dec = ref05_bit.g a i := by kernel_rfl
theorem ref05_bit.hl (N : Nat) : ∀ body, Tryd.f168.body = some body → ∀ b ∈ loopsOf body, ∀ lc, lkL (firstReg b) (ref05_bit.cfg N).lp = some lc → LCOk (ref05_bit.cfg N) N b lc := HL_nil rfl
theorem ref05_bit.cfg_ok (N : Nat) : CfgOk Tryd.prog (ref05_bit.cfg N) := mkCfg (.cons ref05_at.ok .nil) _ _ _ _
theorem ref05_bit.ok : CTok Tryd.prog 168 ref05_bit.ct := CTok.of2 Tryd.call168 mix Tryd.func168 (Nat.le_of_ble_eq_true (by kernel_rfl)) (fun a i res hres _ _ => ⟨ref05_bit.cfg fuel, fuel, ref05_bit.cfg_ok fuel, ref05_bit.hl fuel, (ref05_bit.ev fuel a i).trans hres⟩)

def ref05_sub.cfg (N : Nat) : Cfg := { T := tys, EQ := eqs, C := [(116, ref05_at.ct), (165, ref05_fit.ct)], lp := [(4, ref05_sub.lc0 N)], un := [], ks := [(4, [0, 1, 4, 5, 6, 7, 14, 32])], keep := [0, 1, 4, 5, 6, 7, 14, 32] }
theorem ref05_sub.step0 {R : Type} (N : Nat) (x0 : ByteArray) (x1 : ByteArray) (x4 : ByteArray) (n5 : Nat) (c5 : Nat) (k : Ex → St → Option R) (n : Nat) (x6 : Int) (x7 : Int) (m3 : List Int) :
    loopN (evCode (ref05_sub.cfg N) N (loopAt 0 Tryd.f169)) [0, 1, 4, 5, 6, 7] 7 (n + 1) (ref05_sub.enc0 x0 x1 x4 n5 c5 x6 x7 m3) k = ref05_sub.b0 N x0 x1 x4 n5 c5 (fun x6 x7 m3 => loopN (evCode (ref05_sub.cfg N) N (loopAt 0 Tryd.f169)) [0, 1, 4, 5, 6, 7] 7 n (ref05_sub.enc0 x0 x1 x4 n5 c5 x6 x7 m3) k) (fun x6 x7 m3 => k (.exit 0) (ref05_sub.enc0 x0 x1 x4 n5 c5 x6 x7 m3)) x6 x7 m3 := by kernel_rfl
theorem ref05_sub.eq0 {R : Type} (N : Nat) (x0 : ByteArray) (x1 : ByteArray) (x4 : ByteArray) (n5 : Nat) (c5 : Nat) (k : Ex → St → Option R) : ∀ (n : Nat) (x6 : Int) (x7 : Int) (m3 : List Int), loopN (evCode (ref05_sub.cfg N) N (loopAt 0 Tryd.f169)) [0, 1, 4, 5, 6, 7] 7 n (ref05_sub.enc0 x0 x1 x4 n5 c5 x6 x7 m3) k = ref05_sub.l0 N x0 x1 x4 n5 c5 (fun x6 x7 m3 => k (.exit 0) (ref05_sub.enc0 x0 x1 x4 n5 c5 x6 x7 m3)) n x6 x7 m3
  | 0, _, _, _ => rfl
  | n + 1, x6, x7, m3 => (ref05_sub.step0 N x0 x1 x4 n5 c5 k n x6 x7 m3).trans (congrArg (fun self => ref05_sub.b0 N x0 x1 x4 n5 c5 self (fun x6 x7 m3 => k (.exit 0) (ref05_sub.enc0 x0 x1 x4 n5 c5 x6 x7 m3)) x6 x7 m3) ((funext fun x6 => funext fun x7 => funext fun m3 => ref05_sub.eq0 N x0 x1 x4 n5 c5 k n x6 x7 m3)))
theorem ref05_sub.lc0_ok (N : Nat) : LCOk (ref05_sub.cfg N) N (loopAt 0 Tryd.f169) (ref05_sub.lc0 N) := by
  intro R r st k h
  unfold ref05_sub.lc0 at h
  obtain ⟨e, m, rfl, h⟩ := tkSt_some h
  obtain ⟨x0, e, rfl, h⟩ := tkD_some h
  obtain ⟨x1, e, rfl, h⟩ := tkD_some h
  obtain ⟨x4, e, rfl, h⟩ := tkD_some h
  obtain ⟨n5, c5, e, rfl, h⟩ := tkS_some h
  obtain ⟨x6, e, rfl, h⟩ := tkD_some h
  obtain ⟨x7, e, rfl, h⟩ := tkD_some h
  obtain ⟨rfl, h⟩ := tkN_some h
  obtain ⟨m3, m, rfl, h⟩ := tkM_some h
  obtain ⟨rfl, h⟩ := tkN_some h
  exact ⟨N, (ref05_sub.eq0 N x0 x1 x4 n5 c5 k N x6 x7 m3).trans h⟩
theorem ref05_sub.ev (N : Nat) (a : ByteArray) (b : ByteArray) : evFunc (ref05_sub.cfg N) N Tryd.f169 [.v (dS.enc a), .v (dS.enc b)] [] 0 dS.dec = ref05_sub.f N a b := by kernel_rfl
theorem ref05_sub.hl (N : Nat) : ∀ body, Tryd.f169.body = some body → ∀ b ∈ loopsOf body, ∀ lc, lkL (firstReg b) (ref05_sub.cfg N).lp = some lc → LCOk (ref05_sub.cfg N) N b lc := by
  refine HL_of (ids := [4]) (by kernel_rfl) fun j lc hj h => ?_
  match j, hj, h with
    | 0, _, h => cases h; exact ref05_sub.lc0_ok N
    | j + 1, hj, _ => exact absurd hj (by simp)
theorem ref05_sub.cfg_ok (N : Nat) : CfgOk Tryd.prog (ref05_sub.cfg N) := mkCfg (.cons ref05_at.ok (.cons ref05_fit.ok .nil)) _ _ _ _
theorem ref05_sub.ok : CTok Tryd.prog 169 ref05_sub.ct := CTok.of2 Tryd.call169 mix Tryd.func169 (Nat.le_of_ble_eq_true (by kernel_rfl)) (fun a b res hres _ _ => ⟨ref05_sub.cfg fuel, fuel, ref05_sub.cfg_ok fuel, ref05_sub.hl fuel, (ref05_sub.ev fuel a b).trans hres⟩)

def ref05_Div.cfg (N : Nat) : Cfg := { T := tys, EQ := eqs, C := [(51, ref05_Len.ct), (163, ref05_Right.ct), (165, ref05_fit.ct), (166, ref05_Cmp.ct), (167, ref05_double.ct), (168, ref05_bit.ct), (169, ref05_sub.ct)], lp := [(10, ref05_Div.lc0 N)], un := [], ks := [(10, [0, 1, 4, 5, 6, 9, 12, 13, 44, 55])], keep := [0, 1, 4, 5, 6, 7, 8, 9, 12, 13, 15, 19, 44, 55] }
theorem ref05_Div.step0 {R : Type} (N : Nat) (x0 : ByteArray) (x1 : ByteArray) (x4 : ByteArray) (x5 : ByteArray) (x6 : Int) (n12 : Nat) (c12 : Nat) (k : Ex → St → Option R) (n : Nat) (x9 : ByteArray) (x13 : Int) (m31 : List Int) :
    loopN (evCode (ref05_Div.cfg N) N (loopAt 0 Tryd.f143)) [0, 1, 4, 5, 6, 9, 12, 13] 38 (n + 1) (ref05_Div.enc0 x0 x1 x4 x5 x6 x9 n12 c12 x13 m31) k = ref05_Div.b0 N x0 x1 x4 x5 x6 n12 c12 (fun x9 x13 m31 => loopN (evCode (ref05_Div.cfg N) N (loopAt 0 Tryd.f143)) [0, 1, 4, 5, 6, 9, 12, 13] 38 n (ref05_Div.enc0 x0 x1 x4 x5 x6 x9 n12 c12 x13 m31) k) (fun x9 x13 m31 => k (.exit 0) (ref05_Div.enc0 x0 x1 x4 x5 x6 x9 n12 c12 x13 m31)) x9 x13 m31 := by kernel_rfl
theorem ref05_Div.eq0 {R : Type} (N : Nat) (x0 : ByteArray) (x1 : ByteArray) (x4 : ByteArray) (x5 : ByteArray) (x6 : Int) (n12 : Nat) (c12 : Nat) (k : Ex → St → Option R) : ∀ (n : Nat) (x9 : ByteArray) (x13 : Int) (m31 : List Int), loopN (evCode (ref05_Div.cfg N) N (loopAt 0 Tryd.f143)) [0, 1, 4, 5, 6, 9, 12, 13] 38 n (ref05_Div.enc0 x0 x1 x4 x5 x6 x9 n12 c12 x13 m31) k = ref05_Div.l0 N x0 x1 x4 x5 x6 n12 c12 (fun x9 x13 m31 => k (.exit 0) (ref05_Div.enc0 x0 x1 x4 x5 x6 x9 n12 c12 x13 m31)) n x9 x13 m31
  | 0, _, _, _ => rfl
  | n + 1, x9, x13, m31 => (ref05_Div.step0 N x0 x1 x4 x5 x6 n12 c12 k n x9 x13 m31).trans (congrArg (fun self => ref05_Div.b0 N x0 x1 x4 x5 x6 n12 c12 self (fun x9 x13 m31 => k (.exit 0) (ref05_Div.enc0 x0 x1 x4 x5 x6 x9 n12 c12 x13 m31)) x9 x13 m31) ((funext fun x9 => funext fun x13 => funext fun m31 => ref05_Div.eq0 N x0 x1 x4 x5 x6 n12 c12 k n x9 x13 m31)))
theorem ref05_Div.lc0_ok (N : Nat) : LCOk (ref05_Div.cfg N) N (loopAt 0 Tryd.f143) (ref05_Div.lc0 N) := by
  intro R r st k h
  unfold ref05_Div.lc0 at h
  obtain ⟨e, m, rfl, h⟩ := tkSt_some h
  obtain ⟨x0, e, rfl, h⟩ := tkD_some h
  obtain ⟨x1, e, rfl, h⟩ := tkD_some h
  obtain ⟨x4, e, rfl, h⟩ := tkD_some h
  obtain ⟨x5, e, rfl, h⟩ := tkD_some h
  obtain ⟨x6, e, rfl, h⟩ := tkD_some h
  obtain ⟨x9, e, rfl, h⟩ := tkD_some h
  obtain ⟨n12, c12, e, rfl, h⟩ := tkS_some h
  obtain ⟨x13, e, rfl, h⟩ := tkD_some h
  obtain ⟨rfl, h⟩ := tkN_some h
  obtain ⟨m31, m, rfl, h⟩ := tkM_some h
  obtain ⟨rfl, h⟩ := tkN_some h
  exact ⟨N, (ref05_Div.eq0 N x0 x1 x4 x5 x6 n12 c12 k N x9 x13 m31).trans h⟩
theorem ref05_Div.ev (N : Nat) (a : ByteArray) (b : ByteArray) : evFunc (ref05_Div.cfg N) N Tryd.f143 [.v (dS.enc a), .v (dS.enc b)] [] 0 (dT3 dS dS (dI .i64)).dec = ref05_Div.f N a b := by kernel_rfl
theorem ref05_Div.hl (N : Nat) : ∀ body, Tryd.f143.body = some body → ∀ b ∈ loopsOf body, ∀ lc, lkL (firstReg b) (ref05_Div.cfg N).lp = some lc → LCOk (ref05_Div.cfg N) N b lc := by
  refine HL_of (ids := [10]) (by kernel_rfl) fun j lc hj h => ?_
  match j, hj, h with
    | 0, _, h => cases h; exact ref05_Div.lc0_ok N
    | j + 1, hj, _ => exact absurd hj (by simp)
theorem ref05_Div.cfg_ok (N : Nat) : CfgOk Tryd.prog (ref05_Div.cfg N) := mkCfg (.cons ref05_Len.ok (.cons ref05_Right.ok (.cons ref05_fit.ok (.cons ref05_Cmp.ok (.cons ref05_double.ok (.cons ref05_bit.ok (.cons ref05_sub.ok .nil))))))) _ _ _ _
theorem ref05_Div.ok : CTok Tryd.prog 143 ref05_Div.ct := CTok.of2 Tryd.call143 mix Tryd.func143 (Nat.le_of_ble_eq_true (by kernel_rfl)) (fun a b res hres _ _ => ⟨ref05_Div.cfg fuel, fuel, ref05_Div.cfg_ok fuel, ref05_Div.hl fuel, (ref05_Div.ev fuel a b).trans hres⟩)

def ref06_Null.cfg (_N : Nat) : Cfg := { T := tys, EQ := eqs, C := [], lp := [], un := [], ks := [], keep := [0] }
theorem ref06_Null.ev (N : Nat)  : evFunc (ref06_Null.cfg N) N Tryd.f162 [] [] 0 dExc.dec = ref06_Null.g  := by kernel_rfl
theorem ref06_Null.hl (N : Nat) : ∀ body, Tryd.f162.body = some body → ∀ b ∈ loopsOf body, ∀ lc, lkL (firstReg b) (ref06_Null.cfg N).lp = some lc → LCOk (ref06_Null.cfg N) N b lc := HL_nil rfl
theorem ref06_Null.cfg_ok (N : Nat) : CfgOk Tryd.prog (ref06_Null.cfg N) := mkCfg .nil _ _ _ _
theorem ref06_Null.ok : CTok Tryd.prog 162 ref06_Null.ct := CTok.of0 Tryd.call162 mix Tryd.func162 (Nat.le_of_ble_eq_true (by kernel_rfl)) (fun  res hres  => ⟨ref06_Null.cfg fuel, fuel, ref06_Null.cfg_ok fuel, ref06_Null.hl fuel, (ref06_Null.ev fuel ).trans hres⟩)

def ref05_Gcd.cfg (N : Nat) : Cfg := { T := tys, EQ := eqs, C := [(143, ref05_Div.ct)], lp := [(1, ref05_Gcd.lc0 N)], un := [], ks := [(1, [0, 1, 4, 6, 9])], keep := [0, 1, 4, 6, 9] }
theorem ref05_Gcd.step0 {R : Type} (N : Nat) (x4 : ByteArray) (k : Ex → St → Option R) (n : Nat) (x0 : ByteArray) (x1 : ByteArray) :
    loopN (evCode (ref05_Gcd.cfg N) N (loopAt 0 Tryd.f164)) [0, 1, 4] 1 (n + 1) (ref05_Gcd.enc0 x0 x1 x4) k = ref05_Gcd.b0 N x4 (fun x0 x1 => loopN (evCode (ref05_Gcd.cfg N) N (loopAt 0 Tryd.f164)) [0, 1, 4] 1 n (ref05_Gcd.enc0 x0 x1 x4) k) (fun x0 x1 => k (.exit 0) (ref05_Gcd.enc0 x0 x1 x4)) x0 x1 := by kernel_rfl
theorem ref05_Gcd.eq0 {R : Type} (N : Nat) (x4 : ByteArray) (k : Ex → St → Option R) : ∀ (n : Nat) (x0 : ByteArray) (x1 : ByteArray), loopN (evCode (ref05_Gcd.cfg N) N (loopAt 0 Tryd.f164)) [0, 1, 4] 1 n (ref05_Gcd.enc0 x0 x1 x4) k = ref05_Gcd.l0 N x4 (fun x0 x1 => k (.exit 0) (ref05_Gcd.enc0 x0 x1 x4)) n x0 x1
  | 0, _, _ => rfl
  | n + 1, x0, x1 => (ref05_Gcd.step0 N x4 k n x0 x1).trans (congrArg (fun self => ref05_Gcd.b0 N x4 self (fun x0 x1 => k (.exit 0) (ref05_Gcd.enc0 x0 x1 x4)) x0 x1) ((funext fun x0 => funext fun x1 => ref05_Gcd.eq0 N x4 k n x0 x1)))
theorem ref05_Gcd.lc0_ok (N : Nat) : LCOk (ref05_Gcd.cfg N) N (loopAt 0 Tryd.f164) (ref05_Gcd.lc0 N) := by
  intro R r st k h
  unfold ref05_Gcd.lc0 at h
  obtain ⟨e, m, rfl, h⟩ := tkSt_some h
  obtain ⟨x0, e, rfl, h⟩ := tkD_some h
  obtain ⟨x1, e, rfl, h⟩ := tkD_some h
  obtain ⟨x4, e, rfl, h⟩ := tkD_some h
  obtain ⟨rfl, h⟩ := tkN_some h
  obtain ⟨rfl, h⟩ := tkN_some h
  exact ⟨N, (ref05_Gcd.eq0 N x4 k N x0 x1).trans h⟩
theorem ref05_Gcd.ev (N : Nat) (a : ByteArray) (b : ByteArray) : evFunc (ref05_Gcd.cfg N) N Tryd.f164 [.v (dS.enc a), .v (dS.enc b)] [] 0 dS.dec = ref05_Gcd.f N a b := by kernel_rfl
theorem ref05_Gcd.hl (N : Nat) : ∀ body, Tryd.f164.body = some body → ∀ b ∈ loopsOf body, ∀ lc, lkL (firstReg b) (ref05_Gcd.cfg N).lp = some lc → LCOk (ref05_Gcd.cfg N) N b lc := by
  refine HL_of (ids := [1]) (by kernel_rfl) fun j lc hj h => ?_
  match j, hj, h with
    | 0, _, h => cases h; exact ref05_Gcd.lc0_ok N
    | j + 1, hj, _ => exact absurd hj (by simp)
theorem ref05_Gcd.cfg_ok (N : Nat) : CfgOk Tryd.prog (ref05_Gcd.cfg N) := mkCfg (.cons ref05_Div.ok .nil) _ _ _ _
theorem ref05_Gcd.ok : CTok Tryd.prog 164 ref05_Gcd.ct := CTok.of2 Tryd.call164 mix Tryd.func164 (Nat.le_of_ble_eq_true (by kernel_rfl)) (fun a b res hres _ _ => ⟨ref05_Gcd.cfg fuel, fuel, ref05_Gcd.cfg_ok fuel, ref05_Gcd.hl fuel, (ref05_Gcd.ev fuel a b).trans hres⟩)

def ref06_Make.cfg (_N : Nat) : Cfg := { T := tys, EQ := eqs, C := [(111, ref05_Low.ct), (114, ref05_May.ct), (143, ref05_Div.ct), (162, ref06_Null.ct), (163, ref05_Right.ct), (164, ref05_Gcd.ct)], lp := [], un := [], ks := [], keep := [0, 1, 2, 3, 8, 9, 10, 11, 12, 32, 35, 59, 84] }
theorem ref06_Make.ev (N : Nat) (neg : Bool) (num : ByteArray) (den : ByteArray) (exp : Int) : evFunc (ref06_Make.cfg N) N Tryd.f140 [.v (dB.enc neg), .v (dS.enc num), .v (dS.enc den), .v ((dI .i64).enc exp)] [] 0 (dT2 dExc (dI .i64)).dec = ref06_Make.g neg num den exp := by kernel_rfl
theorem ref06_Make.hl (N : Nat) : ∀ body, Tryd.f140.body = some body → ∀ b ∈ loopsOf body, ∀ lc, lkL (firstReg b) (ref06_Make.cfg N).lp = some lc → LCOk (ref06_Make.cfg N) N b lc := HL_nil rfl
theorem ref06_Make.cfg_ok (N : Nat) : CfgOk Tryd.prog (ref06_Make.cfg N) := mkCfg (.cons ref05_Low.ok (.cons ref05_May.ok (.cons ref05_Div.ok (.cons ref06_Null.ok (.cons ref05_Right.ok (.cons ref05_Gcd.ok .nil)))))) _ _ _ _
theorem ref06_Make.ok : CTok Tryd.prog 140 ref06_Make.ct := CTok.of4 Tryd.call140 mix Tryd.func140 (Nat.le_of_ble_eq_true (by kernel_rfl)) (fun neg num den exp res hres _ _ _ _ => ⟨ref06_Make.cfg fuel, fuel, ref06_Make.cfg_ok fuel, ref06_Make.hl fuel, (ref06_Make.ev fuel neg num den exp).trans hres⟩)

def ref05_OfWide.cfg (N : Nat) : Cfg := { T := tys, EQ := eqs, C := [(165, ref05_fit.ct)], lp := [(3, ref05_OfWide.lc0 N)], un := [], ks := [(3, [1, 2, 3, 4, 7])], keep := [0, 1, 2, 3, 4, 7] }
theorem ref05_OfWide.step0 {R : Type} (N : Nat) (x2 : ByteArray) (n3 : Nat) (c3 : Nat) (m0 : W6) (k : Ex → St → Option R) (n : Nat) (x4 : Int) (m2 : List Int) :
    loopN (evCode (ref05_OfWide.cfg N) N (loopAt 0 Tryd.f141)) [1, 2, 3, 4] 5 (n + 1) (ref05_OfWide.enc0 x2 n3 c3 x4 m2 m0) k = ref05_OfWide.b0 N x2 n3 c3 m0 (fun x4 m2 => loopN (evCode (ref05_OfWide.cfg N) N (loopAt 0 Tryd.f141)) [1, 2, 3, 4] 5 n (ref05_OfWide.enc0 x2 n3 c3 x4 m2 m0) k) (fun x4 m2 => k (.exit 0) (ref05_OfWide.enc0 x2 n3 c3 x4 m2 m0)) x4 m2 := by kernel_rfl
theorem ref05_OfWide.eq0 {R : Type} (N : Nat) (x2 : ByteArray) (n3 : Nat) (c3 : Nat) (m0 : W6) (k : Ex → St → Option R) : ∀ (n : Nat) (x4 : Int) (m2 : List Int), loopN (evCode (ref05_OfWide.cfg N) N (loopAt 0 Tryd.f141)) [1, 2, 3, 4] 5 n (ref05_OfWide.enc0 x2 n3 c3 x4 m2 m0) k = ref05_OfWide.l0 N x2 n3 c3 m0 (fun x4 m2 => k (.exit 0) (ref05_OfWide.enc0 x2 n3 c3 x4 m2 m0)) n x4 m2
  | 0, _, _ => rfl
  | n + 1, x4, m2 => (ref05_OfWide.step0 N x2 n3 c3 m0 k n x4 m2).trans (congrArg (fun self => ref05_OfWide.b0 N x2 n3 c3 m0 self (fun x4 m2 => k (.exit 0) (ref05_OfWide.enc0 x2 n3 c3 x4 m2 m0)) x4 m2) ((funext fun x4 => funext fun m2 => ref05_OfWide.eq0 N x2 n3 c3 m0 k n x4 m2)))
theorem ref05_OfWide.lc0_ok (N : Nat) : LCOk (ref05_OfWide.cfg N) N (loopAt 0 Tryd.f141) (ref05_OfWide.lc0 N) := by
  intro R r st k h
  unfold ref05_OfWide.lc0 at h
  obtain ⟨e, m, rfl, h⟩ := tkSt_some h
  obtain ⟨e, rfl, h⟩ := tkP_some h
  obtain ⟨x2, e, rfl, h⟩ := tkD_some h
  obtain ⟨n3, c3, e, rfl, h⟩ := tkS_some h
  obtain ⟨x4, e, rfl, h⟩ := tkD_some h
  obtain ⟨rfl, h⟩ := tkN_some h
  obtain ⟨m2, m, rfl, h⟩ := tkM_some h
  obtain ⟨m0, m, rfl, h⟩ := tkM_some h
  obtain ⟨rfl, h⟩ := tkN_some h
  exact ⟨N, (ref05_OfWide.eq0 N x2 n3 c3 m0 k N x4 m2).trans h⟩
theorem ref05_OfWide.ev (N : Nat) (w : W6) : evFunc (ref05_OfWide.cfg N) N Tryd.f141 [.v (dW.enc w)] [] 0 dS.dec = ref05_OfWide.f N w := by kernel_rfl
theorem ref05_OfWide.hl (N : Nat) : ∀ body, Tryd.f141.body = some body → ∀ b ∈ loopsOf body, ∀ lc, lkL (firstReg b) (ref05_OfWide.cfg N).lp = some lc → LCOk (ref05_OfWide.cfg N) N b lc := by
  refine HL_of (ids := [3]) (by kernel_rfl) fun j lc hj h => ?_
  match j, hj, h with
    | 0, _, h => cases h; exact ref05_OfWide.lc0_ok N
    | j + 1, hj, _ => exact absurd hj (by simp)
theorem ref05_OfWide.cfg_ok (N : Nat) : CfgOk Tryd.prog (ref05_OfWide.cfg N) := mkCfg (.cons ref05_fit.ok .nil) _ _ _ _
theorem ref05_OfWide.ok : CTok Tryd.prog 141 ref05_OfWide.ct := CTok.of1 Tryd.call141 mix Tryd.func141 (Nat.le_of_ble_eq_true (by kernel_rfl)) (fun w res hres _ => ⟨ref05_OfWide.cfg fuel, fuel, ref05_OfWide.cfg_ok fuel, ref05_OfWide.hl fuel, (ref05_OfWide.ev fuel w).trans hres⟩)

def ref08_Value.cfg (_N : Nat) : Cfg := { T := tys, EQ := eqs, C := [(53, ref08_Sign.ct), (139, ref08_Unpack.ct), (140, ref06_Make.ct), (141, ref05_OfWide.ct)], lp := [], un := [], ks := [], keep := [0, 1, 3, 4, 5, 6, 7, 13, 14] }
theorem ref08_Value.ev (N : Nat) (f : Int) (b : B2) : evFunc (ref08_Value.cfg N) N Tryd.f109 [.v ((dI .u8).enc f), .v (dBits.enc b)] [] 0 (dT2 dExc (dI .i64)).dec = ref08_Value.g f b := by kernel_rfl
theorem ref08_Value.hl (N : Nat) : ∀ body, Tryd.f109.body = some body → ∀ b ∈ loopsOf body, ∀ lc, lkL (firstReg b) (ref08_Value.cfg N).lp = some lc → LCOk (ref08_Value.cfg N) N b lc := HL_nil rfl
theorem ref08_Value.cfg_ok (N : Nat) : CfgOk Tryd.prog (ref08_Value.cfg N) := mkCfg (.cons ref08_Sign.ok (.cons ref08_Unpack.ok (.cons ref06_Make.ok (.cons ref05_OfWide.ok .nil)))) _ _ _ _
theorem ref08_Value.ok : CTok Tryd.prog 109 ref08_Value.ct := CTok.of2 Tryd.call109 mix Tryd.func109 (Nat.le_of_ble_eq_true (by kernel_rfl)) (fun f b res hres _ _ => ⟨ref08_Value.cfg fuel, fuel, ref08_Value.cfg_ok fuel, ref08_Value.hl fuel, (ref08_Value.ev fuel f b).trans hres⟩)

def ref05_Left.cfg (N : Nat) : Cfg := { T := tys, EQ := eqs, C := [(51, ref05_Len.ct), (116, ref05_at.ct), (165, ref05_fit.ct)], lp := [(9, ref05_Left.lc0 N)], un := [], ks := [(9, [0, 1, 4, 5, 6, 7, 8, 32])], keep := [0, 1, 4, 5, 6, 7, 8, 10, 12, 21, 32] }
theorem ref05_Left.step0 {R : Type} (N : Nat) (x0 : ByteArray) (x1 : Int) (x4 : ByteArray) (x5 : Int) (n6 : Nat) (c6 : Nat) (k : Ex → St → Option R) (n : Nat) (x7 : Int) (m21 : List Int) :
    loopN (evCode (ref05_Left.cfg N) N (loopAt 0 Tryd.f142)) [0, 1, 4, 5, 6, 7] 24 (n + 1) (ref05_Left.enc0 x0 x1 x4 x5 n6 c6 x7 m21) k = ref05_Left.b0 N x0 x1 x4 x5 n6 c6 (fun x7 m21 => loopN (evCode (ref05_Left.cfg N) N (loopAt 0 Tryd.f142)) [0, 1, 4, 5, 6, 7] 24 n (ref05_Left.enc0 x0 x1 x4 x5 n6 c6 x7 m21) k) (fun x7 m21 => k (.exit 0) (ref05_Left.enc0 x0 x1 x4 x5 n6 c6 x7 m21)) x7 m21 := by kernel_rfl
theorem ref05_Left.eq0 {R : Type} (N : Nat) (x0 : ByteArray) (x1 : Int) (x4 : ByteArray) (x5 : Int) (n6 : Nat) (c6 : Nat) (k : Ex → St → Option R) : ∀ (n : Nat) (x7 : Int) (m21 : List Int), loopN (evCode (ref05_Left.cfg N) N (loopAt 0 Tryd.f142)) [0, 1, 4, 5, 6, 7] 24 n (ref05_Left.enc0 x0 x1 x4 x5 n6 c6 x7 m21) k = ref05_Left.l0 N x0 x1 x4 x5 n6 c6 (fun x7 m21 => k (.exit 0) (ref05_Left.enc0 x0 x1 x4 x5 n6 c6 x7 m21)) n x7 m21
  | 0, _, _ => rfl
  | n + 1, x7, m21 => (ref05_Left.step0 N x0 x1 x4 x5 n6 c6 k n x7 m21).trans (congrArg (fun self => ref05_Left.b0 N x0 x1 x4 x5 n6 c6 self (fun x7 m21 => k (.exit 0) (ref05_Left.enc0 x0 x1 x4 x5 n6 c6 x7 m21)) x7 m21) ((funext fun x7 => funext fun m21 => ref05_Left.eq0 N x0 x1 x4 x5 n6 c6 k n x7 m21)))
theorem ref05_Left.lc0_ok (N : Nat) : LCOk (ref05_Left.cfg N) N (loopAt 0 Tryd.f142) (ref05_Left.lc0 N) := by
  intro R r st k h
  unfold ref05_Left.lc0 at h
  obtain ⟨e, m, rfl, h⟩ := tkSt_some h
  obtain ⟨x0, e, rfl, h⟩ := tkD_some h
  obtain ⟨x1, e, rfl, h⟩ := tkD_some h
  obtain ⟨x4, e, rfl, h⟩ := tkD_some h
  obtain ⟨x5, e, rfl, h⟩ := tkD_some h
  obtain ⟨n6, c6, e, rfl, h⟩ := tkS_some h
  obtain ⟨x7, e, rfl, h⟩ := tkD_some h
  obtain ⟨rfl, h⟩ := tkN_some h
  obtain ⟨m21, m, rfl, h⟩ := tkM_some h
  obtain ⟨rfl, h⟩ := tkN_some h
  exact ⟨N, (ref05_Left.eq0 N x0 x1 x4 x5 n6 c6 k N x7 m21).trans h⟩
theorem ref05_Left.ev (N : Nat) (a : ByteArray) (n : Int) : evFunc (ref05_Left.cfg N) N Tryd.f142 [.v (dS.enc a), .v ((dI .i64).enc n)] [] 0 (dT2 dS (dI .i64)).dec = ref05_Left.f N a n := by kernel_rfl
theorem ref05_Left.hl (N : Nat) : ∀ body, Tryd.f142.body = some body → ∀ b ∈ loopsOf body, ∀ lc, lkL (firstReg b) (ref05_Left.cfg N).lp = some lc → LCOk (ref05_Left.cfg N) N b lc := by
  refine HL_of (ids := [9]) (by kernel_rfl) fun j lc hj h => ?_
  match j, hj, h with
    | 0, _, h => cases h; exact ref05_Left.lc0_ok N
    | j + 1, hj, _ => exact absurd hj (by simp)
theorem ref05_Left.cfg_ok (N : Nat) : CfgOk Tryd.prog (ref05_Left.cfg N) := mkCfg (.cons ref05_Len.ok (.cons ref05_at.ok (.cons ref05_fit.ok .nil))) _ _ _ _
theorem ref05_Left.ok : CTok Tryd.prog 142 ref05_Left.ct := CTok.of2 Tryd.call142 mix Tryd.func142 (Nat.le_of_ble_eq_true (by kernel_rfl)) (fun a n res hres _ _ => ⟨ref05_Left.cfg fuel, fuel, ref05_Left.cfg_ok fuel, ref05_Left.hl fuel, (ref05_Left.ev fuel a n).trans hres⟩)

def ref06_shifted.cfg (_N : Nat) : Cfg := { T := tys, EQ := eqs, C := [(142, ref05_Left.ct)], lp := [], un := [], ks := [], keep := [0, 1, 4, 5] }
theorem ref06_shifted.ev (N : Nat) (a : ByteArray) (n : Int) : evFunc (ref06_shifted.cfg N) N Tryd.f170 [.v (dS.enc a), .v ((dI .i64).enc n)] [] 0 dS.dec = ref06_shifted.g a n := by kernel_rfl
theorem ref06_shifted.hl (N : Nat) : ∀ body, Tryd.f170.body = some body → ∀ b ∈ loopsOf body, ∀ lc, lkL (firstReg b) (ref06_shifted.cfg N).lp = some lc → LCOk (ref06_shifted.cfg N) N b lc := HL_nil rfl
theorem ref06_shifted.cfg_ok (N : Nat) : CfgOk Tryd.prog (ref06_shifted.cfg N) := mkCfg (.cons ref05_Left.ok .nil) _ _ _ _
theorem ref06_shifted.ok : CTok Tryd.prog 170 ref06_shifted.ct := CTok.of2 Tryd.call170 mix Tryd.func170 (Nat.le_of_ble_eq_true (by kernel_rfl)) (fun a n res hres _ _ => ⟨ref06_shifted.cfg fuel, fuel, ref06_shifted.cfg_ok fuel, ref06_shifted.hl fuel, (ref06_shifted.ev fuel a n).trans hres⟩)

def ref06_Top.cfg (_N : Nat) : Cfg := { T := tys, EQ := eqs, C := [(51, ref05_Len.ct), (166, ref05_Cmp.ct), (170, ref06_shifted.ct)], lp := [], un := [], ks := [], keep := [0, 1, 2, 3, 4, 5, 6, 7, 8, 9, 12, 23, 40] }
theorem ref06_Top.ev (N : Nat) (x : Exc) : evFunc (ref06_Top.cfg N) N Tryd.f144 [.v (dExc.enc x)] [] 0 (dT2 (dI .i64) (dI .i64)).dec = ref06_Top.g x := by kernel_rfl
theorem ref06_Top.hl (N : Nat) : ∀ body, Tryd.f144.body = some body → ∀ b ∈ loopsOf body, ∀ lc, lkL (firstReg b) (ref06_Top.cfg N).lp = some lc → LCOk (ref06_Top.cfg N) N b lc := HL_nil rfl
theorem ref06_Top.cfg_ok (N : Nat) : CfgOk Tryd.prog (ref06_Top.cfg N) := mkCfg (.cons ref05_Len.ok (.cons ref05_Cmp.ok (.cons ref06_shifted.ok .nil))) _ _ _ _
theorem ref06_Top.ok : CTok Tryd.prog 144 ref06_Top.ct := CTok.of1 Tryd.call144 mix Tryd.func144 (Nat.le_of_ble_eq_true (by kernel_rfl)) (fun x res hres _ => ⟨ref06_Top.cfg fuel, fuel, ref06_Top.cfg_ok fuel, ref06_Top.hl fuel, (ref06_Top.ev fuel x).trans hres⟩)

def ref06_Floor.cfg (_N : Nat) : Cfg := { T := tys, EQ := eqs, C := [(142, ref05_Left.ct), (143, ref05_Div.ct), (144, ref06_Top.ct)], lp := [], un := [], ks := [], keep := [0, 1, 2, 4, 5, 6, 7, 8, 9, 10, 11, 12, 14, 16, 17, 24, 27, 35, 46, 64] }
theorem ref06_Floor.ev (N : Nat) (x : Exc) (e_ : Int) : evFunc (ref06_Floor.cfg N) N Tryd.f110 [.v (dExc.enc x), .v ((dI .i64).enc e_)] [] 0 (dT3 dS dB (dI .i64)).dec = ref06_Floor.g x e_ := by kernel_rfl
theorem ref06_Floor.hl (N : Nat) : ∀ body, Tryd.f110.body = some body → ∀ b ∈ loopsOf body, ∀ lc, lkL (firstReg b) (ref06_Floor.cfg N).lp = some lc → LCOk (ref06_Floor.cfg N) N b lc := HL_nil rfl
theorem ref06_Floor.cfg_ok (N : Nat) : CfgOk Tryd.prog (ref06_Floor.cfg N) := mkCfg (.cons ref05_Left.ok (.cons ref05_Div.ok (.cons ref06_Top.ok .nil))) _ _ _ _
theorem ref06_Floor.ok : CTok Tryd.prog 110 ref06_Floor.ct := CTok.of2 Tryd.call110 mix Tryd.func110 (Nat.le_of_ble_eq_true (by kernel_rfl)) (fun x e_ res hres _ _ => ⟨ref06_Floor.cfg fuel, fuel, ref06_Floor.cfg_ok fuel, ref06_Floor.hl fuel, (ref06_Floor.ev fuel x e_).trans hres⟩)

def ref05_long.cfg (_N : Nat) : Cfg := { T := tys, EQ := eqs, C := [], lp := [], un := [], ks := [], keep := [0, 2, 3, 6] }
theorem ref05_long.ev (N : Nat) (s : ByteArray) : evFunc (ref05_long.cfg N) N Tryd.f146 [.v (dS.enc s)] [] 0 (dT2 dS (dI .i64)).dec = ref05_long.g s := by kernel_rfl
theorem ref05_long.hl (N : Nat) : ∀ body, Tryd.f146.body = some body → ∀ b ∈ loopsOf body, ∀ lc, lkL (firstReg b) (ref05_long.cfg N).lp = some lc → LCOk (ref05_long.cfg N) N b lc := HL_nil rfl
theorem ref05_long.cfg_ok (N : Nat) : CfgOk Tryd.prog (ref05_long.cfg N) := mkCfg .nil _ _ _ _
theorem ref05_long.ok : CTok Tryd.prog 146 ref05_long.ct := CTok.of1 Tryd.call146 mix Tryd.func146 (Nat.le_of_ble_eq_true (by kernel_rfl)) (fun s res hres _ => ⟨ref05_long.cfg fuel, fuel, ref05_long.cfg_ok fuel, ref05_long.hl fuel, (ref05_long.ev fuel s).trans hres⟩)

def ref05_add.cfg (N : Nat) : Cfg := { T := tys, EQ := eqs, C := [(116, ref05_at.ct), (165, ref05_fit.ct)], lp := [(7, ref05_add.lc0 N)], un := [], ks := [(7, [0, 1, 4, 5, 6, 7, 8, 22])], keep := [0, 1, 4, 5, 6, 7, 8, 14, 22] }
theorem ref05_add.step0 {R : Type} (N : Nat) (x0 : ByteArray) (x1 : ByteArray) (x4 : ByteArray) (x5 : Int) (n6 : Nat) (c6 : Nat) (k : Ex → St → Option R) (n : Nat) (x7 : Int) (x8 : Int) (m13 : List Int) :
    loopN (evCode (ref05_add.cfg N) N (loopAt 0 Tryd.f147)) [0, 1, 4, 5, 6, 7, 8] 17 (n + 1) (ref05_add.enc0 x0 x1 x4 x5 n6 c6 x7 x8 m13) k = ref05_add.b0 N x0 x1 x4 x5 n6 c6 (fun x7 x8 m13 => loopN (evCode (ref05_add.cfg N) N (loopAt 0 Tryd.f147)) [0, 1, 4, 5, 6, 7, 8] 17 n (ref05_add.enc0 x0 x1 x4 x5 n6 c6 x7 x8 m13) k) (fun x7 x8 m13 => k (.exit 0) (ref05_add.enc0 x0 x1 x4 x5 n6 c6 x7 x8 m13)) x7 x8 m13 := by kernel_rfl
theorem ref05_add.eq0 {R : Type} (N : Nat) (x0 : ByteArray) (x1 : ByteArray) (x4 : ByteArray) (x5 : Int) (n6 : Nat) (c6 : Nat) (k : Ex → St → Option R) : ∀ (n : Nat) (x7 : Int) (x8 : Int) (m13 : List Int), loopN (evCode (ref05_add.cfg N) N (loopAt 0 Tryd.f147)) [0, 1, 4, 5, 6, 7, 8] 17 n (ref05_add.enc0 x0 x1 x4 x5 n6 c6 x7 x8 m13) k = ref05_add.l0 N x0 x1 x4 x5 n6 c6 (fun x7 x8 m13 => k (.exit 0) (ref05_add.enc0 x0 x1 x4 x5 n6 c6 x7 x8 m13)) n x7 x8 m13
  | 0, _, _, _ => rfl
  | n + 1, x7, x8, m13 => (ref05_add.step0 N x0 x1 x4 x5 n6 c6 k n x7 x8 m13).trans (congrArg (fun self => ref05_add.b0 N x0 x1 x4 x5 n6 c6 self (fun x7 x8 m13 => k (.exit 0) (ref05_add.enc0 x0 x1 x4 x5 n6 c6 x7 x8 m13)) x7 x8 m13) ((funext fun x7 => funext fun x8 => funext fun m13 => ref05_add.eq0 N x0 x1 x4 x5 n6 c6 k n x7 x8 m13)))
theorem ref05_add.lca_ok (N : Nat) : LCOk (ref05_add.cfg N) N (loopAt 0 Tryd.f147) (ref05_add.lca N) := by
  intro R r st k h
  unfold ref05_add.lca at h
  obtain ⟨e, m, rfl, h⟩ := tkSt_some h
  obtain ⟨x0, e, rfl, h⟩ := tkD_some h
  obtain ⟨x1, e, rfl, h⟩ := tkD_some h
  obtain ⟨x4, e, rfl, h⟩ := tkD_some h
  obtain ⟨x5, e, rfl, h⟩ := tkD_some h
  obtain ⟨n6, c6, e, rfl, h⟩ := tkS_some h
  obtain ⟨x7, e, rfl, h⟩ := tkD_some h
  obtain ⟨x8, e, rfl, h⟩ := tkD_some h
  obtain ⟨rfl, h⟩ := tkN_some h
  obtain ⟨m13, m, rfl, h⟩ := tkM_some h
  obtain ⟨rfl, h⟩ := tkN_some h
  exact ⟨N, (ref05_add.eq0 N x0 x1 x4 x5 n6 c6 k N x7 x8 m13).trans h⟩
theorem ref05_add.step0b {R : Type} (N : Nat) (x0 : ByteArray) (x1 : ByteArray) (x4 : ByteArray) (x5 : Int) (n6 : Nat) (c6 : Nat) (k : Ex → St → Option R) (n : Nat) (x7 : Int) (x8 : Int) (m13 : List Int) :
    loopN (evCode (ref05_add.cfg N) N (loopAt 0 Tryd.f147)) [0, 1, 4, 5, 6, 7, 8] 14 (n + 1) (ref05_add.enc0b x0 x1 x4 x5 n6 c6 x7 x8 m13) k = ref05_add.b0 N x0 x1 x4 x5 n6 c6 (fun x7 x8 m13 => loopN (evCode (ref05_add.cfg N) N (loopAt 0 Tryd.f147)) [0, 1, 4, 5, 6, 7, 8] 14 n (ref05_add.enc0b x0 x1 x4 x5 n6 c6 x7 x8 m13) k) (fun x7 x8 m13 => k (.exit 0) (ref05_add.enc0b x0 x1 x4 x5 n6 c6 x7 x8 m13)) x7 x8 m13 := by kernel_rfl
theorem ref05_add.eq0b {R : Type} (N : Nat) (x0 : ByteArray) (x1 : ByteArray) (x4 : ByteArray) (x5 : Int) (n6 : Nat) (c6 : Nat) (k : Ex → St → Option R) : ∀ (n : Nat) (x7 : Int) (x8 : Int) (m13 : List Int), loopN (evCode (ref05_add.cfg N) N (loopAt 0 Tryd.f147)) [0, 1, 4, 5, 6, 7, 8] 14 n (ref05_add.enc0b x0 x1 x4 x5 n6 c6 x7 x8 m13) k = ref05_add.l0 N x0 x1 x4 x5 n6 c6 (fun x7 x8 m13 => k (.exit 0) (ref05_add.enc0b x0 x1 x4 x5 n6 c6 x7 x8 m13)) n x7 x8 m13
  | 0, _, _, _ => rfl
  | n + 1, x7, x8, m13 => (ref05_add.step0b N x0 x1 x4 x5 n6 c6 k n x7 x8 m13).trans (congrArg (fun self => ref05_add.b0 N x0 x1 x4 x5 n6 c6 self (fun x7 x8 m13 => k (.exit 0) (ref05_add.enc0b x0 x1 x4 x5 n6 c6 x7 x8 m13)) x7 x8 m13) ((funext fun x7 => funext fun x8 => funext fun m13 => ref05_add.eq0b N x0 x1 x4 x5 n6 c6 k n x7 x8 m13)))
theorem ref05_add.lcb_ok (N : Nat) : LCOk (ref05_add.cfg N) N (loopAt 0 Tryd.f147) (ref05_add.lcb N) := by
  intro R r st k h
  unfold ref05_add.lcb at h
  obtain ⟨e, m, rfl, h⟩ := tkSt_some h
  obtain ⟨x0, e, rfl, h⟩ := tkD_some h
  obtain ⟨x1, e, rfl, h⟩ := tkD_some h
  obtain ⟨x4, e, rfl, h⟩ := tkD_some h
  obtain ⟨x5, e, rfl, h⟩ := tkD_some h
  obtain ⟨n6, c6, e, rfl, h⟩ := tkS_some h
  obtain ⟨x7, e, rfl, h⟩ := tkD_some h
  obtain ⟨x8, e, rfl, h⟩ := tkD_some h
  obtain ⟨rfl, h⟩ := tkN_some h
  obtain ⟨m13, m, rfl, h⟩ := tkM_some h
  obtain ⟨rfl, h⟩ := tkN_some h
  exact ⟨N, (ref05_add.eq0b N x0 x1 x4 x5 n6 c6 k N x7 x8 m13).trans h⟩
theorem ref05_add.lc0_ok (N : Nat) : LCOk (ref05_add.cfg N) N (loopAt 0 Tryd.f147) (ref05_add.lc0 N) := by
  intro R r st k h
  unfold ref05_add.lc0 at h
  cases hb : Nat.beq st.nx 17 with
  | true => rw [hb] at h; exact ref05_add.lca_ok N R r st k h
  | false => rw [hb] at h; exact ref05_add.lcb_ok N R r st k h
theorem ref05_add.ev (N : Nat) (a : ByteArray) (b : ByteArray) : evFunc (ref05_add.cfg N) N Tryd.f147 [.v (dS.enc a), .v (dS.enc b)] [] 0 dS.dec = ref05_add.f N a b := by kernel_rfl
theorem ref05_add.hl (N : Nat) : ∀ body, Tryd.f147.body = some body → ∀ b ∈ loopsOf body, ∀ lc, lkL (firstReg b) (ref05_add.cfg N).lp = some lc → LCOk (ref05_add.cfg N) N b lc := by
  refine HL_of (ids := [7]) (by kernel_rfl) fun j lc hj h => ?_
  match j, hj, h with
    | 0, _, h => cases h; exact ref05_add.lc0_ok N
    | j + 1, hj, _ => exact absurd hj (by simp)
theorem ref05_add.cfg_ok (N : Nat) : CfgOk Tryd.prog (ref05_add.cfg N) := mkCfg (.cons ref05_at.ok (.cons ref05_fit.ok .nil)) _ _ _ _
theorem ref05_add.ok : CTok Tryd.prog 147 ref05_add.ct := CTok.of2 Tryd.call147 mix Tryd.func147 (Nat.le_of_ble_eq_true (by kernel_rfl)) (fun a b res hres _ _ => ⟨ref05_add.cfg fuel, fuel, ref05_add.cfg_ok fuel, ref05_add.hl fuel, (ref05_add.ev fuel a b).trans hres⟩)

def ref05_Add.cfg (_N : Nat) : Cfg := { T := tys, EQ := eqs, C := [(146, ref05_long.ct), (147, ref05_add.ct)], lp := [], un := [], ks := [], keep := [0, 1, 4, 5] }
theorem ref05_Add.ev (N : Nat) (a : ByteArray) (b : ByteArray) : evFunc (ref05_Add.cfg N) N Tryd.f113 [.v (dS.enc a), .v (dS.enc b)] [] 0 (dT2 dS (dI .i64)).dec = ref05_Add.g a b := by kernel_rfl
theorem ref05_Add.hl (N : Nat) : ∀ body, Tryd.f113.body = some body → ∀ b ∈ loopsOf body, ∀ lc, lkL (firstReg b) (ref05_Add.cfg N).lp = some lc → LCOk (ref05_Add.cfg N) N b lc := HL_nil rfl
theorem ref05_Add.cfg_ok (N : Nat) : CfgOk Tryd.prog (ref05_Add.cfg N) := mkCfg (.cons ref05_long.ok (.cons ref05_add.ok .nil)) _ _ _ _
theorem ref05_Add.ok : CTok Tryd.prog 113 ref05_Add.ct := CTok.of2 Tryd.call113 mix Tryd.func113 (Nat.le_of_ble_eq_true (by kernel_rfl)) (fun a b res hres _ _ => ⟨ref05_Add.cfg fuel, fuel, ref05_Add.cfg_ok fuel, ref05_Add.hl fuel, (ref05_Add.ev fuel a b).trans hres⟩)

def ref05_ToWide.cfg (N : Nat) : Cfg := { T := tys, EQ := eqs, C := [(114, ref05_May.ct), (116, ref05_at.ct)], lp := [(5, ref05_ToWide.lc0 N)], un := [], ks := [(5, [0, 2, 3, 4, 5, 18])], keep := [0, 2, 3, 4, 5, 13, 18] }
theorem ref05_ToWide.step0 {R : Type} (N : Nat) (x0 : ByteArray) (x3 : Bool) (m0 : W6) (k : Ex → St → Option R) (n : Nat) (x5 : Int) (m2 : W6) :
    loopN (evCode (ref05_ToWide.cfg N) N (loopAt 0 Tryd.f52)) [0, 2, 3, 4, 5] 12 (n + 1) (ref05_ToWide.enc0 x0 x3 x5 m2 m0) k = ref05_ToWide.b0 N x0 x3 m0 (fun x5 m2 => loopN (evCode (ref05_ToWide.cfg N) N (loopAt 0 Tryd.f52)) [0, 2, 3, 4, 5] 12 n (ref05_ToWide.enc0 x0 x3 x5 m2 m0) k) (fun x5 m2 => k (.exit 0) (ref05_ToWide.enc0 x0 x3 x5 m2 m0)) x5 m2 := by kernel_rfl
theorem ref05_ToWide.eq0 {R : Type} (N : Nat) (x0 : ByteArray) (x3 : Bool) (m0 : W6) (k : Ex → St → Option R) : ∀ (n : Nat) (x5 : Int) (m2 : W6), loopN (evCode (ref05_ToWide.cfg N) N (loopAt 0 Tryd.f52)) [0, 2, 3, 4, 5] 12 n (ref05_ToWide.enc0 x0 x3 x5 m2 m0) k = ref05_ToWide.l0 N x0 x3 m0 (fun x5 m2 => k (.exit 0) (ref05_ToWide.enc0 x0 x3 x5 m2 m0)) n x5 m2
  | 0, _, _ => rfl
  | n + 1, x5, m2 => (ref05_ToWide.step0 N x0 x3 m0 k n x5 m2).trans (congrArg (fun self => ref05_ToWide.b0 N x0 x3 m0 self (fun x5 m2 => k (.exit 0) (ref05_ToWide.enc0 x0 x3 x5 m2 m0)) x5 m2) ((funext fun x5 => funext fun m2 => ref05_ToWide.eq0 N x0 x3 m0 k n x5 m2)))
theorem ref05_ToWide.lc0_ok (N : Nat) : LCOk (ref05_ToWide.cfg N) N (loopAt 0 Tryd.f52) (ref05_ToWide.lc0 N) := by
  intro R r st k h
  unfold ref05_ToWide.lc0 at h
  obtain ⟨e, m, rfl, h⟩ := tkSt_some h
  obtain ⟨x0, e, rfl, h⟩ := tkD_some h
  obtain ⟨e, rfl, h⟩ := tkP_some h
  obtain ⟨x3, e, rfl, h⟩ := tkD_some h
  obtain ⟨e, rfl, h⟩ := tkP_some h
  obtain ⟨x5, e, rfl, h⟩ := tkD_some h
  obtain ⟨rfl, h⟩ := tkN_some h
  obtain ⟨m2, m, rfl, h⟩ := tkM_some h
  obtain ⟨m0, m, rfl, h⟩ := tkM_some h
  obtain ⟨rfl, h⟩ := tkN_some h
  exact ⟨N, (ref05_ToWide.eq0 N x0 x3 m0 k N x5 m2).trans h⟩
theorem ref05_ToWide.ev (N : Nat) (a : ByteArray) : evFunc (ref05_ToWide.cfg N) N Tryd.f52 [.v (dS.enc a)] [] 0 (dT2 dW dB).dec = ref05_ToWide.f N a := by kernel_rfl
theorem ref05_ToWide.hl (N : Nat) : ∀ body, Tryd.f52.body = some body → ∀ b ∈ loopsOf body, ∀ lc, lkL (firstReg b) (ref05_ToWide.cfg N).lp = some lc → LCOk (ref05_ToWide.cfg N) N b lc := by
  refine HL_of (ids := [5]) (by kernel_rfl) fun j lc hj h => ?_
  match j, hj, h with
    | 0, _, h => cases h; exact ref05_ToWide.lc0_ok N
    | j + 1, hj, _ => exact absurd hj (by simp)
theorem ref05_ToWide.cfg_ok (N : Nat) : CfgOk Tryd.prog (ref05_ToWide.cfg N) := mkCfg (.cons ref05_May.ok (.cons ref05_at.ok .nil)) _ _ _ _
theorem ref05_ToWide.ok : CTok Tryd.prog 52 ref05_ToWide.ct := CTok.of1 Tryd.call52 mix Tryd.func52 (Nat.le_of_ble_eq_true (by kernel_rfl)) (fun a res hres _ => ⟨ref05_ToWide.cfg fuel, fuel, ref05_ToWide.cfg_ok fuel, ref05_ToWide.hl fuel, (ref05_ToWide.ev fuel a).trans hres⟩)

end
end Go.Proofs.YtnfbcofieobkkaaDoor
