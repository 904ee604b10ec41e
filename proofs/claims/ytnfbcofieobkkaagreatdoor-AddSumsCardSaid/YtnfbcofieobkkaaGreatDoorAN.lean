/- Printed by a program: the contracts of Go functions. -/
import Derived.Test.YtnfbcofieobkkaaGreatDoorPN
import Derived.Test.YtnfbcofieobkkaaGreatDoorAS
namespace Go.Proofs.YtnfbcofieobkkaaGreatDoor
open Go Go.Proofs Ev
set_option linter.unusedVariables false
set_option linter.unusedSimpArgs false
noncomputable section

def ref05_May.cfg (_N : Nat) : Cfg := { T := tys, EQ := eqs, C := [], lp := [], un := [], ks := [], keep := [0, 2] }
theorem ref05_May.ev (N : Nat) (a : ByteArray) : evFunc (ref05_May.cfg N) N Tryz.f165 [.v (dS.enc a)] [] 0 dB.dec = ref05_May.g a := by kernel_rfl
theorem ref05_May.hl (N : Nat) : ∀ body, Tryz.f165.body = some body → ∀ b ∈ loopsOf body, ∀ lc, lkL (firstReg b) (ref05_May.cfg N).lp = some lc → LCOk (ref05_May.cfg N) N b lc := HL_nil rfl
theorem ref05_May.cfg_ok (N : Nat) : CfgOk Tryz.prog (ref05_May.cfg N) := mkCfg .nil _ _ _ _
theorem ref05_May.ok : CTok Tryz.prog 165 ref05_May.ct := CTok.of1 Tryz.call165 mix Tryz.func165 (Nat.le_of_ble_eq_true (by kernel_rfl)) (fun a res hres _ => ⟨ref05_May.cfg fuel, fuel, ref05_May.cfg_ok fuel, ref05_May.hl fuel, (ref05_May.ev fuel a).trans hres⟩)

def ref05_at.cfg (_N : Nat) : Cfg := { T := tys, EQ := eqs, C := [], lp := [], un := [], ks := [], keep := [0, 1, 4, 8] }
theorem ref05_at.ev (N : Nat) (a : ByteArray) (i : Int) : evFunc (ref05_at.cfg N) N Tryz.f166 [.v (dS.enc a), .v ((dI .i64).enc i)] [] 0 (dI .i64).dec = ref05_at.g a i := by kernel_rfl
theorem ref05_at.hl (N : Nat) : ∀ body, Tryz.f166.body = some body → ∀ b ∈ loopsOf body, ∀ lc, lkL (firstReg b) (ref05_at.cfg N).lp = some lc → LCOk (ref05_at.cfg N) N b lc := HL_nil rfl
theorem ref05_at.cfg_ok (N : Nat) : CfgOk Tryz.prog (ref05_at.cfg N) := mkCfg .nil _ _ _ _
theorem ref05_at.ok : CTok Tryz.prog 166 ref05_at.ct := CTok.of2 Tryz.call166 mix Tryz.func166 (Nat.le_of_ble_eq_true (by kernel_rfl)) (fun a i res hres _ _ => ⟨ref05_at.cfg fuel, fuel, ref05_at.cfg_ok fuel, ref05_at.hl fuel, (ref05_at.ev fuel a i).trans hres⟩)

def ref05_Low.cfg (N : Nat) : Cfg := { T := tys, EQ := eqs, C := [(165, ref05_May.ct), (166, ref05_at.ct), (222, ref01_Low.ct)], lp := [(4, ref05_Low.lc0 N)], un := [], ks := [(4, [0, 2, 3, 10, 16])], keep := [0, 2, 3, 6, 10, 16] }
theorem ref05_Low.step0 {R : Type} (N : Nat) (x0 : ByteArray) (k : Ex → St → Option R) (n : Nat) (x2 : Int) (x3 : Int) :
    loopN (evCode (ref05_Low.cfg N) N (loopAt 0 Tryz.f161)) [0, 2, 3] 5 (n + 1) (ref05_Low.enc0 x0 x2 x3) k = ref05_Low.b0 N x0 (fun x2 x3 => loopN (evCode (ref05_Low.cfg N) N (loopAt 0 Tryz.f161)) [0, 2, 3] 5 n (ref05_Low.enc0 x0 x2 x3) k) (fun x2 x3 => k .ret (ref05_Low.enc0 x0 x2 x3)) (fun x2 x3 => k (.exit 0) (ref05_Low.enc0 x0 x2 x3)) x2 x3 := by kernel_rfl
theorem ref05_Low.eq0 {R : Type} (N : Nat) (x0 : ByteArray) (k : Ex → St → Option R) : ∀ (n : Nat) (x2 : Int) (x3 : Int), loopN (evCode (ref05_Low.cfg N) N (loopAt 0 Tryz.f161)) [0, 2, 3] 5 n (ref05_Low.enc0 x0 x2 x3) k = ref05_Low.l0 N x0 (fun x2 x3 => k .ret (ref05_Low.enc0 x0 x2 x3)) (fun x2 x3 => k (.exit 0) (ref05_Low.enc0 x0 x2 x3)) n x2 x3
  | 0, _, _ => rfl
  | n + 1, x2, x3 => (ref05_Low.step0 N x0 k n x2 x3).trans (congrArg (fun self => ref05_Low.b0 N x0 self (fun x2 x3 => k .ret (ref05_Low.enc0 x0 x2 x3)) (fun x2 x3 => k (.exit 0) (ref05_Low.enc0 x0 x2 x3)) x2 x3) ((funext fun x2 => funext fun x3 => ref05_Low.eq0 N x0 k n x2 x3)))
theorem ref05_Low.lc0_ok (N : Nat) : LCOk (ref05_Low.cfg N) N (loopAt 0 Tryz.f161) (ref05_Low.lc0 N) := by
  intro R r st k h
  unfold ref05_Low.lc0 at h
  obtain ⟨e, m, rfl, h⟩ := tkSt_some h
  obtain ⟨x0, e, rfl, h⟩ := tkD_some h
  obtain ⟨x2, e, rfl, h⟩ := tkD_some h
  obtain ⟨x3, e, rfl, h⟩ := tkD_some h
  obtain ⟨rfl, h⟩ := tkN_some h
  obtain ⟨rfl, h⟩ := tkN_some h
  exact ⟨N, (ref05_Low.eq0 N x0 k N x2 x3).trans h⟩
theorem ref05_Low.ev (N : Nat) (a : ByteArray) : evFunc (ref05_Low.cfg N) N Tryz.f161 [.v (dS.enc a)] [] 0 (dI .i64).dec = ref05_Low.f N a := by kernel_rfl
theorem ref05_Low.hl (N : Nat) : ∀ body, Tryz.f161.body = some body → ∀ b ∈ loopsOf body, ∀ lc, lkL (firstReg b) (ref05_Low.cfg N).lp = some lc → LCOk (ref05_Low.cfg N) N b lc := by
  refine HL_of (ids := [4]) (by kernel_rfl) fun j lc hj h => ?_
  match j, hj, h with
    | 0, _, h => cases h; exact ref05_Low.lc0_ok N
    | j + 1, hj, _ => exact absurd hj (by simp)
theorem ref05_Low.cfg_ok (N : Nat) : CfgOk Tryz.prog (ref05_Low.cfg N) := mkCfg (.cons ref05_May.ok (.cons ref05_at.ok (.cons ref01_Low.ok .nil))) _ _ _ _
theorem ref05_Low.ok : CTok Tryz.prog 161 ref05_Low.ct := CTok.of1 Tryz.call161 mix Tryz.func161 (Nat.le_of_ble_eq_true (by kernel_rfl)) (fun a res hres _ => ⟨ref05_Low.cfg fuel, fuel, ref05_Low.cfg_ok fuel, ref05_Low.hl fuel, (ref05_Low.ev fuel a).trans hres⟩)

def ref06_Null.cfg (_N : Nat) : Cfg := { T := tys, EQ := eqs, C := [], lp := [], un := [], ks := [], keep := [0] }
theorem ref06_Null.ev (N : Nat)  : evFunc (ref06_Null.cfg N) N Tryz.f177 [] [] 0 dExc.dec = ref06_Null.g  := by kernel_rfl
theorem ref06_Null.hl (N : Nat) : ∀ body, Tryz.f177.body = some body → ∀ b ∈ loopsOf body, ∀ lc, lkL (firstReg b) (ref06_Null.cfg N).lp = some lc → LCOk (ref06_Null.cfg N) N b lc := HL_nil rfl
theorem ref06_Null.cfg_ok (N : Nat) : CfgOk Tryz.prog (ref06_Null.cfg N) := mkCfg .nil _ _ _ _
theorem ref06_Null.ok : CTok Tryz.prog 177 ref06_Null.ct := CTok.of0 Tryz.call177 mix Tryz.func177 (Nat.le_of_ble_eq_true (by kernel_rfl)) (fun  res hres  => ⟨ref06_Null.cfg fuel, fuel, ref06_Null.cfg_ok fuel, ref06_Null.hl fuel, (ref06_Null.ev fuel ).trans hres⟩)

def ref05_fit.cfg (N : Nat) : Cfg := { T := tys, EQ := eqs, C := [], lp := [(2, ref05_fit.lc0 N), (6, ref05_fit.lc1 N)], un := [], ks := [(2, [0, 2, 3, 4, 5, 17, 24]), (6, [0, 2, 3, 4, 5, 24])], keep := [0, 2, 3, 4, 5, 17, 24] }
theorem ref05_fit.step0 {R : Type} (N : Nat) (n0 : Nat) (c0 : Nat) (x2 : ByteArray) (m0 : List Int) (k : Ex → St → Option R) (n : Nat) (x3 : Int) :
    loopN (evCode (ref05_fit.cfg N) N (loopAt 0 Tryz.f164)) [0, 2, 3] 5 (n + 1) (ref05_fit.enc0 n0 c0 x2 x3 m0) k = ref05_fit.b0 N n0 c0 x2 m0 (fun x3 => loopN (evCode (ref05_fit.cfg N) N (loopAt 0 Tryz.f164)) [0, 2, 3] 5 n (ref05_fit.enc0 n0 c0 x2 x3 m0) k) (fun x3 => k (.exit 0) (ref05_fit.enc0 n0 c0 x2 x3 m0)) x3 := by kernel_rfl
theorem ref05_fit.eq0 {R : Type} (N : Nat) (n0 : Nat) (c0 : Nat) (x2 : ByteArray) (m0 : List Int) (k : Ex → St → Option R) : ∀ (n : Nat) (x3 : Int), loopN (evCode (ref05_fit.cfg N) N (loopAt 0 Tryz.f164)) [0, 2, 3] 5 n (ref05_fit.enc0 n0 c0 x2 x3 m0) k = ref05_fit.l0 N n0 c0 x2 m0 (fun x3 => k (.exit 0) (ref05_fit.enc0 n0 c0 x2 x3 m0)) n x3
  | 0, _ => rfl
  | n + 1, x3 => (ref05_fit.step0 N n0 c0 x2 m0 k n x3).trans (congrArg (fun self => ref05_fit.b0 N n0 c0 x2 m0 self (fun x3 => k (.exit 0) (ref05_fit.enc0 n0 c0 x2 x3 m0)) x3) ((funext fun x3 => ref05_fit.eq0 N n0 c0 x2 m0 k n x3)))
theorem ref05_fit.lc0_ok (N : Nat) : LCOk (ref05_fit.cfg N) N (loopAt 0 Tryz.f164) (ref05_fit.lc0 N) := by
  intro R r st k h
  unfold ref05_fit.lc0 at h
  obtain ⟨e, m, rfl, h⟩ := tkSt_some h
  obtain ⟨n0, c0, e, rfl, h⟩ := tkS_some h
  obtain ⟨x2, e, rfl, h⟩ := tkD_some h
  obtain ⟨x3, e, rfl, h⟩ := tkD_some h
  obtain ⟨rfl, h⟩ := tkN_some h
  obtain ⟨m0, m, rfl, h⟩ := tkM_some h
  obtain ⟨rfl, h⟩ := tkN_some h
  exact ⟨N, (ref05_fit.eq0 N n0 c0 x2 m0 k N x3).trans h⟩
theorem ref05_fit.step1 {R : Type} (N : Nat) (n0 : Nat) (c0 : Nat) (x2 : ByteArray) (x3 : Int) (n4 : Nat) (c4 : Nat) (m0 : List Int) (k : Ex → St → Option R) (n : Nat) (x5 : Int) (m6 : List Int) :
    loopN (evCode (ref05_fit.cfg N) N (loopAt 1 Tryz.f164)) [0, 2, 3, 4, 5] 9 (n + 1) (ref05_fit.enc1 n0 c0 x2 x3 n4 c4 x5 m6 m0) k = ref05_fit.b1 N n0 c0 x2 x3 n4 c4 m0 (fun x5 m6 => loopN (evCode (ref05_fit.cfg N) N (loopAt 1 Tryz.f164)) [0, 2, 3, 4, 5] 9 n (ref05_fit.enc1 n0 c0 x2 x3 n4 c4 x5 m6 m0) k) (fun x5 m6 => k (.exit 2) (ref05_fit.enc1 n0 c0 x2 x3 n4 c4 x5 m6 m0)) x5 m6 := by kernel_rfl
theorem ref05_fit.eq1 {R : Type} (N : Nat) (n0 : Nat) (c0 : Nat) (x2 : ByteArray) (x3 : Int) (n4 : Nat) (c4 : Nat) (m0 : List Int) (k : Ex → St → Option R) : ∀ (n : Nat) (x5 : Int) (m6 : List Int), loopN (evCode (ref05_fit.cfg N) N (loopAt 1 Tryz.f164)) [0, 2, 3, 4, 5] 9 n (ref05_fit.enc1 n0 c0 x2 x3 n4 c4 x5 m6 m0) k = ref05_fit.l1 N n0 c0 x2 x3 n4 c4 m0 (fun x5 m6 => k (.exit 2) (ref05_fit.enc1 n0 c0 x2 x3 n4 c4 x5 m6 m0)) n x5 m6
  | 0, _, _ => rfl
  | n + 1, x5, m6 => (ref05_fit.step1 N n0 c0 x2 x3 n4 c4 m0 k n x5 m6).trans (congrArg (fun self => ref05_fit.b1 N n0 c0 x2 x3 n4 c4 m0 self (fun x5 m6 => k (.exit 2) (ref05_fit.enc1 n0 c0 x2 x3 n4 c4 x5 m6 m0)) x5 m6) ((funext fun x5 => funext fun m6 => ref05_fit.eq1 N n0 c0 x2 x3 n4 c4 m0 k n x5 m6)))
theorem ref05_fit.lc1_ok (N : Nat) : LCOk (ref05_fit.cfg N) N (loopAt 1 Tryz.f164) (ref05_fit.lc1 N) := by
  intro R r st k h
  unfold ref05_fit.lc1 at h
  obtain ⟨e, m, rfl, h⟩ := tkSt_some h
  obtain ⟨n0, c0, e, rfl, h⟩ := tkS_some h
  obtain ⟨x2, e, rfl, h⟩ := tkD_some h
  obtain ⟨x3, e, rfl, h⟩ := tkD_some h
  obtain ⟨n4, c4, e, rfl, h⟩ := tkS_some h
  obtain ⟨x5, e, rfl, h⟩ := tkD_some h
  obtain ⟨rfl, h⟩ := tkN_some h
  obtain ⟨m6, m, rfl, h⟩ := tkM_some h
  obtain ⟨m0, m, rfl, h⟩ := tkM_some h
  obtain ⟨rfl, h⟩ := tkN_some h
  exact ⟨N, (ref05_fit.eq1 N n0 c0 x2 x3 n4 c4 m0 k N x5 m6).trans h⟩
theorem ref05_fit.ev (N : Nat) (l_n : Nat) (l_c : Nat) (l : List Int) : evFunc (ref05_fit.cfg N) N Tryz.f164 [.s 0 0 l_n l_c] [(0, ⟨false, 5, (mL .u8).enc l⟩)] 1 dS.dec = ref05_fit.f N l_n l_c l := by kernel_rfl
theorem ref05_fit.hl (N : Nat) : ∀ body, Tryz.f164.body = some body → ∀ b ∈ loopsOf body, ∀ lc, lkL (firstReg b) (ref05_fit.cfg N).lp = some lc → LCOk (ref05_fit.cfg N) N b lc := by
  refine HL_of (ids := [2, 6]) (by kernel_rfl) fun j lc hj h => ?_
  match j, hj, h with
    | 0, _, h => cases h; exact ref05_fit.lc0_ok N
    | 1, _, h => cases h; exact ref05_fit.lc1_ok N
    | j + 2, hj, _ => exact absurd hj (by simp)
theorem ref05_fit.cfg_ok (N : Nat) : CfgOk Tryz.prog (ref05_fit.cfg N) := mkCfg .nil _ _ _ _
theorem ref05_fit.ok : CTok Tryz.prog 164 ref05_fit.ct := CTok.ofS0 Tryz.call164 mix Tryz.func164 (Nat.le_of_ble_eq_true (by kernel_rfl)) (fun l_n l_c l res hres  => ⟨ref05_fit.cfg fuel, fuel, ref05_fit.cfg_ok fuel, ref05_fit.hl fuel, (ref05_fit.ev fuel l_n l_c l).trans hres⟩)

def ref05_Right.cfg (N : Nat) : Cfg := { T := tys, EQ := eqs, C := [(161, ref05_Low.ct), (164, ref05_fit.ct), (166, ref05_at.ct)], lp := [(11, ref05_Right.lc0 N)], un := [], ks := [(11, [0, 1, 4, 5, 6, 7, 8, 9, 10, 11, 35])], keep := [0, 1, 4, 5, 6, 7, 8, 9, 10, 11, 13, 15, 24, 35] }
theorem ref05_Right.step0 {R : Type} (N : Nat) (x0 : ByteArray) (x1 : Int) (x4 : ByteArray) (x5 : Bool) (x6 : Int) (x7 : Bool) (x8 : Int) (n9 : Nat) (c9 : Nat) (k : Ex → St → Option R) (n : Nat) (x10 : Int) (m24 : List Int) :
    loopN (evCode (ref05_Right.cfg N) N (loopAt 0 Tryz.f178)) [0, 1, 4, 5, 6, 7, 8, 9, 10] 27 (n + 1) (ref05_Right.enc0 x0 x1 x4 x5 x6 x7 x8 n9 c9 x10 m24) k = ref05_Right.b0 N x0 x1 x4 x5 x6 x7 x8 n9 c9 (fun x10 m24 => loopN (evCode (ref05_Right.cfg N) N (loopAt 0 Tryz.f178)) [0, 1, 4, 5, 6, 7, 8, 9, 10] 27 n (ref05_Right.enc0 x0 x1 x4 x5 x6 x7 x8 n9 c9 x10 m24) k) (fun x10 m24 => k (.exit 0) (ref05_Right.enc0 x0 x1 x4 x5 x6 x7 x8 n9 c9 x10 m24)) x10 m24 := by kernel_rfl
theorem ref05_Right.eq0 {R : Type} (N : Nat) (x0 : ByteArray) (x1 : Int) (x4 : ByteArray) (x5 : Bool) (x6 : Int) (x7 : Bool) (x8 : Int) (n9 : Nat) (c9 : Nat) (k : Ex → St → Option R) : ∀ (n : Nat) (x10 : Int) (m24 : List Int), loopN (evCode (ref05_Right.cfg N) N (loopAt 0 Tryz.f178)) [0, 1, 4, 5, 6, 7, 8, 9, 10] 27 n (ref05_Right.enc0 x0 x1 x4 x5 x6 x7 x8 n9 c9 x10 m24) k = ref05_Right.l0 N x0 x1 x4 x5 x6 x7 x8 n9 c9 (fun x10 m24 => k (.exit 0) (ref05_Right.enc0 x0 x1 x4 x5 x6 x7 x8 n9 c9 x10 m24)) n x10 m24
  | 0, _, _ => rfl
  | n + 1, x10, m24 => (ref05_Right.step0 N x0 x1 x4 x5 x6 x7 x8 n9 c9 k n x10 m24).trans (congrArg (fun self => ref05_Right.b0 N x0 x1 x4 x5 x6 x7 x8 n9 c9 self (fun x10 m24 => k (.exit 0) (ref05_Right.enc0 x0 x1 x4 x5 x6 x7 x8 n9 c9 x10 m24)) x10 m24) ((funext fun x10 => funext fun m24 => ref05_Right.eq0 N x0 x1 x4 x5 x6 x7 x8 n9 c9 k n x10 m24)))
theorem ref05_Right.lc0_ok (N : Nat) : LCOk (ref05_Right.cfg N) N (loopAt 0 Tryz.f178) (ref05_Right.lc0 N) := by
  intro R r st k h
  unfold ref05_Right.lc0 at h
  obtain ⟨e, m, rfl, h⟩ := tkSt_some h
  obtain ⟨x0, e, rfl, h⟩ := tkD_some h
  obtain ⟨x1, e, rfl, h⟩ := tkD_some h
  obtain ⟨x4, e, rfl, h⟩ := tkD_some h
  obtain ⟨x5, e, rfl, h⟩ := tkD_some h
  obtain ⟨x6, e, rfl, h⟩ := tkD_some h
  obtain ⟨x7, e, rfl, h⟩ := tkD_some h
  obtain ⟨x8, e, rfl, h⟩ := tkD_some h
  obtain ⟨n9, c9, e, rfl, h⟩ := tkS_some h
  obtain ⟨x10, e, rfl, h⟩ := tkD_some h
  obtain ⟨rfl, h⟩ := tkN_some h
  obtain ⟨m24, m, rfl, h⟩ := tkM_some h
  obtain ⟨rfl, h⟩ := tkN_some h
  exact ⟨N, (ref05_Right.eq0 N x0 x1 x4 x5 x6 x7 x8 n9 c9 k N x10 m24).trans h⟩
theorem ref05_Right.ev (N : Nat) (a : ByteArray) (n : Int) : evFunc (ref05_Right.cfg N) N Tryz.f178 [.v (dS.enc a), .v ((dI .i64).enc n)] [] 0 (dT3 dS dB (dI .i64)).dec = ref05_Right.f N a n := by kernel_rfl
theorem ref05_Right.hl (N : Nat) : ∀ body, Tryz.f178.body = some body → ∀ b ∈ loopsOf body, ∀ lc, lkL (firstReg b) (ref05_Right.cfg N).lp = some lc → LCOk (ref05_Right.cfg N) N b lc := by
  refine HL_of (ids := [11]) (by kernel_rfl) fun j lc hj h => ?_
  match j, hj, h with
    | 0, _, h => cases h; exact ref05_Right.lc0_ok N
    | j + 1, hj, _ => exact absurd hj (by simp)
theorem ref05_Right.cfg_ok (N : Nat) : CfgOk Tryz.prog (ref05_Right.cfg N) := mkCfg (.cons ref05_Low.ok (.cons ref05_fit.ok (.cons ref05_at.ok .nil))) _ _ _ _
theorem ref05_Right.ok : CTok Tryz.prog 178 ref05_Right.ct := CTok.of2 Tryz.call178 mix Tryz.func178 (Nat.le_of_ble_eq_true (by kernel_rfl)) (fun a n res hres _ _ => ⟨ref05_Right.cfg fuel, fuel, ref05_Right.cfg_ok fuel, ref05_Right.hl fuel, (ref05_Right.ev fuel a n).trans hres⟩)

def ref05_Cmp.cfg (_N : Nat) : Cfg := { T := tys, EQ := eqs, C := [], lp := [], un := [], ks := [], keep := [0, 1, 4, 9, 14, 17, 20] }
theorem ref05_Cmp.ev (N : Nat) (a : ByteArray) (b : ByteArray) : evFunc (ref05_Cmp.cfg N) N Tryz.f71 [.v (dS.enc a), .v (dS.enc b)] [] 0 (dI .i64).dec = ref05_Cmp.g a b := by kernel_rfl
theorem ref05_Cmp.hl (N : Nat) : ∀ body, Tryz.f71.body = some body → ∀ b ∈ loopsOf body, ∀ lc, lkL (firstReg b) (ref05_Cmp.cfg N).lp = some lc → LCOk (ref05_Cmp.cfg N) N b lc := HL_nil rfl
theorem ref05_Cmp.cfg_ok (N : Nat) : CfgOk Tryz.prog (ref05_Cmp.cfg N) := mkCfg .nil _ _ _ _
theorem ref05_Cmp.ok : CTok Tryz.prog 71 ref05_Cmp.ct := CTok.of2 Tryz.call71 mix Tryz.func71 (Nat.le_of_ble_eq_true (by kernel_rfl)) (fun a b res hres _ _ => ⟨ref05_Cmp.cfg fuel, fuel, ref05_Cmp.cfg_ok fuel, ref05_Cmp.hl fuel, (ref05_Cmp.ev fuel a b).trans hres⟩)

def ref05_Len.cfg (_N : Nat) : Cfg := { T := tys, EQ := eqs, C := [(165, ref05_May.ct), (218, ref01_Len.ct)], lp := [], un := [], ks := [], keep := [0, 2, 9] }
theorem ref05_Len.ev (N : Nat) (a : ByteArray) : evFunc (ref05_Len.cfg N) N Tryz.f227 [.v (dS.enc a)] [] 0 (dI .i64).dec = ref05_Len.g a := by kernel_rfl
theorem ref05_Len.hl (N : Nat) : ∀ body, Tryz.f227.body = some body → ∀ b ∈ loopsOf body, ∀ lc, lkL (firstReg b) (ref05_Len.cfg N).lp = some lc → LCOk (ref05_Len.cfg N) N b lc := HL_nil rfl
theorem ref05_Len.cfg_ok (N : Nat) : CfgOk Tryz.prog (ref05_Len.cfg N) := mkCfg (.cons ref05_May.ok (.cons ref01_Len.ok .nil)) _ _ _ _
theorem ref05_Len.ok : CTok Tryz.prog 227 ref05_Len.ct := CTok.of1 Tryz.call227 mix Tryz.func227 (Nat.le_of_ble_eq_true (by kernel_rfl)) (fun a res hres _ => ⟨ref05_Len.cfg fuel, fuel, ref05_Len.cfg_ok fuel, ref05_Len.hl fuel, (ref05_Len.ev fuel a).trans hres⟩)

def ref05_double.cfg (N : Nat) : Cfg := { T := tys, EQ := eqs, C := [(164, ref05_fit.ct), (166, ref05_at.ct)], lp := [(4, ref05_double.lc0 N)], un := [], ks := [(4, [0, 4, 5, 6, 7, 16])], keep := [0, 1, 4, 5, 6, 7, 16] }
theorem ref05_double.step0 {R : Type} (N : Nat) (x0 : ByteArray) (x4 : ByteArray) (n5 : Nat) (c5 : Nat) (k : Ex → St → Option R) (n : Nat) (x6 : Int) (x7 : Int) (m4 : List Int) :
    loopN (evCode (ref05_double.cfg N) N (loopAt 0 Tryz.f228)) [0, 4, 5, 6, 7] 9 (n + 1) (ref05_double.enc0 x0 x4 n5 c5 x6 x7 m4) k = ref05_double.b0 N x0 x4 n5 c5 (fun x6 x7 m4 => loopN (evCode (ref05_double.cfg N) N (loopAt 0 Tryz.f228)) [0, 4, 5, 6, 7] 9 n (ref05_double.enc0 x0 x4 n5 c5 x6 x7 m4) k) (fun x6 x7 m4 => k (.exit 0) (ref05_double.enc0 x0 x4 n5 c5 x6 x7 m4)) x6 x7 m4 := by kernel_rfl
theorem ref05_double.eq0 {R : Type} (N : Nat) (x0 : ByteArray) (x4 : ByteArray) (n5 : Nat) (c5 : Nat) (k : Ex → St → Option R) : ∀ (n : Nat) (x6 : Int) (x7 : Int) (m4 : List Int), loopN (evCode (ref05_double.cfg N) N (loopAt 0 Tryz.f228)) [0, 4, 5, 6, 7] 9 n (ref05_double.enc0 x0 x4 n5 c5 x6 x7 m4) k = ref05_double.l0 N x0 x4 n5 c5 (fun x6 x7 m4 => k (.exit 0) (ref05_double.enc0 x0 x4 n5 c5 x6 x7 m4)) n x6 x7 m4
  | 0, _, _, _ => rfl
  | n + 1, x6, x7, m4 => (ref05_double.step0 N x0 x4 n5 c5 k n x6 x7 m4).trans (congrArg (fun self => ref05_double.b0 N x0 x4 n5 c5 self (fun x6 x7 m4 => k (.exit 0) (ref05_double.enc0 x0 x4 n5 c5 x6 x7 m4)) x6 x7 m4) ((funext fun x6 => funext fun x7 => funext fun m4 => ref05_double.eq0 N x0 x4 n5 c5 k n x6 x7 m4)))
theorem ref05_double.lc0_ok (N : Nat) : LCOk (ref05_double.cfg N) N (loopAt 0 Tryz.f228) (ref05_double.lc0 N) := by
  intro R r st k h
  unfold ref05_double.lc0 at h
  obtain ⟨e, m, rfl, h⟩ := tkSt_some h
  obtain ⟨x0, e, rfl, h⟩ := tkD_some h
  obtain ⟨x4, e, rfl, h⟩ := tkD_some h
  obtain ⟨n5, c5, e, rfl, h⟩ := tkS_some h
  obtain ⟨x6, e, rfl, h⟩ := tkD_some h
  obtain ⟨x7, e, rfl, h⟩ := tkD_some h
  obtain ⟨rfl, h⟩ := tkN_some h
  obtain ⟨m4, m, rfl, h⟩ := tkM_some h
  obtain ⟨rfl, h⟩ := tkN_some h
  exact ⟨N, (ref05_double.eq0 N x0 x4 n5 c5 k N x6 x7 m4).trans h⟩
theorem ref05_double.ev (N : Nat) (a : ByteArray) (one : Int) : evFunc (ref05_double.cfg N) N Tryz.f228 [.v (dS.enc a), .v ((dI .i64).enc one)] [] 0 dS.dec = ref05_double.f N a one := by kernel_rfl
theorem ref05_double.hl (N : Nat) : ∀ body, Tryz.f228.body = some body → ∀ b ∈ loopsOf body, ∀ lc, lkL (firstReg b) (ref05_double.cfg N).lp = some lc → LCOk (ref05_double.cfg N) N b lc := by
  refine HL_of (ids := [4]) (by kernel_rfl) fun j lc hj h => ?_
  match j, hj, h with
    | 0, _, h => cases h; exact ref05_double.lc0_ok N
    | j + 1, hj, _ => exact absurd hj (by simp)
theorem ref05_double.cfg_ok (N : Nat) : CfgOk Tryz.prog (ref05_double.cfg N) := mkCfg (.cons ref05_fit.ok (.cons ref05_at.ok .nil)) _ _ _ _
theorem ref05_double.ok : CTok Tryz.prog 228 ref05_double.ct := CTok.of2 Tryz.call228 mix Tryz.func228 (Nat.le_of_ble_eq_true (by kernel_rfl)) (fun a one res hres _ _ => ⟨ref05_double.cfg fuel, fuel, ref05_double.cfg_ok fuel, ref05_double.hl fuel, (ref05_double.ev fuel a one).trans hres⟩)

def ref05_bit.cfg (_N : Nat) : Cfg := { T := tys, EQ := eqs, C := [(166, ref05_at.ct)], lp := [], un := [], ks := [], keep := [0, 1, 4] }
theorem ref05_bit.ev (N : Nat) (a : ByteArray) (i : Int) : evFunc (ref05_bit.cfg N) N Tryz.f229 [.v (dS.enc a), .v ((dI .i64).enc i)] [] 0 (dI .i64).dec = ref05_bit.g a i := by kernel_rfl
theorem ref05_bit.hl (N : Nat) : ∀ body, Tryz.f229.body = some body → ∀ b ∈ loopsOf body, ∀ lc, lkL (firstReg b) (ref05_bit.cfg N).lp = some lc → LCOk (ref05_bit.cfg N) N b lc := HL_nil rfl
theorem ref05_bit.cfg_ok (N : Nat) : CfgOk Tryz.prog (ref05_bit.cfg N) := mkCfg (.cons ref05_at.ok .nil) _ _ _ _
theorem ref05_bit.ok : CTok Tryz.prog 229 ref05_bit.ct := CTok.of2 Tryz.call229 mix Tryz.func229 (Nat.le_of_ble_eq_true (by kernel_rfl)) (fun a i res hres _ _ => ⟨ref05_bit.cfg fuel, fuel, ref05_bit.cfg_ok fuel, ref05_bit.hl fuel, (ref05_bit.ev fuel a i).trans hres⟩)

def ref05_sub.cfg (N : Nat) : Cfg := { T := tys, EQ := eqs, C := [(164, ref05_fit.ct), (166, ref05_at.ct)], lp := [(4, ref05_sub.lc0 N)], un := [], ks := [(4, [0, 1, 4, 5, 6, 7, 14, 32])], keep := [0, 1, 4, 5, 6, 7, 14, 32] }
theorem ref05_sub.step0 {R : Type} (N : Nat) (x0 : ByteArray) (x1 : ByteArray) (x4 : ByteArray) (n5 : Nat) (c5 : Nat) (k : Ex → St → Option R) (n : Nat) (x6 : Int) (x7 : Int) (m3 : List Int) :
    loopN (evCode (ref05_sub.cfg N) N (loopAt 0 Tryz.f230)) [0, 1, 4, 5, 6, 7] 7 (n + 1) (ref05_sub.enc0 x0 x1 x4 n5 c5 x6 x7 m3) k = ref05_sub.b0 N x0 x1 x4 n5 c5 (fun x6 x7 m3 => loopN (evCode (ref05_sub.cfg N) N (loopAt 0 Tryz.f230)) [0, 1, 4, 5, 6, 7] 7 n (ref05_sub.enc0 x0 x1 x4 n5 c5 x6 x7 m3) k) (fun x6 x7 m3 => k (.exit 0) (ref05_sub.enc0 x0 x1 x4 n5 c5 x6 x7 m3)) x6 x7 m3 := by kernel_rfl
theorem ref05_sub.eq0 {R : Type} (N : Nat) (x0 : ByteArray) (x1 : ByteArray) (x4 : ByteArray) (n5 : Nat) (c5 : Nat) (k : Ex → St → Option R) : ∀ (n : Nat) (x6 : Int) (x7 : Int) (m3 : List Int), loopN (evCode (ref05_sub.cfg N) N (loopAt 0 Tryz.f230)) [0, 1, 4, 5, 6, 7] 7 n (ref05_sub.enc0 x0 x1 x4 n5 c5 x6 x7 m3) k = ref05_sub.l0 N x0 x1 x4 n5 c5 (fun x6 x7 m3 => k (.exit 0) (ref05_sub.enc0 x0 x1 x4 n5 c5 x6 x7 m3)) n x6 x7 m3
  | 0, _, _, _ => rfl
  | n + 1, x6, x7, m3 => (ref05_sub.step0 N x0 x1 x4 n5 c5 k n x6 x7 m3).trans (congrArg (fun self => ref05_sub.b0 N x0 x1 x4 n5 c5 self (fun x6 x7 m3 => k (.exit 0) (ref05_sub.enc0 x0 x1 x4 n5 c5 x6 x7 m3)) x6 x7 m3) ((funext fun x6 => funext fun x7 => funext fun m3 => ref05_sub.eq0 N x0 x1 x4 n5 c5 k n x6 x7 m3)))
theorem ref05_sub.lc0_ok (N : Nat) : LCOk (ref05_sub.cfg N) N (loopAt 0 Tryz.f230) (ref05_sub.lc0 N) := by
  intro R r st k h
  unfold ref05_sub.lc0 at h
  obtain ⟨e, m, rfl, h⟩ := tkSt_some h
  obtain ⟨x0, e, rfl, h⟩ := tkD_some h
  obtain ⟨x1, e, rfl, h⟩ := tkD_some h
  obtain ⟨x4, e, rfl, h⟩ := tkD_some h
  obtain ⟨n5, c5, e, rfl, h⟩ := tkS_some h
  obtain ⟨x6, e, rfl, h⟩ := tkD_some h
  obtain ⟨x7, e, rfl, h⟩ := tkD_some h
  obtain ⟨rfl, h⟩ := tkN_some h
  obtain ⟨m3, m, rfl, h⟩ := tkM_some h
  obtain ⟨rfl, h⟩ := tkN_some h
  exact ⟨N, (ref05_sub.eq0 N x0 x1 x4 n5 c5 k N x6 x7 m3).trans h⟩
theorem ref05_sub.ev (N : Nat) (a : ByteArray) (b : ByteArray) : evFunc (ref05_sub.cfg N) N Tryz.f230 [.v (dS.enc a), .v (dS.enc b)] [] 0 dS.dec = ref05_sub.f N a b := by kernel_rfl
theorem ref05_sub.hl (N : Nat) : ∀ body, Tryz.f230.body = some body → ∀ b ∈ loopsOf body, ∀ lc, lkL (firstReg b) (ref05_sub.cfg N).lp = some lc → LCOk (ref05_sub.cfg N) N b lc := by
  refine HL_of (ids := [4]) (by kernel_rfl) fun j lc hj h => ?_
  match j, hj, h with
    | 0, _, h => cases h; exact ref05_sub.lc0_ok N
    | j + 1, hj, _ => exact absurd hj (by simp)
theorem ref05_sub.cfg_ok (N : Nat) : CfgOk Tryz.prog (ref05_sub.cfg N) := mkCfg (.cons ref05_fit.ok (.cons ref05_at.ok .nil)) _ _ _ _
theorem ref05_sub.ok : CTok Tryz.prog 230 ref05_sub.ct := CTok.of2 Tryz.call230 mix Tryz.func230 (Nat.le_of_ble_eq_true (by kernel_rfl)) (fun a b res hres _ _ => ⟨ref05_sub.cfg fuel, fuel, ref05_sub.cfg_ok fuel, ref05_sub.hl fuel, (ref05_sub.ev fuel a b).trans hres⟩)

def ref05_Div.cfg (N : Nat) : Cfg := { T := tys, EQ := eqs, C := [(71, ref05_Cmp.ct), (164, ref05_fit.ct), (178, ref05_Right.ct), (227, ref05_Len.ct), (228, ref05_double.ct), (229, ref05_bit.ct), (230, ref05_sub.ct)], lp := [(10, ref05_Div.lc0 N)], un := [], ks := [(10, [0, 1, 4, 5, 6, 9, 12, 13, 44, 55])], keep := [0, 1, 4, 5, 6, 7, 8, 9, 12, 13, 15, 19, 44, 55] }
theorem ref05_Div.step0 {R : Type} (N : Nat) (x0 : ByteArray) (x1 : ByteArray) (x4 : ByteArray) (x5 : ByteArray) (x6 : Int) (n12 : Nat) (c12 : Nat) (k : Ex → St → Option R) (n : Nat) (x9 : ByteArray) (x13 : Int) (m31 : List Int) :
    loopN (evCode (ref05_Div.cfg N) N (loopAt 0 Tryz.f180)) [0, 1, 4, 5, 6, 9, 12, 13] 38 (n + 1) (ref05_Div.enc0 x0 x1 x4 x5 x6 x9 n12 c12 x13 m31) k = ref05_Div.b0 N x0 x1 x4 x5 x6 n12 c12 (fun x9 x13 m31 => loopN (evCode (ref05_Div.cfg N) N (loopAt 0 Tryz.f180)) [0, 1, 4, 5, 6, 9, 12, 13] 38 n (ref05_Div.enc0 x0 x1 x4 x5 x6 x9 n12 c12 x13 m31) k) (fun x9 x13 m31 => k (.exit 0) (ref05_Div.enc0 x0 x1 x4 x5 x6 x9 n12 c12 x13 m31)) x9 x13 m31 := by kernel_rfl
theorem ref05_Div.eq0 {R : Type} (N : Nat) (x0 : ByteArray) (x1 : ByteArray) (x4 : ByteArray) (x5 : ByteArray) (x6 : Int) (n12 : Nat) (c12 : Nat) (k : Ex → St → Option R) : ∀ (n : Nat) (x9 : ByteArray) (x13 : Int) (m31 : List Int), loopN (evCode (ref05_Div.cfg N) N (loopAt 0 Tryz.f180)) [0, 1, 4, 5, 6, 9, 12, 13] 38 n (ref05_Div.enc0 x0 x1 x4 x5 x6 x9 n12 c12 x13 m31) k = ref05_Div.l0 N x0 x1 x4 x5 x6 n12 c12 (fun x9 x13 m31 => k (.exit 0) (ref05_Div.enc0 x0 x1 x4 x5 x6 x9 n12 c12 x13 m31)) n x9 x13 m31
  | 0, _, _, _ => rfl
  | n + 1, x9, x13, m31 => (ref05_Div.step0 N x0 x1 x4 x5 x6 n12 c12 k n x9 x13 m31).trans (congrArg (fun self => ref05_Div.b0 N x0 x1 x4 x5 x6 n12 c12 self (fun x9 x13 m31 => k (.exit 0) (ref05_Div.enc0 x0 x1 x4 x5 x6 x9 n12 c12 x13 m31)) x9 x13 m31) ((funext fun x9 => funext fun x13 => funext fun m31 => ref05_Div.eq0 N x0 x1 x4 x5 x6 n12 c12 k n x9 x13 m31)))
theorem ref05_Div.lc0_ok (N : Nat) : LCOk (ref05_Div.cfg N) N (loopAt 0 Tryz.f180) (ref05_Div.lc0 N) := by
  intro R r st k h
  unfold ref05_Div.lc0 at h
  obtain ⟨e, m, rfl, h⟩ := tkSt_some h
  obtain ⟨x0, e, rfl, h⟩ := tkD_some h
  obtain ⟨x1, e, rfl, h⟩ := tkD_some h
  obtain ⟨x4, e, rfl, h⟩ := tkD_some h
  obtain ⟨x5, e, rfl, h⟩ := tkD_some h
  obtain ⟨x6, e, rfl, h⟩ := tkD_some h
  obtain ⟨x9, e, rfl, h⟩ := tkD_some h
  obtain ⟨n12, c12, e, rfl, h⟩ := tkS_some h
  obtain ⟨x13, e, rfl, h⟩ := tkD_some h
  obtain ⟨rfl, h⟩ := tkN_some h
  obtain ⟨m31, m, rfl, h⟩ := tkM_some h
  obtain ⟨rfl, h⟩ := tkN_some h
  exact ⟨N, (ref05_Div.eq0 N x0 x1 x4 x5 x6 n12 c12 k N x9 x13 m31).trans h⟩
theorem ref05_Div.ev (N : Nat) (a : ByteArray) (b : ByteArray) : evFunc (ref05_Div.cfg N) N Tryz.f180 [.v (dS.enc a), .v (dS.enc b)] [] 0 (dT3 dS dS (dI .i64)).dec = ref05_Div.f N a b := by kernel_rfl
theorem ref05_Div.hl (N : Nat) : ∀ body, Tryz.f180.body = some body → ∀ b ∈ loopsOf body, ∀ lc, lkL (firstReg b) (ref05_Div.cfg N).lp = some lc → LCOk (ref05_Div.cfg N) N b lc := by
  refine HL_of (ids := [10]) (by kernel_rfl) fun j lc hj h => ?_
  match j, hj, h with
    | 0, _, h => cases h; exact ref05_Div.lc0_ok N
    | j + 1, hj, _ => exact absurd hj (by simp)
theorem ref05_Div.cfg_ok (N : Nat) : CfgOk Tryz.prog (ref05_Div.cfg N) := mkCfg (.cons ref05_Cmp.ok (.cons ref05_fit.ok (.cons ref05_Right.ok (.cons ref05_Len.ok (.cons ref05_double.ok (.cons ref05_bit.ok (.cons ref05_sub.ok .nil))))))) _ _ _ _
theorem ref05_Div.ok : CTok Tryz.prog 180 ref05_Div.ct := CTok.of2 Tryz.call180 mix Tryz.func180 (Nat.le_of_ble_eq_true (by kernel_rfl)) (fun a b res hres _ _ => ⟨ref05_Div.cfg fuel, fuel, ref05_Div.cfg_ok fuel, ref05_Div.hl fuel, (ref05_Div.ev fuel a b).trans hres⟩)

def ref05_Gcd.cfg (N : Nat) : Cfg := { T := tys, EQ := eqs, C := [(180, ref05_Div.ct)], lp := [(1, ref05_Gcd.lc0 N)], un := [], ks := [(1, [0, 1, 4, 6, 9])], keep := [0, 1, 4, 6, 9] }
theorem ref05_Gcd.step0 {R : Type} (N : Nat) (x4 : ByteArray) (k : Ex → St → Option R) (n : Nat) (x0 : ByteArray) (x1 : ByteArray) :
    loopN (evCode (ref05_Gcd.cfg N) N (loopAt 0 Tryz.f179)) [0, 1, 4] 1 (n + 1) (ref05_Gcd.enc0 x0 x1 x4) k = ref05_Gcd.b0 N x4 (fun x0 x1 => loopN (evCode (ref05_Gcd.cfg N) N (loopAt 0 Tryz.f179)) [0, 1, 4] 1 n (ref05_Gcd.enc0 x0 x1 x4) k) (fun x0 x1 => k (.exit 0) (ref05_Gcd.enc0 x0 x1 x4)) x0 x1 := by kernel_rfl
theorem ref05_Gcd.eq0 {R : Type} (N : Nat) (x4 : ByteArray) (k : Ex → St → Option R) : ∀ (n : Nat) (x0 : ByteArray) (x1 : ByteArray), loopN (evCode (ref05_Gcd.cfg N) N (loopAt 0 Tryz.f179)) [0, 1, 4] 1 n (ref05_Gcd.enc0 x0 x1 x4) k = ref05_Gcd.l0 N x4 (fun x0 x1 => k (.exit 0) (ref05_Gcd.enc0 x0 x1 x4)) n x0 x1
  | 0, _, _ => rfl
  | n + 1, x0, x1 => (ref05_Gcd.step0 N x4 k n x0 x1).trans (congrArg (fun self => ref05_Gcd.b0 N x4 self (fun x0 x1 => k (.exit 0) (ref05_Gcd.enc0 x0 x1 x4)) x0 x1) ((funext fun x0 => funext fun x1 => ref05_Gcd.eq0 N x4 k n x0 x1)))
theorem ref05_Gcd.lc0_ok (N : Nat) : LCOk (ref05_Gcd.cfg N) N (loopAt 0 Tryz.f179) (ref05_Gcd.lc0 N) := by
  intro R r st k h
  unfold ref05_Gcd.lc0 at h
  obtain ⟨e, m, rfl, h⟩ := tkSt_some h
  obtain ⟨x0, e, rfl, h⟩ := tkD_some h
  obtain ⟨x1, e, rfl, h⟩ := tkD_some h
  obtain ⟨x4, e, rfl, h⟩ := tkD_some h
  obtain ⟨rfl, h⟩ := tkN_some h
  obtain ⟨rfl, h⟩ := tkN_some h
  exact ⟨N, (ref05_Gcd.eq0 N x4 k N x0 x1).trans h⟩
theorem ref05_Gcd.ev (N : Nat) (a : ByteArray) (b : ByteArray) : evFunc (ref05_Gcd.cfg N) N Tryz.f179 [.v (dS.enc a), .v (dS.enc b)] [] 0 dS.dec = ref05_Gcd.f N a b := by kernel_rfl
theorem ref05_Gcd.hl (N : Nat) : ∀ body, Tryz.f179.body = some body → ∀ b ∈ loopsOf body, ∀ lc, lkL (firstReg b) (ref05_Gcd.cfg N).lp = some lc → LCOk (ref05_Gcd.cfg N) N b lc := by
  refine HL_of (ids := [1]) (by kernel_rfl) fun j lc hj h => ?_
  match j, hj, h with
    | 0, _, h => cases h; exact ref05_Gcd.lc0_ok N
    | j + 1, hj, _ => exact absurd hj (by simp)
theorem ref05_Gcd.cfg_ok (N : Nat) : CfgOk Tryz.prog (ref05_Gcd.cfg N) := mkCfg (.cons ref05_Div.ok .nil) _ _ _ _
theorem ref05_Gcd.ok : CTok Tryz.prog 179 ref05_Gcd.ct := CTok.of2 Tryz.call179 mix Tryz.func179 (Nat.le_of_ble_eq_true (by kernel_rfl)) (fun a b res hres _ _ => ⟨ref05_Gcd.cfg fuel, fuel, ref05_Gcd.cfg_ok fuel, ref05_Gcd.hl fuel, (ref05_Gcd.ev fuel a b).trans hres⟩)

def ref06_Make.cfg (_N : Nat) : Cfg := { T := tys, EQ := eqs, C := [(161, ref05_Low.ct), (165, ref05_May.ct), (177, ref06_Null.ct), (178, ref05_Right.ct), (179, ref05_Gcd.ct), (180, ref05_Div.ct)], lp := [], un := [], ks := [], keep := [0, 1, 2, 3, 8, 9, 10, 11, 12, 32, 35, 59, 84] }
theorem ref06_Make.ev (N : Nat) (neg : Bool) (num : ByteArray) (den : ByteArray) (exp : Int) : evFunc (ref06_Make.cfg N) N Tryz.f77 [.v (dB.enc neg), .v (dS.enc num), .v (dS.enc den), .v ((dI .i64).enc exp)] [] 0 (dT2 dExc (dI .i64)).dec = ref06_Make.g neg num den exp := by kernel_rfl
theorem ref06_Make.hl (N : Nat) : ∀ body, Tryz.f77.body = some body → ∀ b ∈ loopsOf body, ∀ lc, lkL (firstReg b) (ref06_Make.cfg N).lp = some lc → LCOk (ref06_Make.cfg N) N b lc := HL_nil rfl
theorem ref06_Make.cfg_ok (N : Nat) : CfgOk Tryz.prog (ref06_Make.cfg N) := mkCfg (.cons ref05_Low.ok (.cons ref05_May.ok (.cons ref06_Null.ok (.cons ref05_Right.ok (.cons ref05_Gcd.ok (.cons ref05_Div.ok .nil)))))) _ _ _ _
theorem ref06_Make.ok : CTok Tryz.prog 77 ref06_Make.ct := CTok.of4 Tryz.call77 mix Tryz.func77 (Nat.le_of_ble_eq_true (by kernel_rfl)) (fun neg num den exp res hres _ _ _ _ => ⟨ref06_Make.cfg fuel, fuel, ref06_Make.cfg_ok fuel, ref06_Make.hl fuel, (ref06_Make.ev fuel neg num den exp).trans hres⟩)

def ref05_OfWide.cfg (N : Nat) : Cfg := { T := tys, EQ := eqs, C := [(164, ref05_fit.ct)], lp := [(3, ref05_OfWide.lc0 N)], un := [], ks := [(3, [1, 2, 3, 4, 7])], keep := [0, 1, 2, 3, 4, 7] }
theorem ref05_OfWide.step0 {R : Type} (N : Nat) (x2 : ByteArray) (n3 : Nat) (c3 : Nat) (m0 : W6) (k : Ex → St → Option R) (n : Nat) (x4 : Int) (m2 : List Int) :
    loopN (evCode (ref05_OfWide.cfg N) N (loopAt 0 Tryz.f194)) [1, 2, 3, 4] 5 (n + 1) (ref05_OfWide.enc0 x2 n3 c3 x4 m2 m0) k = ref05_OfWide.b0 N x2 n3 c3 m0 (fun x4 m2 => loopN (evCode (ref05_OfWide.cfg N) N (loopAt 0 Tryz.f194)) [1, 2, 3, 4] 5 n (ref05_OfWide.enc0 x2 n3 c3 x4 m2 m0) k) (fun x4 m2 => k (.exit 0) (ref05_OfWide.enc0 x2 n3 c3 x4 m2 m0)) x4 m2 := by kernel_rfl
theorem ref05_OfWide.eq0 {R : Type} (N : Nat) (x2 : ByteArray) (n3 : Nat) (c3 : Nat) (m0 : W6) (k : Ex → St → Option R) : ∀ (n : Nat) (x4 : Int) (m2 : List Int), loopN (evCode (ref05_OfWide.cfg N) N (loopAt 0 Tryz.f194)) [1, 2, 3, 4] 5 n (ref05_OfWide.enc0 x2 n3 c3 x4 m2 m0) k = ref05_OfWide.l0 N x2 n3 c3 m0 (fun x4 m2 => k (.exit 0) (ref05_OfWide.enc0 x2 n3 c3 x4 m2 m0)) n x4 m2
  | 0, _, _ => rfl
  | n + 1, x4, m2 => (ref05_OfWide.step0 N x2 n3 c3 m0 k n x4 m2).trans (congrArg (fun self => ref05_OfWide.b0 N x2 n3 c3 m0 self (fun x4 m2 => k (.exit 0) (ref05_OfWide.enc0 x2 n3 c3 x4 m2 m0)) x4 m2) ((funext fun x4 => funext fun m2 => ref05_OfWide.eq0 N x2 n3 c3 m0 k n x4 m2)))
theorem ref05_OfWide.lc0_ok (N : Nat) : LCOk (ref05_OfWide.cfg N) N (loopAt 0 Tryz.f194) (ref05_OfWide.lc0 N) := by
  intro R r st k h
  unfold ref05_OfWide.lc0 at h
  obtain ⟨e, m, rfl, h⟩ := tkSt_some h
  obtain ⟨e, rfl, h⟩ := tkP_some h
  obtain ⟨x2, e, rfl, h⟩ := tkD_some h
  obtain ⟨n3, c3, e, rfl, h⟩ := tkS_some h
  obtain ⟨x4, e, rfl, h⟩ := tkD_some h
  obtain ⟨rfl, h⟩ := tkN_some h
  obtain ⟨m2, m, rfl, h⟩ := tkM_some h
  obtain ⟨m0, m, rfl, h⟩ := tkM_some h
  obtain ⟨rfl, h⟩ := tkN_some h
  exact ⟨N, (ref05_OfWide.eq0 N x2 n3 c3 m0 k N x4 m2).trans h⟩
theorem ref05_OfWide.ev (N : Nat) (w : W6) : evFunc (ref05_OfWide.cfg N) N Tryz.f194 [.v (dW.enc w)] [] 0 dS.dec = ref05_OfWide.f N w := by kernel_rfl
theorem ref05_OfWide.hl (N : Nat) : ∀ body, Tryz.f194.body = some body → ∀ b ∈ loopsOf body, ∀ lc, lkL (firstReg b) (ref05_OfWide.cfg N).lp = some lc → LCOk (ref05_OfWide.cfg N) N b lc := by
  refine HL_of (ids := [3]) (by kernel_rfl) fun j lc hj h => ?_
  match j, hj, h with
    | 0, _, h => cases h; exact ref05_OfWide.lc0_ok N
    | j + 1, hj, _ => exact absurd hj (by simp)
theorem ref05_OfWide.cfg_ok (N : Nat) : CfgOk Tryz.prog (ref05_OfWide.cfg N) := mkCfg (.cons ref05_fit.ok .nil) _ _ _ _
theorem ref05_OfWide.ok : CTok Tryz.prog 194 ref05_OfWide.ct := CTok.of1 Tryz.call194 mix Tryz.func194 (Nat.le_of_ble_eq_true (by kernel_rfl)) (fun w res hres _ => ⟨ref05_OfWide.cfg fuel, fuel, ref05_OfWide.cfg_ok fuel, ref05_OfWide.hl fuel, (ref05_OfWide.ev fuel w).trans hres⟩)

def ref08_Value.cfg (_N : Nat) : Cfg := { T := tys, EQ := eqs, C := [(64, ref08_Sign.ct), (77, ref06_Make.ct), (193, ref08_Unpack.ct), (194, ref05_OfWide.ct)], lp := [], un := [], ks := [], keep := [0, 1, 3, 4, 5, 6, 7, 13, 14] }
theorem ref08_Value.ev (N : Nat) (f : Int) (b : B2) : evFunc (ref08_Value.cfg N) N Tryz.f96 [.v ((dI .u8).enc f), .v (dBits.enc b)] [] 0 (dT2 dExc (dI .i64)).dec = ref08_Value.g f b := by kernel_rfl
theorem ref08_Value.hl (N : Nat) : ∀ body, Tryz.f96.body = some body → ∀ b ∈ loopsOf body, ∀ lc, lkL (firstReg b) (ref08_Value.cfg N).lp = some lc → LCOk (ref08_Value.cfg N) N b lc := HL_nil rfl
theorem ref08_Value.cfg_ok (N : Nat) : CfgOk Tryz.prog (ref08_Value.cfg N) := mkCfg (.cons ref08_Sign.ok (.cons ref06_Make.ok (.cons ref08_Unpack.ok (.cons ref05_OfWide.ok .nil)))) _ _ _ _
theorem ref08_Value.ok : CTok Tryz.prog 96 ref08_Value.ct := CTok.of2 Tryz.call96 mix Tryz.func96 (Nat.le_of_ble_eq_true (by kernel_rfl)) (fun f b res hres _ _ => ⟨ref08_Value.cfg fuel, fuel, ref08_Value.cfg_ok fuel, ref08_Value.hl fuel, (ref08_Value.ev fuel f b).trans hres⟩)

def ref05_Left.cfg (N : Nat) : Cfg := { T := tys, EQ := eqs, C := [(164, ref05_fit.ct), (166, ref05_at.ct), (227, ref05_Len.ct)], lp := [(9, ref05_Left.lc0 N)], un := [], ks := [(9, [0, 1, 4, 5, 6, 7, 8, 32])], keep := [0, 1, 4, 5, 6, 7, 8, 10, 12, 21, 32] }
theorem ref05_Left.step0 {R : Type} (N : Nat) (x0 : ByteArray) (x1 : Int) (x4 : ByteArray) (x5 : Int) (n6 : Nat) (c6 : Nat) (k : Ex → St → Option R) (n : Nat) (x7 : Int) (m21 : List Int) :
    loopN (evCode (ref05_Left.cfg N) N (loopAt 0 Tryz.f221)) [0, 1, 4, 5, 6, 7] 24 (n + 1) (ref05_Left.enc0 x0 x1 x4 x5 n6 c6 x7 m21) k = ref05_Left.b0 N x0 x1 x4 x5 n6 c6 (fun x7 m21 => loopN (evCode (ref05_Left.cfg N) N (loopAt 0 Tryz.f221)) [0, 1, 4, 5, 6, 7] 24 n (ref05_Left.enc0 x0 x1 x4 x5 n6 c6 x7 m21) k) (fun x7 m21 => k (.exit 0) (ref05_Left.enc0 x0 x1 x4 x5 n6 c6 x7 m21)) x7 m21 := by kernel_rfl
theorem ref05_Left.eq0 {R : Type} (N : Nat) (x0 : ByteArray) (x1 : Int) (x4 : ByteArray) (x5 : Int) (n6 : Nat) (c6 : Nat) (k : Ex → St → Option R) : ∀ (n : Nat) (x7 : Int) (m21 : List Int), loopN (evCode (ref05_Left.cfg N) N (loopAt 0 Tryz.f221)) [0, 1, 4, 5, 6, 7] 24 n (ref05_Left.enc0 x0 x1 x4 x5 n6 c6 x7 m21) k = ref05_Left.l0 N x0 x1 x4 x5 n6 c6 (fun x7 m21 => k (.exit 0) (ref05_Left.enc0 x0 x1 x4 x5 n6 c6 x7 m21)) n x7 m21
  | 0, _, _ => rfl
  | n + 1, x7, m21 => (ref05_Left.step0 N x0 x1 x4 x5 n6 c6 k n x7 m21).trans (congrArg (fun self => ref05_Left.b0 N x0 x1 x4 x5 n6 c6 self (fun x7 m21 => k (.exit 0) (ref05_Left.enc0 x0 x1 x4 x5 n6 c6 x7 m21)) x7 m21) ((funext fun x7 => funext fun m21 => ref05_Left.eq0 N x0 x1 x4 x5 n6 c6 k n x7 m21)))
theorem ref05_Left.lc0_ok (N : Nat) : LCOk (ref05_Left.cfg N) N (loopAt 0 Tryz.f221) (ref05_Left.lc0 N) := by
  intro R r st k h
  unfold ref05_Left.lc0 at h
  obtain ⟨e, m, rfl, h⟩ := tkSt_some h
  obtain ⟨x0, e, rfl, h⟩ := tkD_some h
  obtain ⟨x1, e, rfl, h⟩ := tkD_some h
  obtain ⟨x4, e, rfl, h⟩ := tkD_some h
  obtain ⟨x5, e, rfl, h⟩ := tkD_some h
  obtain ⟨n6, c6, e, rfl, h⟩ := tkS_some h
  obtain ⟨x7, e, rfl, h⟩ := tkD_some h
  obtain ⟨rfl, h⟩ := tkN_some h
  obtain ⟨m21, m, rfl, h⟩ := tkM_some h
  obtain ⟨rfl, h⟩ := tkN_some h
  exact ⟨N, (ref05_Left.eq0 N x0 x1 x4 x5 n6 c6 k N x7 m21).trans h⟩
theorem ref05_Left.ev (N : Nat) (a : ByteArray) (n : Int) : evFunc (ref05_Left.cfg N) N Tryz.f221 [.v (dS.enc a), .v ((dI .i64).enc n)] [] 0 (dT2 dS (dI .i64)).dec = ref05_Left.f N a n := by kernel_rfl
theorem ref05_Left.hl (N : Nat) : ∀ body, Tryz.f221.body = some body → ∀ b ∈ loopsOf body, ∀ lc, lkL (firstReg b) (ref05_Left.cfg N).lp = some lc → LCOk (ref05_Left.cfg N) N b lc := by
  refine HL_of (ids := [9]) (by kernel_rfl) fun j lc hj h => ?_
  match j, hj, h with
    | 0, _, h => cases h; exact ref05_Left.lc0_ok N
    | j + 1, hj, _ => exact absurd hj (by simp)
theorem ref05_Left.cfg_ok (N : Nat) : CfgOk Tryz.prog (ref05_Left.cfg N) := mkCfg (.cons ref05_fit.ok (.cons ref05_at.ok (.cons ref05_Len.ok .nil))) _ _ _ _
theorem ref05_Left.ok : CTok Tryz.prog 221 ref05_Left.ct := CTok.of2 Tryz.call221 mix Tryz.func221 (Nat.le_of_ble_eq_true (by kernel_rfl)) (fun a n res hres _ _ => ⟨ref05_Left.cfg fuel, fuel, ref05_Left.cfg_ok fuel, ref05_Left.hl fuel, (ref05_Left.ev fuel a n).trans hres⟩)

def ref06_shifted.cfg (_N : Nat) : Cfg := { T := tys, EQ := eqs, C := [(221, ref05_Left.ct)], lp := [], un := [], ks := [], keep := [0, 1, 4, 5] }
theorem ref06_shifted.ev (N : Nat) (a : ByteArray) (n : Int) : evFunc (ref06_shifted.cfg N) N Tryz.f241 [.v (dS.enc a), .v ((dI .i64).enc n)] [] 0 dS.dec = ref06_shifted.g a n := by kernel_rfl
theorem ref06_shifted.hl (N : Nat) : ∀ body, Tryz.f241.body = some body → ∀ b ∈ loopsOf body, ∀ lc, lkL (firstReg b) (ref06_shifted.cfg N).lp = some lc → LCOk (ref06_shifted.cfg N) N b lc := HL_nil rfl
theorem ref06_shifted.cfg_ok (N : Nat) : CfgOk Tryz.prog (ref06_shifted.cfg N) := mkCfg (.cons ref05_Left.ok .nil) _ _ _ _
theorem ref06_shifted.ok : CTok Tryz.prog 241 ref06_shifted.ct := CTok.of2 Tryz.call241 mix Tryz.func241 (Nat.le_of_ble_eq_true (by kernel_rfl)) (fun a n res hres _ _ => ⟨ref06_shifted.cfg fuel, fuel, ref06_shifted.cfg_ok fuel, ref06_shifted.hl fuel, (ref06_shifted.ev fuel a n).trans hres⟩)

def ref06_Top.cfg (_N : Nat) : Cfg := { T := tys, EQ := eqs, C := [(71, ref05_Cmp.ct), (227, ref05_Len.ct), (241, ref06_shifted.ct)], lp := [], un := [], ks := [], keep := [0, 1, 2, 3, 4, 5, 6, 7, 8, 9, 12, 23, 40] }
theorem ref06_Top.ev (N : Nat) (x : Exc) : evFunc (ref06_Top.cfg N) N Tryz.f195 [.v (dExc.enc x)] [] 0 (dT2 (dI .i64) (dI .i64)).dec = ref06_Top.g x := by kernel_rfl
theorem ref06_Top.hl (N : Nat) : ∀ body, Tryz.f195.body = some body → ∀ b ∈ loopsOf body, ∀ lc, lkL (firstReg b) (ref06_Top.cfg N).lp = some lc → LCOk (ref06_Top.cfg N) N b lc := HL_nil rfl
theorem ref06_Top.cfg_ok (N : Nat) : CfgOk Tryz.prog (ref06_Top.cfg N) := mkCfg (.cons ref05_Cmp.ok (.cons ref05_Len.ok (.cons ref06_shifted.ok .nil))) _ _ _ _
theorem ref06_Top.ok : CTok Tryz.prog 195 ref06_Top.ct := CTok.of1 Tryz.call195 mix Tryz.func195 (Nat.le_of_ble_eq_true (by kernel_rfl)) (fun x res hres _ => ⟨ref06_Top.cfg fuel, fuel, ref06_Top.cfg_ok fuel, ref06_Top.hl fuel, (ref06_Top.ev fuel x).trans hres⟩)

def ref06_Floor.cfg (_N : Nat) : Cfg := { T := tys, EQ := eqs, C := [(180, ref05_Div.ct), (195, ref06_Top.ct), (221, ref05_Left.ct)], lp := [], un := [], ks := [], keep := [0, 1, 2, 4, 5, 6, 7, 8, 9, 10, 11, 12, 14, 16, 17, 24, 27, 35, 46, 64] }
theorem ref06_Floor.ev (N : Nat) (x : Exc) (e_ : Int) : evFunc (ref06_Floor.cfg N) N Tryz.f160 [.v (dExc.enc x), .v ((dI .i64).enc e_)] [] 0 (dT3 dS dB (dI .i64)).dec = ref06_Floor.g x e_ := by kernel_rfl
theorem ref06_Floor.hl (N : Nat) : ∀ body, Tryz.f160.body = some body → ∀ b ∈ loopsOf body, ∀ lc, lkL (firstReg b) (ref06_Floor.cfg N).lp = some lc → LCOk (ref06_Floor.cfg N) N b lc := HL_nil rfl
theorem ref06_Floor.cfg_ok (N : Nat) : CfgOk Tryz.prog (ref06_Floor.cfg N) := mkCfg (.cons ref05_Div.ok (.cons ref06_Top.ok (.cons ref05_Left.ok .nil))) _ _ _ _
theorem ref06_Floor.ok : CTok Tryz.prog 160 ref06_Floor.ct := CTok.of2 Tryz.call160 mix Tryz.func160 (Nat.le_of_ble_eq_true (by kernel_rfl)) (fun x e_ res hres _ _ => ⟨ref06_Floor.cfg fuel, fuel, ref06_Floor.cfg_ok fuel, ref06_Floor.hl fuel, (ref06_Floor.ev fuel x e_).trans hres⟩)

def ref05_long.cfg (_N : Nat) : Cfg := { T := tys, EQ := eqs, C := [], lp := [], un := [], ks := [], keep := [0, 2, 3, 6] }
theorem ref05_long.ev (N : Nat) (s : ByteArray) : evFunc (ref05_long.cfg N) N Tryz.f223 [.v (dS.enc s)] [] 0 (dT2 dS (dI .i64)).dec = ref05_long.g s := by kernel_rfl
theorem ref05_long.hl (N : Nat) : ∀ body, Tryz.f223.body = some body → ∀ b ∈ loopsOf body, ∀ lc, lkL (firstReg b) (ref05_long.cfg N).lp = some lc → LCOk (ref05_long.cfg N) N b lc := HL_nil rfl
theorem ref05_long.cfg_ok (N : Nat) : CfgOk Tryz.prog (ref05_long.cfg N) := mkCfg .nil _ _ _ _
theorem ref05_long.ok : CTok Tryz.prog 223 ref05_long.ct := CTok.of1 Tryz.call223 mix Tryz.func223 (Nat.le_of_ble_eq_true (by kernel_rfl)) (fun s res hres _ => ⟨ref05_long.cfg fuel, fuel, ref05_long.cfg_ok fuel, ref05_long.hl fuel, (ref05_long.ev fuel s).trans hres⟩)

def ref05_add.cfg (N : Nat) : Cfg := { T := tys, EQ := eqs, C := [(164, ref05_fit.ct), (166, ref05_at.ct)], lp := [(7, ref05_add.lc0 N)], un := [], ks := [(7, [0, 1, 4, 5, 6, 7, 8, 22])], keep := [0, 1, 4, 5, 6, 7, 8, 14, 22] }
theorem ref05_add.step0 {R : Type} (N : Nat) (x0 : ByteArray) (x1 : ByteArray) (x4 : ByteArray) (x5 : Int) (n6 : Nat) (c6 : Nat) (k : Ex → St → Option R) (n : Nat) (x7 : Int) (x8 : Int) (m13 : List Int) :
    loopN (evCode (ref05_add.cfg N) N (loopAt 0 Tryz.f224)) [0, 1, 4, 5, 6, 7, 8] 17 (n + 1) (ref05_add.enc0 x0 x1 x4 x5 n6 c6 x7 x8 m13) k = ref05_add.b0 N x0 x1 x4 x5 n6 c6 (fun x7 x8 m13 => loopN (evCode (ref05_add.cfg N) N (loopAt 0 Tryz.f224)) [0, 1, 4, 5, 6, 7, 8] 17 n (ref05_add.enc0 x0 x1 x4 x5 n6 c6 x7 x8 m13) k) (fun x7 x8 m13 => k (.exit 0) (ref05_add.enc0 x0 x1 x4 x5 n6 c6 x7 x8 m13)) x7 x8 m13 := by kernel_rfl
theorem ref05_add.eq0 {R : Type} (N : Nat) (x0 : ByteArray) (x1 : ByteArray) (x4 : ByteArray) (x5 : Int) (n6 : Nat) (c6 : Nat) (k : Ex → St → Option R) : ∀ (n : Nat) (x7 : Int) (x8 : Int) (m13 : List Int), loopN (evCode (ref05_add.cfg N) N (loopAt 0 Tryz.f224)) [0, 1, 4, 5, 6, 7, 8] 17 n (ref05_add.enc0 x0 x1 x4 x5 n6 c6 x7 x8 m13) k = ref05_add.l0 N x0 x1 x4 x5 n6 c6 (fun x7 x8 m13 => k (.exit 0) (ref05_add.enc0 x0 x1 x4 x5 n6 c6 x7 x8 m13)) n x7 x8 m13
  | 0, _, _, _ => rfl
  | n + 1, x7, x8, m13 => (ref05_add.step0 N x0 x1 x4 x5 n6 c6 k n x7 x8 m13).trans (congrArg (fun self => ref05_add.b0 N x0 x1 x4 x5 n6 c6 self (fun x7 x8 m13 => k (.exit 0) (ref05_add.enc0 x0 x1 x4 x5 n6 c6 x7 x8 m13)) x7 x8 m13) ((funext fun x7 => funext fun x8 => funext fun m13 => ref05_add.eq0 N x0 x1 x4 x5 n6 c6 k n x7 x8 m13)))
theorem ref05_add.lca_ok (N : Nat) : LCOk (ref05_add.cfg N) N (loopAt 0 Tryz.f224) (ref05_add.lca N) := by
  intro R r st k h
  unfold ref05_add.lca at h
  obtain ⟨e, m, rfl, h⟩ := tkSt_some h
  obtain ⟨x0, e, rfl, h⟩ := tkD_some h
  obtain ⟨x1, e, rfl, h⟩ := tkD_some h
  obtain ⟨x4, e, rfl, h⟩ := tkD_some h
  obtain ⟨x5, e, rfl, h⟩ := tkD_some h
  obtain ⟨n6, c6, e, rfl, h⟩ := tkS_some h
  obtain ⟨x7, e, rfl, h⟩ := tkD_some h
  obtain ⟨x8, e, rfl, h⟩ := tkD_some h
  obtain ⟨rfl, h⟩ := tkN_some h
  obtain ⟨m13, m, rfl, h⟩ := tkM_some h
  obtain ⟨rfl, h⟩ := tkN_some h
  exact ⟨N, (ref05_add.eq0 N x0 x1 x4 x5 n6 c6 k N x7 x8 m13).trans h⟩
theorem ref05_add.step0b {R : Type} (N : Nat) (x0 : ByteArray) (x1 : ByteArray) (x4 : ByteArray) (x5 : Int) (n6 : Nat) (c6 : Nat) (k : Ex → St → Option R) (n : Nat) (x7 : Int) (x8 : Int) (m13 : List Int) :
    loopN (evCode (ref05_add.cfg N) N (loopAt 0 Tryz.f224)) [0, 1, 4, 5, 6, 7, 8] 14 (n + 1) (ref05_add.enc0b x0 x1 x4 x5 n6 c6 x7 x8 m13) k = ref05_add.b0 N x0 x1 x4 x5 n6 c6 (fun x7 x8 m13 => loopN (evCode (ref05_add.cfg N) N (loopAt 0 Tryz.f224)) [0, 1, 4, 5, 6, 7, 8] 14 n (ref05_add.enc0b x0 x1 x4 x5 n6 c6 x7 x8 m13) k) (fun x7 x8 m13 => k (.exit 0) (ref05_add.enc0b x0 x1 x4 x5 n6 c6 x7 x8 m13)) x7 x8 m13 := by kernel_rfl
theorem ref05_add.eq0b {R : Type} (N : Nat) (x0 : ByteArray) (x1 : ByteArray) (x4 : ByteArray) (x5 : Int) (n6 : Nat) (c6 : Nat) (k : Ex → St → Option R) : ∀ (n : Nat) (x7 : Int) (x8 : Int) (m13 : List Int), loopN (evCode (ref05_add.cfg N) N (loopAt 0 Tryz.f224)) [0, 1, 4, 5, 6, 7, 8] 14 n (ref05_add.enc0b x0 x1 x4 x5 n6 c6 x7 x8 m13) k = ref05_add.l0 N x0 x1 x4 x5 n6 c6 (fun x7 x8 m13 => k (.exit 0) (ref05_add.enc0b x0 x1 x4 x5 n6 c6 x7 x8 m13)) n x7 x8 m13
  | 0, _, _, _ => rfl
  | n + 1, x7, x8, m13 => (ref05_add.step0b N x0 x1 x4 x5 n6 c6 k n x7 x8 m13).trans (congrArg (fun self => ref05_add.b0 N x0 x1 x4 x5 n6 c6 self (fun x7 x8 m13 => k (.exit 0) (ref05_add.enc0b x0 x1 x4 x5 n6 c6 x7 x8 m13)) x7 x8 m13) ((funext fun x7 => funext fun x8 => funext fun m13 => ref05_add.eq0b N x0 x1 x4 x5 n6 c6 k n x7 x8 m13)))
theorem ref05_add.lcb_ok (N : Nat) : LCOk (ref05_add.cfg N) N (loopAt 0 Tryz.f224) (ref05_add.lcb N) := by
  intro R r st k h
  unfold ref05_add.lcb at h
  obtain ⟨e, m, rfl, h⟩ := tkSt_some h
  obtain ⟨x0, e, rfl, h⟩ := tkD_some h
  obtain ⟨x1, e, rfl, h⟩ := tkD_some h
  obtain ⟨x4, e, rfl, h⟩ := tkD_some h
  obtain ⟨x5, e, rfl, h⟩ := tkD_some h
  obtain ⟨n6, c6, e, rfl, h⟩ := tkS_some h
  obtain ⟨x7, e, rfl, h⟩ := tkD_some h
  obtain ⟨x8, e, rfl, h⟩ := tkD_some h
  obtain ⟨rfl, h⟩ := tkN_some h
  obtain ⟨m13, m, rfl, h⟩ := tkM_some h
  obtain ⟨rfl, h⟩ := tkN_some h
  exact ⟨N, (ref05_add.eq0b N x0 x1 x4 x5 n6 c6 k N x7 x8 m13).trans h⟩
theorem ref05_add.lc0_ok (N : Nat) : LCOk (ref05_add.cfg N) N (loopAt 0 Tryz.f224) (ref05_add.lc0 N) := by
  intro R r st k h
  unfold ref05_add.lc0 at h
  cases hb : Nat.beq st.nx 17 with
  | true => rw [hb] at h; exact ref05_add.lca_ok N R r st k h
  | false => rw [hb] at h; exact ref05_add.lcb_ok N R r st k h
theorem ref05_add.ev (N : Nat) (a : ByteArray) (b : ByteArray) : evFunc (ref05_add.cfg N) N Tryz.f224 [.v (dS.enc a), .v (dS.enc b)] [] 0 dS.dec = ref05_add.f N a b := by kernel_rfl
theorem ref05_add.hl (N : Nat) : ∀ body, Tryz.f224.body = some body → ∀ b ∈ loopsOf body, ∀ lc, lkL (firstReg b) (ref05_add.cfg N).lp = some lc → LCOk (ref05_add.cfg N) N b lc := by
  refine HL_of (ids := [7]) (by kernel_rfl) fun j lc hj h => ?_
  match j, hj, h with
    | 0, _, h => cases h; exact ref05_add.lc0_ok N
    | j + 1, hj, _ => exact absurd hj (by simp)
theorem ref05_add.cfg_ok (N : Nat) : CfgOk Tryz.prog (ref05_add.cfg N) := mkCfg (.cons ref05_fit.ok (.cons ref05_at.ok .nil)) _ _ _ _
theorem ref05_add.ok : CTok Tryz.prog 224 ref05_add.ct := CTok.of2 Tryz.call224 mix Tryz.func224 (Nat.le_of_ble_eq_true (by kernel_rfl)) (fun a b res hres _ _ => ⟨ref05_add.cfg fuel, fuel, ref05_add.cfg_ok fuel, ref05_add.hl fuel, (ref05_add.ev fuel a b).trans hres⟩)

def ref05_Add.cfg (_N : Nat) : Cfg := { T := tys, EQ := eqs, C := [(223, ref05_long.ct), (224, ref05_add.ct)], lp := [], un := [], ks := [], keep := [0, 1, 4, 5] }
theorem ref05_Add.ev (N : Nat) (a : ByteArray) (b : ByteArray) : evFunc (ref05_Add.cfg N) N Tryz.f163 [.v (dS.enc a), .v (dS.enc b)] [] 0 (dT2 dS (dI .i64)).dec = ref05_Add.g a b := by kernel_rfl
theorem ref05_Add.hl (N : Nat) : ∀ body, Tryz.f163.body = some body → ∀ b ∈ loopsOf body, ∀ lc, lkL (firstReg b) (ref05_Add.cfg N).lp = some lc → LCOk (ref05_Add.cfg N) N b lc := HL_nil rfl
theorem ref05_Add.cfg_ok (N : Nat) : CfgOk Tryz.prog (ref05_Add.cfg N) := mkCfg (.cons ref05_long.ok (.cons ref05_add.ok .nil)) _ _ _ _
theorem ref05_Add.ok : CTok Tryz.prog 163 ref05_Add.ct := CTok.of2 Tryz.call163 mix Tryz.func163 (Nat.le_of_ble_eq_true (by kernel_rfl)) (fun a b res hres _ _ => ⟨ref05_Add.cfg fuel, fuel, ref05_Add.cfg_ok fuel, ref05_Add.hl fuel, (ref05_Add.ev fuel a b).trans hres⟩)

def ref05_Of.cfg (N : Nat) : Cfg := { T := tys, EQ := eqs, C := [(164, ref05_fit.ct)], lp := [(3, ref05_Of.lc0 N)], un := [], ks := [(3, [0, 2, 3, 4, 7])], keep := [0, 2, 3, 4, 7] }
theorem ref05_Of.step0 {R : Type} (N : Nat) (x0 : Int) (x2 : ByteArray) (n3 : Nat) (c3 : Nat) (k : Ex → St → Option R) (n : Nat) (x4 : Int) (m1 : List Int) :
    loopN (evCode (ref05_Of.cfg N) N (loopAt 0 Tryz.f72)) [0, 2, 3, 4] 4 (n + 1) (ref05_Of.enc0 x0 x2 n3 c3 x4 m1) k = ref05_Of.b0 N x0 x2 n3 c3 (fun x4 m1 => loopN (evCode (ref05_Of.cfg N) N (loopAt 0 Tryz.f72)) [0, 2, 3, 4] 4 n (ref05_Of.enc0 x0 x2 n3 c3 x4 m1) k) (fun x4 m1 => k (.exit 0) (ref05_Of.enc0 x0 x2 n3 c3 x4 m1)) x4 m1 := by kernel_rfl
theorem ref05_Of.eq0 {R : Type} (N : Nat) (x0 : Int) (x2 : ByteArray) (n3 : Nat) (c3 : Nat) (k : Ex → St → Option R) : ∀ (n : Nat) (x4 : Int) (m1 : List Int), loopN (evCode (ref05_Of.cfg N) N (loopAt 0 Tryz.f72)) [0, 2, 3, 4] 4 n (ref05_Of.enc0 x0 x2 n3 c3 x4 m1) k = ref05_Of.l0 N x0 x2 n3 c3 (fun x4 m1 => k (.exit 0) (ref05_Of.enc0 x0 x2 n3 c3 x4 m1)) n x4 m1
  | 0, _, _ => rfl
  | n + 1, x4, m1 => (ref05_Of.step0 N x0 x2 n3 c3 k n x4 m1).trans (congrArg (fun self => ref05_Of.b0 N x0 x2 n3 c3 self (fun x4 m1 => k (.exit 0) (ref05_Of.enc0 x0 x2 n3 c3 x4 m1)) x4 m1) ((funext fun x4 => funext fun m1 => ref05_Of.eq0 N x0 x2 n3 c3 k n x4 m1)))
theorem ref05_Of.lc0_ok (N : Nat) : LCOk (ref05_Of.cfg N) N (loopAt 0 Tryz.f72) (ref05_Of.lc0 N) := by
  intro R r st k h
  unfold ref05_Of.lc0 at h
  obtain ⟨e, m, rfl, h⟩ := tkSt_some h
  obtain ⟨x0, e, rfl, h⟩ := tkD_some h
  obtain ⟨x2, e, rfl, h⟩ := tkD_some h
  obtain ⟨n3, c3, e, rfl, h⟩ := tkS_some h
  obtain ⟨x4, e, rfl, h⟩ := tkD_some h
  obtain ⟨rfl, h⟩ := tkN_some h
  obtain ⟨m1, m, rfl, h⟩ := tkM_some h
  obtain ⟨rfl, h⟩ := tkN_some h
  exact ⟨N, (ref05_Of.eq0 N x0 x2 n3 c3 k N x4 m1).trans h⟩
theorem ref05_Of.ev (N : Nat) (x : Int) : evFunc (ref05_Of.cfg N) N Tryz.f72 [.v ((dI .u64).enc x)] [] 0 dS.dec = ref05_Of.f N x := by kernel_rfl
theorem ref05_Of.hl (N : Nat) : ∀ body, Tryz.f72.body = some body → ∀ b ∈ loopsOf body, ∀ lc, lkL (firstReg b) (ref05_Of.cfg N).lp = some lc → LCOk (ref05_Of.cfg N) N b lc := by
  refine HL_of (ids := [3]) (by kernel_rfl) fun j lc hj h => ?_
  match j, hj, h with
    | 0, _, h => cases h; exact ref05_Of.lc0_ok N
    | j + 1, hj, _ => exact absurd hj (by simp)
theorem ref05_Of.cfg_ok (N : Nat) : CfgOk Tryz.prog (ref05_Of.cfg N) := mkCfg (.cons ref05_fit.ok .nil) _ _ _ _
theorem ref05_Of.ok : CTok Tryz.prog 72 ref05_Of.ct := CTok.of1 Tryz.call72 mix Tryz.func72 (Nat.le_of_ble_eq_true (by kernel_rfl)) (fun x res hres _ => ⟨ref05_Of.cfg fuel, fuel, ref05_Of.cfg_ok fuel, ref05_Of.hl fuel, (ref05_Of.ev fuel x).trans hres⟩)

def ref05_ToWide.cfg (N : Nat) : Cfg := { T := tys, EQ := eqs, C := [(165, ref05_May.ct), (166, ref05_at.ct)], lp := [(5, ref05_ToWide.lc0 N)], un := [], ks := [(5, [0, 2, 3, 4, 5, 18])], keep := [0, 2, 3, 4, 5, 13, 18] }
theorem ref05_ToWide.step0 {R : Type} (N : Nat) (x0 : ByteArray) (x3 : Bool) (m0 : W6) (k : Ex → St → Option R) (n : Nat) (x5 : Int) (m2 : W6) :
    loopN (evCode (ref05_ToWide.cfg N) N (loopAt 0 Tryz.f73)) [0, 2, 3, 4, 5] 12 (n + 1) (ref05_ToWide.enc0 x0 x3 x5 m2 m0) k = ref05_ToWide.b0 N x0 x3 m0 (fun x5 m2 => loopN (evCode (ref05_ToWide.cfg N) N (loopAt 0 Tryz.f73)) [0, 2, 3, 4, 5] 12 n (ref05_ToWide.enc0 x0 x3 x5 m2 m0) k) (fun x5 m2 => k (.exit 0) (ref05_ToWide.enc0 x0 x3 x5 m2 m0)) x5 m2 := by kernel_rfl
theorem ref05_ToWide.eq0 {R : Type} (N : Nat) (x0 : ByteArray) (x3 : Bool) (m0 : W6) (k : Ex → St → Option R) : ∀ (n : Nat) (x5 : Int) (m2 : W6), loopN (evCode (ref05_ToWide.cfg N) N (loopAt 0 Tryz.f73)) [0, 2, 3, 4, 5] 12 n (ref05_ToWide.enc0 x0 x3 x5 m2 m0) k = ref05_ToWide.l0 N x0 x3 m0 (fun x5 m2 => k (.exit 0) (ref05_ToWide.enc0 x0 x3 x5 m2 m0)) n x5 m2
  | 0, _, _ => rfl
  | n + 1, x5, m2 => (ref05_ToWide.step0 N x0 x3 m0 k n x5 m2).trans (congrArg (fun self => ref05_ToWide.b0 N x0 x3 m0 self (fun x5 m2 => k (.exit 0) (ref05_ToWide.enc0 x0 x3 x5 m2 m0)) x5 m2) ((funext fun x5 => funext fun m2 => ref05_ToWide.eq0 N x0 x3 m0 k n x5 m2)))
theorem ref05_ToWide.lc0_ok (N : Nat) : LCOk (ref05_ToWide.cfg N) N (loopAt 0 Tryz.f73) (ref05_ToWide.lc0 N) := by
  intro R r st k h
  unfold ref05_ToWide.lc0 at h
  obtain ⟨e, m, rfl, h⟩ := tkSt_some h
  obtain ⟨x0, e, rfl, h⟩ := tkD_some h
  obtain ⟨e, rfl, h⟩ := tkP_some h
  obtain ⟨x3, e, rfl, h⟩ := tkD_some h
  obtain ⟨e, rfl, h⟩ := tkP_some h
  obtain ⟨x5, e, rfl, h⟩ := tkD_some h
  obtain ⟨rfl, h⟩ := tkN_some h
  obtain ⟨m2, m, rfl, h⟩ := tkM_some h
  obtain ⟨m0, m, rfl, h⟩ := tkM_some h
  obtain ⟨rfl, h⟩ := tkN_some h
  exact ⟨N, (ref05_ToWide.eq0 N x0 x3 m0 k N x5 m2).trans h⟩
theorem ref05_ToWide.ev (N : Nat) (a : ByteArray) : evFunc (ref05_ToWide.cfg N) N Tryz.f73 [.v (dS.enc a)] [] 0 (dT2 dW dB).dec = ref05_ToWide.f N a := by kernel_rfl
theorem ref05_ToWide.hl (N : Nat) : ∀ body, Tryz.f73.body = some body → ∀ b ∈ loopsOf body, ∀ lc, lkL (firstReg b) (ref05_ToWide.cfg N).lp = some lc → LCOk (ref05_ToWide.cfg N) N b lc := by
  refine HL_of (ids := [5]) (by kernel_rfl) fun j lc hj h => ?_
  match j, hj, h with
    | 0, _, h => cases h; exact ref05_ToWide.lc0_ok N
    | j + 1, hj, _ => exact absurd hj (by simp)
theorem ref05_ToWide.cfg_ok (N : Nat) : CfgOk Tryz.prog (ref05_ToWide.cfg N) := mkCfg (.cons ref05_May.ok (.cons ref05_at.ok .nil)) _ _ _ _
theorem ref05_ToWide.ok : CTok Tryz.prog 73 ref05_ToWide.ct := CTok.of1 Tryz.call73 mix Tryz.func73 (Nat.le_of_ble_eq_true (by kernel_rfl)) (fun a res hres _ => ⟨ref05_ToWide.cfg fuel, fuel, ref05_ToWide.cfg_ok fuel, ref05_ToWide.hl fuel, (ref05_ToWide.ev fuel a).trans hres⟩)

def ref06_odd.cfg (_N : Nat) : Cfg := { T := tys, EQ := eqs, C := [], lp := [], un := [], ks := [], keep := [0, 2] }
theorem ref06_odd.ev (N : Nat) (a : ByteArray) : evFunc (ref06_odd.cfg N) N Tryz.f247 [.v (dS.enc a)] [] 0 dB.dec = ref06_odd.g a := by kernel_rfl
theorem ref06_odd.hl (N : Nat) : ∀ body, Tryz.f247.body = some body → ∀ b ∈ loopsOf body, ∀ lc, lkL (firstReg b) (ref06_odd.cfg N).lp = some lc → LCOk (ref06_odd.cfg N) N b lc := HL_nil rfl
theorem ref06_odd.cfg_ok (N : Nat) : CfgOk Tryz.prog (ref06_odd.cfg N) := mkCfg .nil _ _ _ _
theorem ref06_odd.ok : CTok Tryz.prog 247 ref06_odd.ct := CTok.of1 Tryz.call247 mix Tryz.func247 (Nat.le_of_ble_eq_true (by kernel_rfl)) (fun a res hres _ => ⟨ref06_odd.cfg fuel, fuel, ref06_odd.cfg_ok fuel, ref06_odd.hl fuel, (ref06_odd.ev fuel a).trans hres⟩)

def ref06_May.cfg (_N : Nat) : Cfg := { T := tys, EQ := eqs, C := [(165, ref05_May.ct), (177, ref06_Null.ct), (179, ref05_Gcd.ct), (247, ref06_odd.ct)], lp := [], un := [], ks := [], keep := [0, 1, 2, 3, 4, 31, 33] }
theorem ref06_May.ev (N : Nat) (x : Exc) : evFunc (ref06_May.cfg N) N Tryz.f231 [.v (dExc.enc x)] [] 0 dB.dec = ref06_May.g x := by kernel_rfl
theorem ref06_May.hl (N : Nat) : ∀ body, Tryz.f231.body = some body → ∀ b ∈ loopsOf body, ∀ lc, lkL (firstReg b) (ref06_May.cfg N).lp = some lc → LCOk (ref06_May.cfg N) N b lc := HL_nil rfl
theorem ref06_May.cfg_ok (N : Nat) : CfgOk Tryz.prog (ref06_May.cfg N) := mkCfg (.cons ref05_May.ok (.cons ref06_Null.ok (.cons ref05_Gcd.ok (.cons ref06_odd.ok .nil)))) _ _ _ _
theorem ref06_May.ok : CTok Tryz.prog 231 ref06_May.ct := CTok.of1 Tryz.call231 mix Tryz.func231 (Nat.le_of_ble_eq_true (by kernel_rfl)) (fun x res hres _ => ⟨ref06_May.cfg fuel, fuel, ref06_May.cfg_ok fuel, ref06_May.hl fuel, (ref06_May.ev fuel x).trans hres⟩)

def ref08_Of.cfg (_N : Nat) : Cfg := { T := tys, EQ := eqs, C := [(73, ref05_ToWide.ct), (155, ref02_Len.ct), (160, ref06_Floor.ct), (190, ref07_Precision.ct), (191, ref07_Build.ct), (195, ref06_Top.ct), (196, ref07_Emax.ct), (197, ref07_Emin.ct), (198, ref02_And.ct), (199, ref02_Mask.ct)], lp := [], un := [], ks := [], keep := [0, 1, 3, 4, 5, 6, 7, 9, 10, 13, 15, 18, 35, 41, 51, 68] }
theorem ref08_Of.ev (N : Nat) (f : Int) (x : Exc) : evFunc (ref08_Of.cfg N) N Tryz.f98 [.v ((dI .u8).enc f), .v (dExc.enc x)] [] 0 (dT2 dBits dB).dec = ref08_Of.g f x := by kernel_rfl
theorem ref08_Of.hl (N : Nat) : ∀ body, Tryz.f98.body = some body → ∀ b ∈ loopsOf body, ∀ lc, lkL (firstReg b) (ref08_Of.cfg N).lp = some lc → LCOk (ref08_Of.cfg N) N b lc := HL_nil rfl
theorem ref08_Of.cfg_ok (N : Nat) : CfgOk Tryz.prog (ref08_Of.cfg N) := mkCfg (.cons ref05_ToWide.ok (.cons ref02_Len.ok (.cons ref06_Floor.ok (.cons ref07_Precision.ok (.cons ref07_Build.ok (.cons ref06_Top.ok (.cons ref07_Emax.ok (.cons ref07_Emin.ok (.cons ref02_And.ok (.cons ref02_Mask.ok .nil)))))))))) _ _ _ _
theorem ref08_Of.ok : CTok Tryz.prog 98 ref08_Of.ct := CTok.of2 Tryz.call98 mix Tryz.func98 (Nat.le_of_ble_eq_true (by kernel_rfl)) (fun f x res hres _ _ => ⟨ref08_Of.cfg fuel, fuel, ref08_Of.cfg_ok fuel, ref08_Of.hl fuel, (ref08_Of.ev fuel f x).trans hres⟩)

def ref05_Sqrt.cfg (N : Nat) : Cfg := { T := tys, EQ := eqs, C := [(71, ref05_Cmp.ct), (72, ref05_Of.ct), (224, ref05_add.ct), (227, ref05_Len.ct), (228, ref05_double.ct), (229, ref05_bit.ct), (230, ref05_sub.ct)], lp := [(4, ref05_Sqrt.lc0 N)], un := [], ks := [(4, [0, 2, 3, 4, 5, 6, 7, 13, 36])], keep := [0, 2, 3, 4, 5, 6, 7, 13, 36] }
theorem ref05_Sqrt.step0 {R : Type} (N : Nat) (x0 : ByteArray) (x2 : ByteArray) (x3 : ByteArray) (k : Ex → St → Option R) (n : Nat) (x4 : ByteArray) (x5 : ByteArray) (x6 : Int) :
    loopN (evCode (ref05_Sqrt.cfg N) N (loopAt 0 Tryz.f250)) [0, 2, 3, 4, 5, 6] 9 (n + 1) (ref05_Sqrt.enc0 x0 x2 x3 x4 x5 x6) k = ref05_Sqrt.b0 N x0 x2 x3 (fun x4 x5 x6 => loopN (evCode (ref05_Sqrt.cfg N) N (loopAt 0 Tryz.f250)) [0, 2, 3, 4, 5, 6] 9 n (ref05_Sqrt.enc0 x0 x2 x3 x4 x5 x6) k) (fun x4 x5 x6 => k (.exit 0) (ref05_Sqrt.enc0 x0 x2 x3 x4 x5 x6)) x4 x5 x6 := by kernel_rfl
theorem ref05_Sqrt.eq0 {R : Type} (N : Nat) (x0 : ByteArray) (x2 : ByteArray) (x3 : ByteArray) (k : Ex → St → Option R) : ∀ (n : Nat) (x4 : ByteArray) (x5 : ByteArray) (x6 : Int), loopN (evCode (ref05_Sqrt.cfg N) N (loopAt 0 Tryz.f250)) [0, 2, 3, 4, 5, 6] 9 n (ref05_Sqrt.enc0 x0 x2 x3 x4 x5 x6) k = ref05_Sqrt.l0 N x0 x2 x3 (fun x4 x5 x6 => k (.exit 0) (ref05_Sqrt.enc0 x0 x2 x3 x4 x5 x6)) n x4 x5 x6
  | 0, _, _, _ => rfl
  | n + 1, x4, x5, x6 => (ref05_Sqrt.step0 N x0 x2 x3 k n x4 x5 x6).trans (congrArg (fun self => ref05_Sqrt.b0 N x0 x2 x3 self (fun x4 x5 x6 => k (.exit 0) (ref05_Sqrt.enc0 x0 x2 x3 x4 x5 x6)) x4 x5 x6) ((funext fun x4 => funext fun x5 => funext fun x6 => ref05_Sqrt.eq0 N x0 x2 x3 k n x4 x5 x6)))
theorem ref05_Sqrt.lc0_ok (N : Nat) : LCOk (ref05_Sqrt.cfg N) N (loopAt 0 Tryz.f250) (ref05_Sqrt.lc0 N) := by
  intro R r st k h
  unfold ref05_Sqrt.lc0 at h
  obtain ⟨e, m, rfl, h⟩ := tkSt_some h
  obtain ⟨x0, e, rfl, h⟩ := tkD_some h
  obtain ⟨x2, e, rfl, h⟩ := tkD_some h
  obtain ⟨x3, e, rfl, h⟩ := tkD_some h
  obtain ⟨x4, e, rfl, h⟩ := tkD_some h
  obtain ⟨x5, e, rfl, h⟩ := tkD_some h
  obtain ⟨x6, e, rfl, h⟩ := tkD_some h
  obtain ⟨rfl, h⟩ := tkN_some h
  obtain ⟨rfl, h⟩ := tkN_some h
  exact ⟨N, (ref05_Sqrt.eq0 N x0 x2 x3 k N x4 x5 x6).trans h⟩
theorem ref05_Sqrt.ev (N : Nat) (a : ByteArray) : evFunc (ref05_Sqrt.cfg N) N Tryz.f250 [.v (dS.enc a)] [] 0 (dT2 dS dS).dec = ref05_Sqrt.f N a := by kernel_rfl
theorem ref05_Sqrt.hl (N : Nat) : ∀ body, Tryz.f250.body = some body → ∀ b ∈ loopsOf body, ∀ lc, lkL (firstReg b) (ref05_Sqrt.cfg N).lp = some lc → LCOk (ref05_Sqrt.cfg N) N b lc := by
  refine HL_of (ids := [4]) (by kernel_rfl) fun j lc hj h => ?_
  match j, hj, h with
    | 0, _, h => cases h; exact ref05_Sqrt.lc0_ok N
    | j + 1, hj, _ => exact absurd hj (by simp)
theorem ref05_Sqrt.cfg_ok (N : Nat) : CfgOk Tryz.prog (ref05_Sqrt.cfg N) := mkCfg (.cons ref05_Cmp.ok (.cons ref05_Of.ok (.cons ref05_add.ok (.cons ref05_Len.ok (.cons ref05_double.ok (.cons ref05_bit.ok (.cons ref05_sub.ok .nil))))))) _ _ _ _
theorem ref05_Sqrt.ok : CTok Tryz.prog 250 ref05_Sqrt.ct := CTok.of1 Tryz.call250 mix Tryz.func250 (Nat.le_of_ble_eq_true (by kernel_rfl)) (fun a res hres _ => ⟨ref05_Sqrt.cfg fuel, fuel, ref05_Sqrt.cfg_ok fuel, ref05_Sqrt.hl fuel, (ref05_Sqrt.ev fuel a).trans hres⟩)

def ref05_Mul.cfg (N : Nat) : Cfg := { T := tys, EQ := eqs, C := [(164, ref05_fit.ct), (166, ref05_at.ct), (223, ref05_long.ct)], lp := [(12, ref05_Mul.lc1 N), (18, ref05_Mul.lc2 N), (7, ref05_Mul.lc0 N)], un := [], ks := [(7, [0, 1, 4, 5, 6, 7, 8, 9, 10, 11, 34, 43, 75]), (12, [0, 1, 4, 5, 6, 7, 8, 9, 10, 11, 34, 43, 75]), (18, [0, 1, 4, 5, 6, 7, 8, 9, 10, 11, 34, 43, 75])], keep := [0, 1, 4, 5, 6, 7, 8, 9, 10, 11, 17, 23, 34, 43, 75] }
theorem ref05_Mul.step1 {R : Type} (N : Nat) (x0 : ByteArray) (x1 : ByteArray) (x4 : ByteArray) (x5 : Int) (n6 : Nat) (c6 : Nat) (x7 : Int) (x34 : Bool) (x9 : Int) (k : Ex → St → Option R) (n : Nat) (x8 : Int) (x10 : Int) (m14 : List Int) :
    loopN (evCode (ref05_Mul.cfg N) N (loopAt 1 Tryz.f202)) [0, 1, 4, 5, 6, 7, 34, 8, 9, 10] 27 (n + 1) (ref05_Mul.enc1 x0 x1 x4 x5 n6 c6 x7 x34 x8 x9 x10 m14) k = ref05_Mul.b1 N x0 x1 x4 x5 n6 c6 x7 x34 x9 (fun x8 x10 m14 => loopN (evCode (ref05_Mul.cfg N) N (loopAt 1 Tryz.f202)) [0, 1, 4, 5, 6, 7, 34, 8, 9, 10] 27 n (ref05_Mul.enc1 x0 x1 x4 x5 n6 c6 x7 x34 x8 x9 x10 m14) k) (fun x8 x10 m14 => k (.exit 2) (ref05_Mul.enc1 x0 x1 x4 x5 n6 c6 x7 x34 x8 x9 x10 m14)) x8 x10 m14 := by kernel_rfl
theorem ref05_Mul.eq1 {R : Type} (N : Nat) (x0 : ByteArray) (x1 : ByteArray) (x4 : ByteArray) (x5 : Int) (n6 : Nat) (c6 : Nat) (x7 : Int) (x34 : Bool) (x9 : Int) (k : Ex → St → Option R) : ∀ (n : Nat) (x8 : Int) (x10 : Int) (m14 : List Int), loopN (evCode (ref05_Mul.cfg N) N (loopAt 1 Tryz.f202)) [0, 1, 4, 5, 6, 7, 34, 8, 9, 10] 27 n (ref05_Mul.enc1 x0 x1 x4 x5 n6 c6 x7 x34 x8 x9 x10 m14) k = ref05_Mul.l1 N x0 x1 x4 x5 n6 c6 x7 x34 x9 (fun x8 x10 m14 => k (.exit 2) (ref05_Mul.enc1 x0 x1 x4 x5 n6 c6 x7 x34 x8 x9 x10 m14)) n x8 x10 m14
  | 0, _, _, _ => rfl
  | n + 1, x8, x10, m14 => (ref05_Mul.step1 N x0 x1 x4 x5 n6 c6 x7 x34 x9 k n x8 x10 m14).trans (congrArg (fun self => ref05_Mul.b1 N x0 x1 x4 x5 n6 c6 x7 x34 x9 self (fun x8 x10 m14 => k (.exit 2) (ref05_Mul.enc1 x0 x1 x4 x5 n6 c6 x7 x34 x8 x9 x10 m14)) x8 x10 m14) ((funext fun x8 => funext fun x10 => funext fun m14 => ref05_Mul.eq1 N x0 x1 x4 x5 n6 c6 x7 x34 x9 k n x8 x10 m14)))
theorem ref05_Mul.lc1_ok (N : Nat) : LCOk (ref05_Mul.cfg N) N (loopAt 1 Tryz.f202) (ref05_Mul.lc1 N) := by
  intro R r st k h
  unfold ref05_Mul.lc1 at h
  obtain ⟨e, m, rfl, h⟩ := tkSt_some h
  obtain ⟨x0, e, rfl, h⟩ := tkD_some h
  obtain ⟨x1, e, rfl, h⟩ := tkD_some h
  obtain ⟨x4, e, rfl, h⟩ := tkD_some h
  obtain ⟨x5, e, rfl, h⟩ := tkD_some h
  obtain ⟨n6, c6, e, rfl, h⟩ := tkS_some h
  obtain ⟨x7, e, rfl, h⟩ := tkD_some h
  obtain ⟨x34, e, rfl, h⟩ := tkD_some h
  obtain ⟨x8, e, rfl, h⟩ := tkD_some h
  obtain ⟨x9, e, rfl, h⟩ := tkD_some h
  obtain ⟨x10, e, rfl, h⟩ := tkD_some h
  obtain ⟨rfl, h⟩ := tkN_some h
  obtain ⟨m14, m, rfl, h⟩ := tkM_some h
  obtain ⟨rfl, h⟩ := tkN_some h
  exact ⟨N, (ref05_Mul.eq1 N x0 x1 x4 x5 n6 c6 x7 x34 x9 k N x8 x10 m14).trans h⟩
theorem ref05_Mul.step2 {R : Type} (N : Nat) (x0 : ByteArray) (x1 : ByteArray) (x4 : ByteArray) (x5 : Int) (n6 : Nat) (c6 : Nat) (x7 : Int) (x34 : Bool) (x9 : Int) (x10 : Int) (k : Ex → St → Option R) (n : Nat) (x8 : Int) (x11 : Int) (m14 : List Int) :
    loopN (evCode (ref05_Mul.cfg N) N (loopAt 2 Tryz.f202)) [0, 1, 4, 5, 6, 7, 34, 8, 9, 10, 11] 32 (n + 1) (ref05_Mul.enc2 x0 x1 x4 x5 n6 c6 x7 x34 x8 x9 x10 x11 m14) k = ref05_Mul.b2 N x0 x1 x4 x5 n6 c6 x7 x34 x9 x10 (fun x8 x11 m14 => loopN (evCode (ref05_Mul.cfg N) N (loopAt 2 Tryz.f202)) [0, 1, 4, 5, 6, 7, 34, 8, 9, 10, 11] 32 n (ref05_Mul.enc2 x0 x1 x4 x5 n6 c6 x7 x34 x8 x9 x10 x11 m14) k) (fun x8 x11 m14 => k (.exit 4) (ref05_Mul.enc2 x0 x1 x4 x5 n6 c6 x7 x34 x8 x9 x10 x11 m14)) x8 x11 m14 := by kernel_rfl
theorem ref05_Mul.eq2 {R : Type} (N : Nat) (x0 : ByteArray) (x1 : ByteArray) (x4 : ByteArray) (x5 : Int) (n6 : Nat) (c6 : Nat) (x7 : Int) (x34 : Bool) (x9 : Int) (x10 : Int) (k : Ex → St → Option R) : ∀ (n : Nat) (x8 : Int) (x11 : Int) (m14 : List Int), loopN (evCode (ref05_Mul.cfg N) N (loopAt 2 Tryz.f202)) [0, 1, 4, 5, 6, 7, 34, 8, 9, 10, 11] 32 n (ref05_Mul.enc2 x0 x1 x4 x5 n6 c6 x7 x34 x8 x9 x10 x11 m14) k = ref05_Mul.l2 N x0 x1 x4 x5 n6 c6 x7 x34 x9 x10 (fun x8 x11 m14 => k (.exit 4) (ref05_Mul.enc2 x0 x1 x4 x5 n6 c6 x7 x34 x8 x9 x10 x11 m14)) n x8 x11 m14
  | 0, _, _, _ => rfl
  | n + 1, x8, x11, m14 => (ref05_Mul.step2 N x0 x1 x4 x5 n6 c6 x7 x34 x9 x10 k n x8 x11 m14).trans (congrArg (fun self => ref05_Mul.b2 N x0 x1 x4 x5 n6 c6 x7 x34 x9 x10 self (fun x8 x11 m14 => k (.exit 4) (ref05_Mul.enc2 x0 x1 x4 x5 n6 c6 x7 x34 x8 x9 x10 x11 m14)) x8 x11 m14) ((funext fun x8 => funext fun x11 => funext fun m14 => ref05_Mul.eq2 N x0 x1 x4 x5 n6 c6 x7 x34 x9 x10 k n x8 x11 m14)))
theorem ref05_Mul.lc2_ok (N : Nat) : LCOk (ref05_Mul.cfg N) N (loopAt 2 Tryz.f202) (ref05_Mul.lc2 N) := by
  intro R r st k h
  unfold ref05_Mul.lc2 at h
  obtain ⟨e, m, rfl, h⟩ := tkSt_some h
  obtain ⟨x0, e, rfl, h⟩ := tkD_some h
  obtain ⟨x1, e, rfl, h⟩ := tkD_some h
  obtain ⟨x4, e, rfl, h⟩ := tkD_some h
  obtain ⟨x5, e, rfl, h⟩ := tkD_some h
  obtain ⟨n6, c6, e, rfl, h⟩ := tkS_some h
  obtain ⟨x7, e, rfl, h⟩ := tkD_some h
  obtain ⟨x34, e, rfl, h⟩ := tkD_some h
  obtain ⟨x8, e, rfl, h⟩ := tkD_some h
  obtain ⟨x9, e, rfl, h⟩ := tkD_some h
  obtain ⟨x10, e, rfl, h⟩ := tkD_some h
  obtain ⟨x11, e, rfl, h⟩ := tkD_some h
  obtain ⟨rfl, h⟩ := tkN_some h
  obtain ⟨m14, m, rfl, h⟩ := tkM_some h
  obtain ⟨rfl, h⟩ := tkN_some h
  exact ⟨N, (ref05_Mul.eq2 N x0 x1 x4 x5 n6 c6 x7 x34 x9 x10 k N x8 x11 m14).trans h⟩
theorem ref05_Mul.step0 {R : Type} (N : Nat) (x0 : ByteArray) (x1 : ByteArray) (x4 : ByteArray) (x5 : Int) (n6 : Nat) (c6 : Nat) (k : Ex → St → Option R) (n : Nat) (x7 : Int) (m14 : List Int) :
    loopN (evCode (ref05_Mul.cfg N) N (loopAt 0 Tryz.f202)) [0, 1, 4, 5, 6, 7] 17 (n + 1) (ref05_Mul.enc0 x0 x1 x4 x5 n6 c6 x7 m14) k = ref05_Mul.b0 N x0 x1 x4 x5 n6 c6 (fun x7 m14 => loopN (evCode (ref05_Mul.cfg N) N (loopAt 0 Tryz.f202)) [0, 1, 4, 5, 6, 7] 17 n (ref05_Mul.enc0 x0 x1 x4 x5 n6 c6 x7 m14) k) (fun x7 m14 => k (.exit 0) (ref05_Mul.enc0 x0 x1 x4 x5 n6 c6 x7 m14)) x7 m14 := by kernel_rfl
theorem ref05_Mul.eq0 {R : Type} (N : Nat) (x0 : ByteArray) (x1 : ByteArray) (x4 : ByteArray) (x5 : Int) (n6 : Nat) (c6 : Nat) (k : Ex → St → Option R) : ∀ (n : Nat) (x7 : Int) (m14 : List Int), loopN (evCode (ref05_Mul.cfg N) N (loopAt 0 Tryz.f202)) [0, 1, 4, 5, 6, 7] 17 n (ref05_Mul.enc0 x0 x1 x4 x5 n6 c6 x7 m14) k = ref05_Mul.l0 N x0 x1 x4 x5 n6 c6 (fun x7 m14 => k (.exit 0) (ref05_Mul.enc0 x0 x1 x4 x5 n6 c6 x7 m14)) n x7 m14
  | 0, _, _ => rfl
  | n + 1, x7, m14 => (ref05_Mul.step0 N x0 x1 x4 x5 n6 c6 k n x7 m14).trans (congrArg (fun self => ref05_Mul.b0 N x0 x1 x4 x5 n6 c6 self (fun x7 m14 => k (.exit 0) (ref05_Mul.enc0 x0 x1 x4 x5 n6 c6 x7 m14)) x7 m14) ((funext fun x7 => funext fun m14 => ref05_Mul.eq0 N x0 x1 x4 x5 n6 c6 k n x7 m14)))
theorem ref05_Mul.lc0_ok (N : Nat) : LCOk (ref05_Mul.cfg N) N (loopAt 0 Tryz.f202) (ref05_Mul.lc0 N) := by
  intro R r st k h
  unfold ref05_Mul.lc0 at h
  obtain ⟨e, m, rfl, h⟩ := tkSt_some h
  obtain ⟨x0, e, rfl, h⟩ := tkD_some h
  obtain ⟨x1, e, rfl, h⟩ := tkD_some h
  obtain ⟨x4, e, rfl, h⟩ := tkD_some h
  obtain ⟨x5, e, rfl, h⟩ := tkD_some h
  obtain ⟨n6, c6, e, rfl, h⟩ := tkS_some h
  obtain ⟨x7, e, rfl, h⟩ := tkD_some h
  obtain ⟨rfl, h⟩ := tkN_some h
  obtain ⟨m14, m, rfl, h⟩ := tkM_some h
  obtain ⟨rfl, h⟩ := tkN_some h
  exact ⟨N, (ref05_Mul.eq0 N x0 x1 x4 x5 n6 c6 k N x7 m14).trans h⟩
theorem ref05_Mul.ev (N : Nat) (a : ByteArray) (b : ByteArray) : evFunc (ref05_Mul.cfg N) N Tryz.f202 [.v (dS.enc a), .v (dS.enc b)] [] 0 (dT2 dS (dI .i64)).dec = ref05_Mul.f N a b := by kernel_rfl
theorem ref05_Mul.hl (N : Nat) : ∀ body, Tryz.f202.body = some body → ∀ b ∈ loopsOf body, ∀ lc, lkL (firstReg b) (ref05_Mul.cfg N).lp = some lc → LCOk (ref05_Mul.cfg N) N b lc := by
  refine HL_of (ids := [7, 12, 18]) (by kernel_rfl) fun j lc hj h => ?_
  match j, hj, h with
    | 0, _, h => cases h; exact ref05_Mul.lc0_ok N
    | 1, _, h => cases h; exact ref05_Mul.lc1_ok N
    | 2, _, h => cases h; exact ref05_Mul.lc2_ok N
    | j + 3, hj, _ => exact absurd hj (by simp)
theorem ref05_Mul.cfg_ok (N : Nat) : CfgOk Tryz.prog (ref05_Mul.cfg N) := mkCfg (.cons ref05_fit.ok (.cons ref05_at.ok (.cons ref05_long.ok .nil))) _ _ _ _
theorem ref05_Mul.ok : CTok Tryz.prog 202 ref05_Mul.ct := CTok.of2 Tryz.call202 mix Tryz.func202 (Nat.le_of_ble_eq_true (by kernel_rfl)) (fun a b res hres _ _ => ⟨ref05_Mul.cfg fuel, fuel, ref05_Mul.cfg_ok fuel, ref05_Mul.hl fuel, (ref05_Mul.ev fuel a b).trans hres⟩)

def ref06_Mul.cfg (_N : Nat) : Cfg := { T := tys, EQ := eqs, C := [(77, ref06_Make.ct), (177, ref06_Null.ct), (202, ref05_Mul.ct)], lp := [], un := [], ks := [], keep := [0, 1, 2, 3, 4, 5, 6, 7, 8, 9, 10, 18, 54] }
theorem ref06_Mul.ev (N : Nat) (x : Exc) (y : Exc) : evFunc (ref06_Mul.cfg N) N Tryz.f109 [.v (dExc.enc x), .v (dExc.enc y)] [] 0 (dT2 dExc (dI .i64)).dec = ref06_Mul.g x y := by kernel_rfl
theorem ref06_Mul.hl (N : Nat) : ∀ body, Tryz.f109.body = some body → ∀ b ∈ loopsOf body, ∀ lc, lkL (firstReg b) (ref06_Mul.cfg N).lp = some lc → LCOk (ref06_Mul.cfg N) N b lc := HL_nil rfl
theorem ref06_Mul.cfg_ok (N : Nat) : CfgOk Tryz.prog (ref06_Mul.cfg N) := mkCfg (.cons ref06_Make.ok (.cons ref06_Null.ok (.cons ref05_Mul.ok .nil))) _ _ _ _
theorem ref06_Mul.ok : CTok Tryz.prog 109 ref06_Mul.ct := CTok.of2 Tryz.call109 mix Tryz.func109 (Nat.le_of_ble_eq_true (by kernel_rfl)) (fun x y res hres _ _ => ⟨ref06_Mul.cfg fuel, fuel, ref06_Mul.cfg_ok fuel, ref06_Mul.hl fuel, (ref06_Mul.ev fuel x y).trans hres⟩)

def ref06_Quo.cfg (_N : Nat) : Cfg := { T := tys, EQ := eqs, C := [(77, ref06_Make.ct), (177, ref06_Null.ct), (202, ref05_Mul.ct)], lp := [], un := [], ks := [], keep := [0, 1, 2, 3, 4, 5, 6, 7, 8, 9, 10, 13, 17, 53] }
theorem ref06_Quo.ev (N : Nat) (x : Exc) (y : Exc) : evFunc (ref06_Quo.cfg N) N Tryz.f127 [.v (dExc.enc x), .v (dExc.enc y)] [] 0 (dT2 dExc (dI .i64)).dec = ref06_Quo.g x y := by kernel_rfl
theorem ref06_Quo.hl (N : Nat) : ∀ body, Tryz.f127.body = some body → ∀ b ∈ loopsOf body, ∀ lc, lkL (firstReg b) (ref06_Quo.cfg N).lp = some lc → LCOk (ref06_Quo.cfg N) N b lc := HL_nil rfl
theorem ref06_Quo.cfg_ok (N : Nat) : CfgOk Tryz.prog (ref06_Quo.cfg N) := mkCfg (.cons ref06_Make.ok (.cons ref06_Null.ok (.cons ref05_Mul.ok .nil))) _ _ _ _
theorem ref06_Quo.ok : CTok Tryz.prog 127 ref06_Quo.ct := CTok.of2 Tryz.call127 mix Tryz.func127 (Nat.le_of_ble_eq_true (by kernel_rfl)) (fun x y res hres _ _ => ⟨ref06_Quo.cfg fuel, fuel, ref06_Quo.cfg_ok fuel, ref06_Quo.hl fuel, (ref06_Quo.ev fuel x y).trans hres⟩)

def ref06_Two.cfg (_N : Nat) : Cfg := { T := tys, EQ := eqs, C := [(202, ref05_Mul.ct), (221, ref05_Left.ct)], lp := [], un := [], ks := [], keep := [0, 1, 2, 3, 4, 5, 6, 7, 8, 9, 10, 11, 12, 18, 42, 66] }
theorem ref06_Two.ev (N : Nat) (x : Exc) (y : Exc) : evFunc (ref06_Two.cfg N) N Tryz.f212 [.v (dExc.enc x), .v (dExc.enc y)] [] 0 (dT4 dS dS (dI .i64) (dI .i64)).dec = ref06_Two.g x y := by kernel_rfl
theorem ref06_Two.hl (N : Nat) : ∀ body, Tryz.f212.body = some body → ∀ b ∈ loopsOf body, ∀ lc, lkL (firstReg b) (ref06_Two.cfg N).lp = some lc → LCOk (ref06_Two.cfg N) N b lc := HL_nil rfl
theorem ref06_Two.cfg_ok (N : Nat) : CfgOk Tryz.prog (ref06_Two.cfg N) := mkCfg (.cons ref05_Mul.ok (.cons ref05_Left.ok .nil)) _ _ _ _
theorem ref06_Two.ok : CTok Tryz.prog 212 ref06_Two.ct := CTok.of2 Tryz.call212 mix Tryz.func212 (Nat.le_of_ble_eq_true (by kernel_rfl)) (fun x y res hres _ _ => ⟨ref06_Two.cfg fuel, fuel, ref06_Two.cfg_ok fuel, ref06_Two.hl fuel, (ref06_Two.ev fuel x y).trans hres⟩)

def ref05_Sub.cfg (_N : Nat) : Cfg := { T := tys, EQ := eqs, C := [(71, ref05_Cmp.ct), (230, ref05_sub.ct)], lp := [], un := [], ks := [], keep := [0, 1, 4, 5, 9] }
theorem ref05_Sub.ev (N : Nat) (a : ByteArray) (b : ByteArray) : evFunc (ref05_Sub.cfg N) N Tryz.f213 [.v (dS.enc a), .v (dS.enc b)] [] 0 (dT2 dS (dI .i64)).dec = ref05_Sub.g a b := by kernel_rfl
theorem ref05_Sub.hl (N : Nat) : ∀ body, Tryz.f213.body = some body → ∀ b ∈ loopsOf body, ∀ lc, lkL (firstReg b) (ref05_Sub.cfg N).lp = some lc → LCOk (ref05_Sub.cfg N) N b lc := HL_nil rfl
theorem ref05_Sub.cfg_ok (N : Nat) : CfgOk Tryz.prog (ref05_Sub.cfg N) := mkCfg (.cons ref05_Cmp.ok (.cons ref05_sub.ok .nil)) _ _ _ _
theorem ref05_Sub.ok : CTok Tryz.prog 213 ref05_Sub.ct := CTok.of2 Tryz.call213 mix Tryz.func213 (Nat.le_of_ble_eq_true (by kernel_rfl)) (fun a b res hres _ _ => ⟨ref05_Sub.cfg fuel, fuel, ref05_Sub.cfg_ok fuel, ref05_Sub.hl fuel, (ref05_Sub.ev fuel a b).trans hres⟩)

def ref06_Add.cfg (_N : Nat) : Cfg := { T := tys, EQ := eqs, C := [(71, ref05_Cmp.ct), (77, ref06_Make.ct), (163, ref05_Add.ct), (202, ref05_Mul.ct), (212, ref06_Two.ct), (213, ref05_Sub.ct)], lp := [], un := [], ks := [], keep := [0, 1, 2, 3, 4, 5, 6, 7, 8, 9, 10, 11, 12, 13, 15, 19, 23, 34, 46, 53, 61, 75] }
theorem ref06_Add.ev (N : Nat) (x : Exc) (y : Exc) : evFunc (ref06_Add.cfg N) N Tryz.f141 [.v (dExc.enc x), .v (dExc.enc y)] [] 0 (dT2 dExc (dI .i64)).dec = ref06_Add.g x y := by kernel_rfl
theorem ref06_Add.hl (N : Nat) : ∀ body, Tryz.f141.body = some body → ∀ b ∈ loopsOf body, ∀ lc, lkL (firstReg b) (ref06_Add.cfg N).lp = some lc → LCOk (ref06_Add.cfg N) N b lc := HL_nil rfl
theorem ref06_Add.cfg_ok (N : Nat) : CfgOk Tryz.prog (ref06_Add.cfg N) := mkCfg (.cons ref05_Cmp.ok (.cons ref06_Make.ok (.cons ref05_Add.ok (.cons ref05_Mul.ok (.cons ref06_Two.ok (.cons ref05_Sub.ok .nil)))))) _ _ _ _
theorem ref06_Add.ok : CTok Tryz.prog 141 ref06_Add.ct := CTok.of2 Tryz.call141 mix Tryz.func141 (Nat.le_of_ble_eq_true (by kernel_rfl)) (fun x y res hres _ _ => ⟨ref06_Add.cfg fuel, fuel, ref06_Add.cfg_ok fuel, ref06_Add.hl fuel, (ref06_Add.ev fuel x y).trans hres⟩)

end
end Go.Proofs.YtnfbcofieobkkaaGreatDoor
