/- The contract of a loop: its state is read, part by part. -/
import Derived.Test.YtnfbcofieobkkaaGreatDoorD
namespace Go.Proofs.YtnfbcofieobkkaaGreatDoor.Ev
open Go Go.RowKit
set_option linter.unusedVariables false
set_option linter.unusedSimpArgs false

/-- How a block is read and spelt. -/
structure MD (α : Type) where
  enc : α → Blk
  dec : Blk → Option α
  ok : ∀ b x, dec b = some x → b = enc x

def mLit {α : Type} (f : List Value → Option α) (g : α → List Value) (h : ∀ l x, f l = some x → l = g x) : MD α where
  enc x := .lit (g x)
  dec b := match b with | .lit l => f l | _ => none
  ok b x hb := by
    split at hb
    · rw [h _ _ hb]
    · cases hb

def mPts : MD Pts := mLit rdP Pts.cs fun _ _ => rdP_some
def mRgh : MD Rgh := mLit rdR Rgh.cs fun _ _ => rdR_some
def mExc : MD Exc := mLit rdX Exc.cs fun _ _ => rdX_some
def mFnd : MD Fnd := mLit rdF Fnd.cs fun _ _ => rdF_some
def mP3 : MD P3 := mLit rd3 P3.cs fun _ _ => rd3_some

def rd1 {α : Type} (d : D α) : List Value → Option α
  | [v] => d.dec v
  | _ => none
def m1 {α : Type} (d : D α) : MD α := mLit (rd1 d) (fun x => [d.enc x]) fun l x h => by
  match l, h with
  | [v], h => rw [d.ok v x h]

def mW : MD W6 where
  enc w := .ints .u64 [w.w0, w.w1, w.w2, w.w3, w.w4, w.w5]
  dec b := match b with | .ints .u64 [a, b, c, d, e, f] => some ⟨a, b, c, d, e, f⟩ | _ => none
  ok b x hb := by
    split at hb
    · cases hb; rfl
    · cases hb

def mBits : MD B2 where
  enc w := .ints .u64 [w.hi, w.lo]
  dec b := match b with | .ints .u64 [a, b] => some ⟨a, b⟩ | _ => none
  ok b x hb := by
    split at hb
    · cases hb; rfl
    · cases hb

def mL (kk : IntKind) : MD (List Int) where
  enc l := .ints kk l
  dec b := match b with | .ints k l => bif decide (k = kk) then some l else none | _ => none
  ok b x hb := by
    split at hb
    · obtain ⟨h1, h2⟩ := bif_some hb
      have h3 : _ = kk := of_decide_eq_true h1
      subst h3
      cases h2; rfl
    · cases hb

section
variable {R : Type} {r : R}

def tkD {α : Type} (t : Nat) (d : D α) (e : List (Nat × AV)) (K : α → List (Nat × AV) → Option R) : Option R := match e with
  | (u, .v x) :: l => bif Nat.beq u t then (match d.dec x with | some y => K y l | none => none) else none
  | _ => none

def tkP (t lb off : Nat) (e : List (Nat × AV)) (K : List (Nat × AV) → Option R) : Option R := match e with
  | (u, .p l o) :: r => bif Nat.beq u t && Nat.beq l lb && Nat.beq o off then K r else none
  | _ => none

def tkS (t lb off : Nat) (e : List (Nat × AV)) (K : Nat → Nat → List (Nat × AV) → Option R) : Option R := match e with
  | (u, .s l o n c) :: r => bif Nat.beq u t && Nat.beq l lb && Nat.beq o off then K n c r else none
  | _ => none

def tkM {α : Type} (l : Nat) (own : Bool) (ty : TypeId) (m : MD α) (e : List (Nat × Bk)) (K : α → List (Nat × Bk) → Option R) : Option R := match e with
  | (u, ⟨o, t, b⟩) :: r => bif Nat.beq u l && (o == own) && Nat.beq t ty then (match m.dec b with | some y => K y r | none => none) else none
  | _ => none

def tkN {α : Type} (e : List α) (K : Option R) : Option R := match e with
  | [] => K
  | _ => none

def tkSt (n nx : Nat) (st : St) (K : List (Nat × AV) → List (Nat × Bk) → Option R) : Option R := match st with
  | ⟨n', e, m, x, []⟩ => bif Nat.beq n' n && Nat.beq x nx then K e m else none
  | _ => none

theorem tkD_some {α : Type} {t : Nat} {d : D α} {e : List (Nat × AV)} {K : α → List (Nat × AV) → Option R} (h : tkD t d e K = some r) : ∃ y l, e = (t, .v (d.enc y)) :: l ∧ K y l = some r := by
  unfold tkD at h
  split at h
  · obtain ⟨h1, h2⟩ := bif_some h
    clear h
    simp only [nbeq, decide_eq_true_eq] at h1
    split at h2
    · rename_i y hy
      subst h1
      exact ⟨y, _, by rw [d.ok _ _ hy], h2⟩
    · cases h2
  · cases h

theorem tkP_some {t lb off : Nat} {e : List (Nat × AV)} {K : List (Nat × AV) → Option R} (h : tkP t lb off e K = some r) : ∃ l, e = (t, .p lb off) :: l ∧ K l = some r := by
  unfold tkP at h
  split at h
  · obtain ⟨h1, h2⟩ := bif_some h
    clear h
    simp only [nbeq, Bool.and_eq_true, decide_eq_true_eq] at h1
    obtain ⟨⟨rfl, rfl⟩, rfl⟩ := h1
    exact ⟨_, rfl, h2⟩
  · cases h

theorem tkS_some {t lb off : Nat} {e : List (Nat × AV)} {K : Nat → Nat → List (Nat × AV) → Option R} (h : tkS t lb off e K = some r) : ∃ n c l, e = (t, .s lb off n c) :: l ∧ K n c l = some r := by
  unfold tkS at h
  split at h
  · obtain ⟨h1, h2⟩ := bif_some h
    clear h
    simp only [nbeq, Bool.and_eq_true, decide_eq_true_eq] at h1
    obtain ⟨⟨rfl, rfl⟩, rfl⟩ := h1
    exact ⟨_, _, _, rfl, h2⟩
  · cases h

theorem tkM_some {α : Type} {l : Nat} {own : Bool} {ty : TypeId} {m : MD α} {e : List (Nat × Bk)} {K : α → List (Nat × Bk) → Option R} (h : tkM l own ty m e K = some r) : ∃ y q, e = (l, ⟨own, ty, m.enc y⟩) :: q ∧ K y q = some r := by
  unfold tkM at h
  split at h
  · obtain ⟨h1, h2⟩ := bif_some h
    clear h
    simp only [nbeq, Bool.and_eq_true, decide_eq_true_eq, beq_iff_eq] at h1
    split at h2
    · rename_i y hy
      obtain ⟨⟨rfl, rfl⟩, rfl⟩ := h1
      exact ⟨y, _, by rw [m.ok _ _ hy], h2⟩
    · cases h2
  · cases h

theorem tkN_some {α : Type} {e : List α} {K : Option R} (h : tkN e K = some r) : e = [] ∧ K = some r := by
  unfold tkN at h
  split at h
  · exact ⟨rfl, h⟩
  · cases h

theorem tkSt_some {n nx : Nat} {st : St} {K : List (Nat × AV) → List (Nat × Bk) → Option R} (h : tkSt n nx st K = some r) : ∃ e m, st = ⟨n, e, m, nx, []⟩ ∧ K e m = some r := by
  unfold tkSt at h
  split at h
  · obtain ⟨h1, h2⟩ := bif_some h
    clear h
    simp only [nbeq, Bool.and_eq_true, decide_eq_true_eq] at h1
    obtain ⟨rfl, rfl⟩ := h1
    exact ⟨_, _, rfl, h2⟩
  · cases h

end

def loopAt (j : Nat) (fn : Func) : Code := match fn.body with
  | some c => (nthL j (loopsOf c)).getD .skip
  | none => .skip

/-- The loops' contracts, one by one. -/
theorem HL_of {cfg : Cfg} {N : Nat} {fn : Func} {ids : List Nat} (hids : (match fn.body with | some c => (loopsOf c).map firstReg | none => []) = ids)
    (h : ∀ j lc, j < ids.length → lkL (ids.getD j 0) cfg.lp = some lc → LCOk cfg N (loopAt j fn) lc) :
    ∀ body, fn.body = some body → ∀ b ∈ loopsOf body, ∀ lc, lkL (firstReg b) cfg.lp = some lc → LCOk cfg N b lc := by
  intro body hb b hm lc hlc
  rw [hb] at hids
  simp only at hids
  obtain ⟨j, hj, rfl⟩ := List.mem_iff_getElem.1 hm
  have hlen : j < ids.length := by rw [← hids]; simpa using hj
  have hid : ids.getD j 0 = firstReg (loopsOf body)[j] := by
    rw [← hids, List.getD_eq_getElem?_getD, List.getElem?_map, List.getElem?_eq_getElem hj]
    rfl
  have := h j lc hlen (by rw [hid]; exact hlc)
  have e : loopAt j fn = (loopsOf body)[j] := by
    unfold loopAt
    rw [hb]
    simp only
    rw [nthL_eq, List.getElem?_eq_getElem hj]
    rfl
  rw [e] at this
  exact this

theorem HL_nil {cfg : Cfg} {N : Nat} {fn : Func} (h : cfg.lp = []) : ∀ body, fn.body = some body → ∀ b ∈ loopsOf body, ∀ lc, lkL (firstReg b) cfg.lp = some lc → LCOk cfg N b lc := by
  intro body _ b _ lc hlc
  rw [h] at hlc
  cases hlc

/-- The contracts of the callees, one by one. -/
inductive CsOk (P : Program) : List (FuncId × CT) → Prop
  | nil : CsOk P []
  | cons {g : FuncId} {ct : CT} {l : List (FuncId × CT)} (h : CTok P g ct) (hl : CsOk P l) : CsOk P ((g, ct) :: l)

theorem CsOk.get {P : Program} : ∀ {l : List (FuncId × CT)}, CsOk P l → ∀ g ct, lkC g l = some ct → CTok P g ct
  | _, .nil, g, ct, h => by cases h
  | _, .cons (g := g') h hl, g, ct, hc => by
    simp only [lkC, nbeq] at hc
    by_cases e : g = g'
    · subst e
      simp only [decide_true, cond_true, Option.some.injEq] at hc
      subst hc
      exact h
    · simp only [e, decide_false, cond_false] at hc
      exact hl.get g ct hc

end Go.Proofs.YtnfbcofieobkkaaGreatDoor.Ev
