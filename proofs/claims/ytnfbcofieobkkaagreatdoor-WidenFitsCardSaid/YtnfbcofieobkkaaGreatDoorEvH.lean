/- The evaluator is sound, eighth part: a region runs, in the order of the text or in any order that its edges allow. -/
import Derived.Test.YtnfbcofieobkkaaGreatDoorEvG
import Derived.Orders
namespace Go.Proofs.YtnfbcofieobkkaaGreatDoor.Ev
open Go Go.RowKit
set_option linter.unusedVariables false
set_option linter.unusedSimpArgs false

section
variable {P : Program} {cfg : Cfg}

def SRel (w0 : World) (ρ : Nat → Nat) (st : St) (a : Act) (w : World) : Prop := FRel w0 ρ (fun t => lk t st.env) (fun l => lk l st.mem) st.n a w

theorem skip_not {ops : List Oper} {o : Oper} {st : St} {a : Act} {env : Nat → Option AV}
    (hg : ∃ j want g, o.guard = some (j, want) ∧ (nthL j ops).bind (·.dst) = some g ∧ (lk g st.env = some (.v (.bool (!want))) ∨ ∃ vs, lk g st.env = some (.v (.tuple vs))))
    (he : ∀ t av, env t = some av → ∀ x, av = .v x → a.tmps.getD t undef = x) (hs : ∀ j want g, o.guard = some (j, want) → (nthL j ops).bind (·.dst) = some g → lk g st.env = env g) : Region.wanted o (yielded ops.toArray a.tmps) = false := by
  obtain ⟨j, want, g, h1, h2, h3⟩ := hg
  have hj : (ops.toArray[j]?).bind (·.dst) = some g := by rw [nthL_eq] at h2; simpa using h2
  have e := hs j want g h1 h2
  unfold Region.wanted
  rw [h1]
  simp only
  rcases h3 with h3 | ⟨vs, h3⟩
  · rw [yielded_of hj (he g _ (by rw [← e]; exact h3) _ rfl)]
    cases want <;> rfl
  · rw [yielded_not hj (he g _ (by rw [← e]; exact h3) _ rfl)]
    rfl

theorem go_wanted {ops : List Oper} {o : Oper} {st : St} {a : Act} {env : Nat → Option AV}
    (hg : ∀ j want, o.guard = some (j, want) → ∃ g, (nthL j ops).bind (·.dst) = some g ∧ lk g st.env = some (.v (.bool want)))
    (he : ∀ t av, env t = some av → ∀ x, av = .v x → a.tmps.getD t undef = x) (hs : ∀ j want g, o.guard = some (j, want) → (nthL j ops).bind (·.dst) = some g → lk g st.env = env g) : Region.wanted o (yielded ops.toArray a.tmps) = true := by
  unfold Region.wanted
  cases hgd : o.guard with
  | none => rfl
  | some p =>
    obtain ⟨j, want⟩ := p
    obtain ⟨g, h2, h3⟩ := hg j want hgd
    have hj : (ops.toArray[j]?).bind (·.dst) = some g := by rw [nthL_eq] at h2; simpa using h2
    have e := hs j want g hgd h2
    simp only
    rw [yielded_of hj (he g _ (by rw [← e]; exact h3) _ rfl)]
    simp

theorem FRel.val {w0 : World} {ρ : Nat → Nat} {env : Nat → Option AV} {mem : Nat → Option Bk} {n : Nat} {a : Act} {w : World} (h : FRel w0 ρ env mem n a w) : ∀ t av, env t = some av → ∀ x, av = .v x → a.tmps.getD t undef = x := by
  rintro t av hav x rfl
  exact h.he t _ hav

/-- In the order of the text. -/
theorem tr_seq {ops : List Oper} : ∀ {rest : List Oper} {es : List (Option Eff)} {st stN : St}, Tr P ops rest es st stN → ∀ {w0 : World} {ρ : Nat → Nat} {a : Act} {w : World}, SRel w0 ρ st a w → ∀ {Q : Exit → Act → World → Prop},
    (∀ ρ' a' w', SRel w0 ρ' stN a' w' → Q .normal a' w') → wpList P ops.toArray Q rest a w := by
  intro rest es st stN h
  induction h with
  | nil st => intro w0 ρ a w hR Q hQ; exact wpList_nil (hQ ρ a w hR)
  | @go o rest e es st s stN hI hg hT hn hx hd he hm hr ih =>
    intro w0 ρ a w hR Q hQ
    have hw := go_wanted hg hR.val (fun _ _ _ _ _ => rfl)
    unfold wpList
    rw [if_pos hw]
    refine .inl (step_go hT.1 hR (fun _ _ => rfl) (fun _ _ => rfl) hd (lbl := st.nx) ?_ ?_ fun ρ' a' w' hR' => ih (ρ := ρ') ?_ hQ)
    · intro t av hav hl
      have := hI.lb t av hav _ hl
      omega
    · cases hmm : lk st.nx st.mem with
      | none => rfl
      | some bk => have := hI.mb _ _ hmm; omega
    · have e1 : (fun t => lk t s.env) = effEnv o.dst st.nx (some e) (fun t => lk t st.env) := funext he
      have e2 : (fun l => lk l s.mem) = effMem st.nx (some e) (fun l => lk l st.mem) := funext hm
      unfold SRel
      rw [e1, e2, hn]
      exact hR'
  | @skip o rest es st s stN hI hg hn hx hd he hm hr ih =>
    intro w0 ρ a w hR Q hQ
    have hw := skip_not hg hR.val (fun _ _ _ _ _ => rfl)
    unfold wpList
    rw [if_neg (by rw [hw]; simp)]
    refine ih (ρ := ρ) ?_ hQ
    have e1 : (fun t => lk t s.env) = effEnv o.dst st.nx none (fun t => lk t st.env) := funext he
    have e2 : (fun l => lk l s.mem) = fun l => lk l st.mem := funext hm
    unfold SRel
    rw [e1, e2, hn]
    exact hR.put o.dst hd (.v undef)

/-! ### Any order -/

def stepE (nx : Nat) (i : Nat) (p : Oper × Option Eff) (env : Nat → Option AV) : Nat → Option AV := effEnv p.1.dst (nx + i) p.2 env
def stepM (nx : Nat) (i : Nat) (p : Oper × Option Eff) (mem : Nat → Option Bk) : Nat → Option Bk := effMem (nx + i) p.2 mem

def foldE (nx : Nat) (L : Nat → Bool) : List (Oper × Option Eff) → Nat → (Nat → Option AV) → Nat → Option AV
  | [], _, env => env
  | p :: r, i, env => foldE nx L r (i + 1) (if L i then stepE nx i p env else env)

def foldM (nx : Nat) (L : Nat → Bool) : List (Oper × Option Eff) → Nat → (Nat → Option Bk) → Nat → Option Bk
  | [], _, mem => mem
  | p :: r, i, mem => foldM nx L r (i + 1) (if L i then stepM nx i p mem else mem)

theorem foldE_append (nx : Nat) (L : Nat → Bool) : ∀ (l r : List (Oper × Option Eff)) (i : Nat) (env : Nat → Option AV), foldE nx L (l ++ r) i env = foldE nx L r (i + l.length) (foldE nx L l i env)
  | [], r, i, env => rfl
  | p :: l, r, i, env => by
    simp only [List.cons_append, foldE, foldE_append nx L l r, List.length_cons]
    congr 1
    omega

theorem foldM_append (nx : Nat) (L : Nat → Bool) : ∀ (l r : List (Oper × Option Eff)) (i : Nat) (mem : Nat → Option Bk), foldM nx L (l ++ r) i mem = foldM nx L r (i + l.length) (foldM nx L l i mem)
  | [], r, i, mem => rfl
  | p :: l, r, i, mem => by
    simp only [List.cons_append, foldM, foldM_append nx L l r, List.length_cons]
    congr 1
    omega

theorem foldE_congr (nx : Nat) {L L' : Nat → Bool} : ∀ (l : List (Oper × Option Eff)) (i : Nat) (env : Nat → Option AV), (∀ j, i ≤ j → j < i + l.length → L j = L' j) → foldE nx L l i env = foldE nx L' l i env
  | [], _, _, _ => rfl
  | p :: l, i, env, h => by
    simp only [foldE]
    rw [h i (Nat.le_refl _) (by simp), foldE_congr nx l (i + 1) _ (fun j h1 h2 => h j (by omega) (by simp; omega))]

theorem foldM_congr (nx : Nat) {L L' : Nat → Bool} : ∀ (l : List (Oper × Option Eff)) (i : Nat) (mem : Nat → Option Bk), (∀ j, i ≤ j → j < i + l.length → L j = L' j) → foldM nx L l i mem = foldM nx L' l i mem
  | [], _, _, _ => rfl
  | p :: l, i, mem, h => by
    simp only [foldM]
    rw [h i (Nat.le_refl _) (by simp), foldM_congr nx l (i + 1) _ (fun j h1 h2 => h j (by omega) (by simp; omega))]

/-- A slot that no executed operation of these writes. -/
theorem foldE_free (nx : Nat) {L : Nat → Bool} {t : Nat} : ∀ (l : List (Oper × Option Eff)) (i : Nat) (env : Nat → Option AV), (∀ j p, l[j]? = some p → L (i + j) = true → p.1.dst ≠ some t) → foldE nx L l i env t = env t
  | [], _, _, _ => rfl
  | p :: l, i, env, h => by
    simp only [foldE]
    rw [foldE_free nx l (i + 1) _ (fun j q hj hL => h (j + 1) q (by simpa using hj) (by rw [← hL]; congr 1; omega))]
    split
    · rename_i hL
      have := h 0 p rfl (by simpa using hL)
      simp [stepE, effEnv, this]
    · rfl

/-- Two selections that agree on the writers of a slot. -/
theorem foldE_agree (nx : Nat) {L L' : Nat → Bool} {t : Nat} : ∀ (l : List (Oper × Option Eff)) (i : Nat) (env env' : Nat → Option AV), env t = env' t → (∀ j p, l[j]? = some p → p.1.dst = some t → L (i + j) = L' (i + j)) → foldE nx L l i env t = foldE nx L' l i env' t
  | [], _, _, _, h, _ => h
  | p :: l, i, env, env', h0, h => by
    simp only [foldE]
    refine foldE_agree nx l (i + 1) _ _ ?_ (fun j q hj hd => by
      have := h (j + 1) q (by simpa using hj) hd
      rw [show i + 1 + j = i + (j + 1) by omega]; exact this)
    by_cases hd : p.1.dst = some t
    · have := h 0 p rfl hd
      simp only [Nat.add_zero] at this
      rw [this]
      split
      · simp [stepE, effEnv, hd]
      · exact h0
    · split <;> split <;> simp [stepE, effEnv, hd, h0]

/-- What an effect touches of the memory. -/
def touch (lbl : Nat) : Option Eff → List Nat
  | some (.wr l _) => [l]
  | some (.nw _ _ _ _) => [lbl]
  | _ => []

theorem effMem_free {lbl : Nat} {e : Option Eff} {mem : Nat → Option Bk} {l : Nat} (h : l ∉ touch lbl e) : effMem lbl e mem l = mem l := by
  match e with
  | none => rfl
  | some (.val _ _) => rfl
  | some (.wr m b) => simp [touch] at h; simp [effMem, h]
  | some (.nw _ _ _ _) => simp [touch] at h; simp [effMem, h]

theorem effMem_local {lbl : Nat} {e : Option Eff} {mem mem' : Nat → Option Bk} {l : Nat} (h : mem l = mem' l) : effMem lbl e mem l = effMem lbl e mem' l := by
  match e with
  | none => exact h
  | some (.val _ _) => exact h
  | some (.wr m b) =>
    simp only [effMem]
    split
    · rename_i e; subst e; rw [h]
    · exact h
  | some (.nw _ _ _ _) =>
    simp only [effMem]
    split
    · rfl
    · exact h

theorem foldM_free (nx : Nat) {L : Nat → Bool} {m : Nat} : ∀ (l : List (Oper × Option Eff)) (i : Nat) (mem : Nat → Option Bk), (∀ j p, l[j]? = some p → L (i + j) = true → m ∉ touch (nx + (i + j)) p.2) → foldM nx L l i mem m = mem m
  | [], _, _, _ => rfl
  | p :: l, i, mem, h => by
    simp only [foldM]
    rw [foldM_free nx l (i + 1) _ (fun j q hj hL => by
      have := h (j + 1) q (by simpa using hj) (by rw [← hL]; congr 1; omega)
      rw [show i + 1 + j = i + (j + 1) by omega]; exact this)]
    split
    · rename_i hL
      exact effMem_free (by have := h 0 p rfl (by simpa using hL); simpa using this)
    · rfl

theorem foldM_agree (nx : Nat) {L L' : Nat → Bool} {m : Nat} : ∀ (l : List (Oper × Option Eff)) (i : Nat) (mem mem' : Nat → Option Bk), mem m = mem' m → (∀ j p, l[j]? = some p → m ∈ touch (nx + (i + j)) p.2 → L (i + j) = L' (i + j)) → foldM nx L l i mem m = foldM nx L' l i mem' m
  | [], _, _, _, h, _ => h
  | p :: l, i, mem, mem', h0, h => by
    simp only [foldM]
    refine foldM_agree nx l (i + 1) _ _ ?_ (fun j q hj hd => by
      have := h (j + 1) q (by simpa using hj) (by rw [show i + (j + 1) = i + 1 + j by omega]; exact hd)
      rw [show i + 1 + j = i + (j + 1) by omega]; exact this)
    by_cases hd : m ∈ touch (nx + i) p.2
    · have := h 0 p rfl (by simpa using hd)
      simp only [Nat.add_zero] at this
      rw [this]
      split
      · exact effMem_local h0
      · exact h0
    · split <;> split <;> simp [stepM, effMem_free hd, h0]

theorem okFrom_get {ops : List Oper} {i : Nat} {oi : Oper} {ei : Option Eff} : ∀ {r : List (Oper × Option Eff)}, okFrom ops i oi ei r = true → ∀ (j : Nat) oj ej, r[j]? = some (oj, ej) → conf ops oi ei oj ej = true → ordered i oj = true
  | [], _, j, oj, ej, h, _ => by simp at h
  | (o, e) :: r, h, j, oj, ej, hj, hc => by
    simp only [okFrom, Bool.and_eq_true, Bool.or_eq_true, Bool.not_eq_true'] at h
    cases j with
    | zero =>
      simp only [List.getElem?_cons_zero, Option.some.injEq, Prod.mk.injEq] at hj
      obtain ⟨rfl, rfl⟩ := hj
      rcases h.1 with h1 | h1
      · rw [hc] at h1; cases h1
      · exact h1
    | succ j => exact okFrom_get h.2 j oj ej (by simpa using hj) hc

theorem okAll_get {ops : List Oper} : ∀ {r : List (Oper × Option Eff)} {i0 : Nat}, okAll ops i0 r = true → ∀ (i : Nat) oi ei, r[i]? = some (oi, ei) →
    (∀ d ∈ oi.after.toList, Region.binds .any d = true → d.on < i0 + i) ∧ ∀ (j : Nat) oj ej, i < j → r[j]? = some (oj, ej) → conf ops oi ei oj ej = true → ordered (i0 + i) oj = true
  | [], i0, _, i, oi, ei, h => by simp at h
  | (o, e) :: r, i0, h, i, oi, ei, hi => by
    simp only [okAll, Bool.and_eq_true] at h
    obtain ⟨⟨h1, h2⟩, h3⟩ := h
    cases i with
    | zero =>
      simp only [List.getElem?_cons_zero, Option.some.injEq, Prod.mk.injEq] at hi
      obtain ⟨rfl, rfl⟩ := hi
      refine ⟨fun d hd hb => ?_, fun j oj ej hj hr hc => ?_⟩
      · have := List.all_eq_true.1 h1 d hd
        simp only [hb, Bool.not_true, Bool.false_or, nblt, decide_eq_true_eq] at this
        omega
      · cases j with
        | zero => omega
        | succ j => exact okFrom_get h2 j oj ej (by simpa using hr) hc
    | succ i =>
      obtain ⟨a, b⟩ := okAll_get h3 i oi ei (by simpa using hi)
      refine ⟨fun d hd hb => by have := a d hd hb; omega, fun j oj ej hj hr hc => ?_⟩
      cases j with
      | zero => omega
      | succ j =>
        have := b j oj ej (by omega) (by simpa using hr) hc
        rw [show i0 + (i + 1) = i0 + 1 + i by omega]
        exact this

/-- What is known of one operation, at its place in the text. -/
structure AtOp (P : Program) (ops : List Oper) (o : Oper) (e : Option Eff) (s : St) : Prop where
  inv : Inv s
  d : ∀ d, o.dst = some d → d < s.n
  ev : match e with
    | some e => (∀ j want, o.guard = some (j, want) → ∃ g, (nthL j ops).bind (·.dst) = some g ∧ lk g s.env = some (.v (.bool want))) ∧ Told P (fun t => lk t s.env) (fun l => lk l s.mem) o e
    | none => ∃ j want g, o.guard = some (j, want) ∧ (nthL j ops).bind (·.dst) = some g ∧ (lk g s.env = some (.v (.bool (!want))) ∨ ∃ vs, lk g s.env = some (.v (.tuple vs)))

theorem tr_at {ops : List Oper} {nx : Nat} : ∀ {rest : List Oper} {es : List (Option Eff)} {st stN : St}, Tr P ops rest es st stN → ∀ (i0 : Nat), st.nx = nx + i0 →
    (∀ (i : Nat) o e, (rest.zip es)[i]? = some (o, e) → ∃ s, AtOp P ops o e s ∧ s.nx = nx + i0 + i ∧ s.n = st.n ∧
      (∀ t, lk t s.env = foldE nx (fun j => decide (j < i0 + i)) (rest.zip es) i0 (fun t => lk t st.env) t) ∧ (∀ l, lk l s.mem = foldM nx (fun j => decide (j < i0 + i)) (rest.zip es) i0 (fun l => lk l st.mem) l)) ∧
    (∀ t, lk t stN.env = foldE nx (fun _ => true) (rest.zip es) i0 (fun t => lk t st.env) t) ∧ (∀ l, lk l stN.mem = foldM nx (fun _ => true) (rest.zip es) i0 (fun l => lk l st.mem) l) ∧ stN.n = st.n ∧ stN.nx = nx + i0 + rest.length := by
  intro rest es st stN h
  induction h with
  | nil st => intro i0 hx; exact ⟨fun i o e h => by simp at h, fun t => rfl, fun l => rfl, rfl, by simp; exact hx⟩
  | @go o rest e es st s stN hI hg hT hn hx hd he hm hr ih =>
    intro i0 hnx
    obtain ⟨a, b, c, d1, d2⟩ := ih (i0 + 1) (by omega)
    have e1 : (fun t => lk t s.env) = stepE nx i0 (o, some e) (fun t => lk t st.env) := funext fun t => by rw [he]; simp [stepE, hnx]
    have e2 : (fun l => lk l s.mem) = stepM nx i0 (o, some e) (fun l => lk l st.mem) := funext fun l => by rw [hm]; simp [stepM, hnx]
    refine ⟨fun i o' e' h => ?_, fun t => ?_, fun l => ?_, by omega, by simp; omega⟩
    · cases i with
      | zero =>
        simp only [List.zip_cons_cons, List.getElem?_cons_zero, Option.some.injEq, Prod.mk.injEq] at h
        obtain ⟨rfl, rfl⟩ := h
        refine ⟨st, ⟨hI, hd, hg, hT⟩, by omega, rfl, fun t => ?_, fun l => ?_⟩
        · rw [foldE_free]
          intro j p _ hL
          exact absurd (of_decide_eq_true hL) (by omega)
        · rw [foldM_free]
          intro j p _ hL
          exact absurd (of_decide_eq_true hL) (by omega)
      | succ i =>
        obtain ⟨s', h1, h2, h3, h4, h5⟩ := a i o' e' (by simpa using h)
        refine ⟨s', h1, by omega, by omega, fun t => ?_, fun l => ?_⟩
        · rw [h4, List.zip_cons_cons, foldE]
          have : decide (i0 < i0 + (i + 1)) = true := by simp
          rw [this, if_pos rfl, e1]
          simp only [show i0 + 1 + i = i0 + (i + 1) by omega]
        · rw [h5, List.zip_cons_cons, foldM]
          have : decide (i0 < i0 + (i + 1)) = true := by simp
          rw [this, if_pos rfl, e2]
          simp only [show i0 + 1 + i = i0 + (i + 1) by omega]
    · rw [b, List.zip_cons_cons, foldE, if_pos rfl, e1]
    · rw [c, List.zip_cons_cons, foldM, if_pos rfl, e2]
  | @skip o rest es st s stN hI hg hn hx hd he hm hr ih =>
    intro i0 hnx
    obtain ⟨a, b, c, d1, d2⟩ := ih (i0 + 1) (by omega)
    have e1 : (fun t => lk t s.env) = stepE nx i0 (o, none) (fun t => lk t st.env) := funext fun t => by rw [he]; simp [stepE, hnx]
    have e2 : (fun l => lk l s.mem) = stepM nx i0 (o, none) (fun l => lk l st.mem) := funext fun l => by rw [hm]; simp [stepM, effMem]
    refine ⟨fun i o' e' h => ?_, fun t => ?_, fun l => ?_, by omega, by simp; omega⟩
    · cases i with
      | zero =>
        simp only [List.zip_cons_cons, List.getElem?_cons_zero, Option.some.injEq, Prod.mk.injEq] at h
        obtain ⟨rfl, rfl⟩ := h
        refine ⟨st, ⟨hI, hd, hg⟩, by omega, rfl, fun t => ?_, fun l => ?_⟩
        · rw [foldE_free]
          intro j p _ hL
          exact absurd (of_decide_eq_true hL) (by omega)
        · rw [foldM_free]
          intro j p _ hL
          exact absurd (of_decide_eq_true hL) (by omega)
      | succ i =>
        obtain ⟨s', h1, h2, h3, h4, h5⟩ := a i o' e' (by simpa using h)
        refine ⟨s', h1, by omega, by omega, fun t => ?_, fun l => ?_⟩
        · rw [h4, List.zip_cons_cons, foldE]
          have : decide (i0 < i0 + (i + 1)) = true := by simp
          rw [this, if_pos rfl, e1]
          simp only [show i0 + 1 + i = i0 + (i + 1) by omega]
        · rw [h5, List.zip_cons_cons, foldM]
          have : decide (i0 < i0 + (i + 1)) = true := by simp
          rw [this, if_pos rfl, e2]
          simp only [show i0 + 1 + i = i0 + (i + 1) by omega]
    · rw [b, List.zip_cons_cons, foldE, if_pos rfl, e1]
    · rw [c, List.zip_cons_cons, foldM, if_pos rfl, e2]

def cnt (L : Nat → Bool) : Nat → Nat
  | 0 => 0
  | n + 1 => cnt L n + (if L n then 0 else 1)

theorem cnt_zero {L : Nat → Bool} : ∀ {n : Nat}, cnt L n = 0 → ∀ j, j < n → L j = true
  | n + 1, h, j, hj => by
    simp only [cnt] at h
    rcases Nat.lt_or_ge j n with h1 | h1
    · exact cnt_zero (by omega) j h1
    · have : j = n := by omega
      subst this
      cases hL : L j with
      | true => rfl
      | false => simp [hL] at h

theorem cnt_set {L : Nat → Bool} {i : Nat} (hi : L i = false) : ∀ {n : Nat}, cnt (fun j => if j = i then true else L j) n + (if i < n then 1 else 0) = cnt L n
  | 0 => by simp [cnt]
  | n + 1 => by
    simp only [cnt]
    have ih := cnt_set hi (n := n)
    by_cases h : n = i
    · subst h
      simp only [Nat.lt_irrefl, if_false, Nat.add_zero] at ih
      rw [ih]
      simp [hi]
    · simp only [h, if_false]
      by_cases h2 : i < n
      · have h3 : i < n + 1 := by omega
        simp only [h2, h3, if_true] at ih ⊢
        omega
      · have h3 : ¬ i < n + 1 := by omega
        simp only [h2, h3, if_false] at ih ⊢
        omega

theorem least_unlisted {L : Nat → Bool} : ∀ {n i : Nat}, i < n → L i = false → ∃ m, m < n ∧ L m = false ∧ ∀ j, j < m → L j = true := by
  intro n i hi hL
  induction i using Nat.strongRecOn with
  | _ i ih =>
    by_cases h : ∃ j, j < i ∧ L j = false
    · obtain ⟨j, hj, hLj⟩ := h
      exact ih j hj (by omega) hLj
    · refine ⟨i, hi, hL, fun j hj => ?_⟩
      cases hLj : L j with
      | true => rfl
      | false => exact absurd ⟨j, hj, hLj⟩ h

/-- What holds when the operations in L have run. -/
structure DI (w0 : World) (nx : Nat) (ops : List Oper) (zs : List (Oper × Option Eff)) (env0 : Nat → Option AV) (mem0 : Nat → Option Bk) (n : Nat) (L : Nat → Bool) (ρ : Nat → Nat) (a : Act) (w : World) : Prop where
  rel : FRel w0 ρ (foldE nx L zs 0 env0) (foldM nx L zs 0 mem0) n a w
  down : ∀ j o e, zs[j]? = some (o, e) → L j = true → ∀ d ∈ o.after.toList, Region.binds .any d = true → L d.on = true
  lab : ∀ t av, foldE nx L zs 0 env0 t = some av → ∀ l ∈ lab av, l < nx ∨ ∃ j, L j = true ∧ l = nx + j
  dom : ∀ l bk, foldM nx L zs 0 mem0 l = some bk → l < nx ∨ ∃ j, L j = true ∧ l = nx + j
  wr : ∀ j o l b, zs[j]? = some (o, some (.wr l b)) → L j = true → l < nx ∨ ∃ m, L m = true ∧ l = nx + m

theorem split_at {α : Type} {l : List α} {i : Nat} {x : α} (h : l[i]? = some x) : l = l.take i ++ (x :: l.drop (i + 1)) ∧ (l.take i).length = i := by
  obtain ⟨hi, rfl⟩ := List.getElem?_eq_some_iff.1 h
  constructor
  · rw [← List.drop_eq_getElem_cons hi, List.take_append_drop]
  · simp; omega

theorem meet_true {a b : List Nat} {x : Nat} (h1 : x ∈ a) (h2 : x ∈ b) : meet a b = true := by
  simp only [meet, List.any_eq_true]
  exact ⟨x, h1, x, h2, by simp⟩

theorem ordered_mem {i : Nat} {o : Oper} (h : ordered i o = true) : ∃ d ∈ o.after.toList, d.on = i ∧ Region.binds .any d = true := by
  simp only [ordered, List.any_eq_true, Bool.and_eq_true, nbeq, decide_eq_true_eq] at h
  obtain ⟨d, hd, h1, h2⟩ := h
  exact ⟨d, hd, h1, h2⟩

theorem conf_of {ops : List Oper} {oi oj : Oper} {ei ej : Option Eff}
    (h : meet (dstL oi) (opReads ops oj) = true ∨ meet (dstL oi) (dstL oj) = true ∨ meet (dstL oj) (opReads ops oi) = true ∨ meet (Eff.wrs ei) (Eff.acc ej) = true ∨ meet (Eff.wrs ej) (Eff.acc ei) = true) : conf ops oi ei oj ej = true := by
  simp only [conf, Bool.or_eq_true]
  rcases h with h | h | h | h | h <;> simp [h]

theorem tmps_reads {ops : List Oper} {o : Oper} {t : Nat} (h : t ∈ tmpsOf o) : t ∈ opReads ops o := List.mem_append_left _ h

theorem guard_reads {ops : List Oper} {o : Oper} {j g : Nat} {want : Bool} (h : o.guard = some (j, want)) (hg : (nthL j ops).bind (·.dst) = some g) : g ∈ opReads ops o := by
  refine List.mem_append_right _ ?_
  rw [h]
  simp only [hg, List.mem_singleton]

theorem touch_wrs {lbl l : Nat} {e : Option Eff} (h : l ∈ touch lbl e) : l ∈ Eff.wrs e ∨ (l = lbl ∧ ∃ T b sl n, e = some (.nw T b sl n)) := by
  match e, h with
  | some (.wr m b), h => exact .inl h
  | some (.nw T b sl n), h => simp only [touch, List.mem_singleton] at h; exact .inr ⟨h, T, b, sl, n, rfl⟩

end
end Go.Proofs.YtnfbcofieobkkaaGreatDoor.Ev
