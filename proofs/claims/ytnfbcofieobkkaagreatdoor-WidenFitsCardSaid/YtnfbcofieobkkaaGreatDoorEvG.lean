/- The evaluator is sound, seventh part: a step from state to state; regions in the order of the text. -/
import Derived.Test.YtnfbcofieobkkaaGreatDoorEvF
namespace Go.Proofs.YtnfbcofieobkkaaGreatDoor.Ev
open Go Go.RowKit
set_option linter.unusedVariables false
set_option linter.unusedSimpArgs false

/-- The memory and the slots are as the abstract state says. -/
structure FRel (w0 : World) (ρ : Nat → Nat) (env : Nat → Option AV) (mem : Nat → Option Bk) (n : Nat) (a : Act) (w : World) : Prop where
  sz : a.tmps.size = n
  df : a.defers = []
  he : ∀ t av, env t = some av → a.tmps.getD t undef = conc ρ av
  hm : ∀ l bk, mem l = some bk → ∃ fr, w.heap[ρ l]? = some (.cells ⟨bk.b.cells⟩ bk.ty fr) ∧ (bk.own = true → fr = (0, 0) ∧ w0.heap.size ≤ ρ l)
  hi : ∀ l bk l' bk', mem l = some bk → mem l' = some bk' → bk.own = true → ρ l = ρ l' → l = l'
  hb : Below w0.heap.size w0 w
  wi : WI w0

def valOf (lbl : Nat) : Option Eff → AV
  | some (.val _ a) => a
  | some (.nw _ _ sl n) => bif sl then .s lbl 0 n n else .p lbl 0
  | _ => .v undef

def effEnv (dst : Option Nat) (lbl : Nat) (e : Option Eff) (env : Nat → Option AV) : Nat → Option AV :=
  fun t => if dst = some t then some (valOf lbl e) else env t

def effMem (lbl : Nat) (e : Option Eff) (mem : Nat → Option Bk) : Nat → Option Bk :=
  match e with
  | some (.wr l b) => fun m => if m = l then (mem l).map fun bk => { bk with b := b } else mem m
  | some (.nw T b _ _) => fun m => if m = lbl then some ⟨true, T, b⟩ else mem m
  | _ => mem

theorem getD_put (a : Act) (d : Nat) (v : Value) (t : Nat) (hd : d < a.tmps.size) : (a.put (some d) v).tmps.getD t undef = if d = t then v else a.tmps.getD t undef := by
  simp only [Act.put, Array.getD_eq_getD_getElem?, Array.getElem?_setIfInBounds]
  split
  · rename_i h; subst h; simp [hd]
  · rfl

theorem conc_upd {ρ : Nat → Nat} {lbl g : Nat} {av : AV} (h : lbl ∉ lab av) : conc (fun l => if l = lbl then g else ρ l) av = conc ρ av := by
  cases av with
  | v x => rfl
  | p l o => simp [lab] at h; simp [conc, Ne.symm h]
  | s l o n c => simp [lab] at h; simp [conc, Ne.symm h]

theorem FRel.put {w0 : World} {ρ : Nat → Nat} {env : Nat → Option AV} {mem : Nat → Option Bk} {n : Nat} {a : Act} {w : World} (h : FRel w0 ρ env mem n a w) (dst : Option Nat) (hd : ∀ d, dst = some d → d < n) (av : AV) :
    FRel w0 ρ (fun t => if dst = some t then some av else env t) mem n (a.put dst (conc ρ av)) w := by
  cases dst with
  | none => exact ⟨h.sz, h.df, fun t x hx => h.he t x (by simpa using hx), h.hm, h.hi, h.hb, h.wi⟩
  | some d =>
    have hlt : d < a.tmps.size := by rw [h.sz]; exact hd d rfl
    refine ⟨by simp [Act.put, h.sz], h.df, fun t x hx => ?_, h.hm, h.hi, h.hb, h.wi⟩
    rw [getD_put a d _ t hlt]
    by_cases e : d = t
    · subst e; simp at hx; subst hx; simp
    · simp only [Option.some.injEq, e, if_false] at hx ⊢
      exact h.he t x hx

theorem FRel.world {w0 : World} {ρ : Nat → Nat} {env : Nat → Option AV} {mem : Nat → Option Bk} {n : Nat} {a : Act} {w w' : World} (h : FRel w0 ρ env mem n a w) (hb : Below w.heap.size w w') :
    FRel w0 ρ env mem n a w' := by
  refine ⟨h.sz, h.df, h.he, fun l bk hl => ?_, h.hi, h.hb.trans (hb.mono h.hb.size), h.wi⟩
  obtain ⟨fr, hg, ho⟩ := h.hm l bk hl
  refine ⟨fr, ?_, ho⟩
  rw [hb.block (ρ l) (by
    rcases Nat.lt_or_ge (ρ l) w.heap.size with hlt | hge
    · exact hlt
    · rw [Array.getElem?_eq_none hge] at hg; cases hg)]
  exact hg

section
variable {P : Program} {cfg : Cfg}

/-- One operation, from state to state. -/
theorem step_go {get : Nat → Option AV} {mem0 : Nat → Option Bk} {o : Oper} {e : Eff} (hT : EffOK P get mem0 o e) {w0 : World} {ρ : Nat → Nat} {env : Nat → Option AV} {mem : Nat → Option Bk} {n lbl : Nat} {a : Act} {w : World}
    (h : FRel w0 ρ env mem n a w) (hget : ∀ t ∈ tmpsOf o, get t = env t) (hmem : ∀ l ∈ Eff.acc (some e), mem0 l = mem l) (hd : ∀ d, o.dst = some d → d < n)
    (hf1 : ∀ t av, env t = some av → lbl ∉ lab av) (hf2 : mem lbl = none) {K : Act → World → Prop} {Q : Exit → Act → World → Prop}
    (hK : ∀ ρ' a' w', FRel w0 ρ' (effEnv o.dst lbl (some e) env) (effMem lbl (some e) mem) n a' w' → K a' w') : o.wp P a w K Q := by
  have hA : Agr get ρ a o := fun t ht av hav => h.he t av (by rw [← hget t ht]; exact hav)
  cases e with
  | val ls av =>
    refine hT ρ a w (h.wi.below h.hb) hA (fun l hl bk hbk => ?_) K Q fun w' hb => hK ρ _ _ ((h.world hb).put o.dst hd av)
    rw [hmem l hl] at hbk
    obtain ⟨fr, hg, ho⟩ := h.hm l bk hbk
    exact ⟨fr, hg, fun h => (ho h).1⟩
  | wr l b =>
    obtain ⟨⟨bk, hbk, hown⟩, hT⟩ := hT
    have hl : l ∈ Eff.acc (some (.wr l b)) := by simp [Eff.acc]
    have hbk' : mem l = some bk := by rw [← hmem l hl]; exact hbk
    obtain ⟨fr, hg, ho⟩ := h.hm l bk hbk'
    obtain ⟨hfr, hB⟩ := ho hown
    refine hT ρ a w hA (fun bk2 hbk2 => ?_) K Q (hK ρ _ _ ?_)
    · rw [hbk] at hbk2
      cases hbk2
      exact ⟨fr, hg, fun _ => hfr⟩
    · have h2 : FRel w0 ρ env (effMem lbl (some (.wr l b)) mem) n a (w.setRow (ρ l) ⟨b.cells⟩) := by
        have hlt : ρ l < w.heap.size := by
          rcases Nat.lt_or_ge (ρ l) w.heap.size with hlt | hge
          · exact hlt
          · rw [Array.getElem?_eq_none hge] at hg; cases hg
        refine ⟨h.sz, h.df, h.he, fun m bkm hm => ?_, fun m bkm m' bkm' hm hm' hom hρ => ?_, ?_, h.wi⟩
        · simp only [effMem] at hm
          split at hm
          · rename_i e; subst e
            simp only [hbk', Option.map_some, Option.some.injEq] at hm
            subst hm
            exact ⟨fr, setRow_heap w _ _ _ _ _ hg, ho⟩
          · rename_i hne
            obtain ⟨fr', hg', ho'⟩ := h.hm m bkm hm
            refine ⟨fr', ?_, ho'⟩
            rw [setRow_other w _ _ _ (fun e => hne (h.hi l bk m bkm hbk' hm hown e.symm).symm)]
            exact hg'
        · have back : ∀ m bkm, effMem lbl (some (.wr l b)) mem m = some bkm → ∃ bk0, mem m = some bk0 ∧ bk0.own = bkm.own := by
            intro m bkm hm
            simp only [effMem] at hm
            split at hm
            · rename_i e; subst e
              simp only [hbk', Option.map_some, Option.some.injEq] at hm
              subst hm
              exact ⟨bk, hbk', rfl⟩
            · exact ⟨bkm, hm, rfl⟩
          obtain ⟨b1, e1, e2⟩ := back m bkm hm
          obtain ⟨b2, e3, _⟩ := back m' bkm' hm'
          exact h.hi m b1 m' b2 e1 e3 (by rw [e2]; exact hom) hρ
        · exact h.hb.trans ⟨rfl, rfl, rfl, by simp, fun k hk => setRow_other w _ _ _ (by omega)⟩
      exact h2.put o.dst hd (.v undef)
  | nw T b sl m =>
    have hnew : ∀ (l : Nat) bk, mem l = some bk → ρ l < w.heap.size := by
      intro l bk hl
      obtain ⟨fr, hg, _⟩ := h.hm l bk hl
      rcases Nat.lt_or_ge (ρ l) w.heap.size with hlt | hge
      · exact hlt
      · rw [Array.getElem?_eq_none hge] at hg; cases hg
    have hne : ∀ (l : Nat) bk, mem l = some bk → l ≠ lbl := fun l bk hl e => by subst e; rw [hf2] at hl; cases hl
    have h2 : FRel w0 (fun l => if l = lbl then w.heap.size else ρ l) env (effMem lbl (some (.nw T b sl m)) mem) n a (w.alloc (.cells ⟨b.cells⟩ T)) := by
      refine ⟨h.sz, h.df, fun t av hav => ?_, fun l bk hl => ?_, fun l bk l' bk' hl hl' hown hρ => ?_, h.hb.alloc h.hb.size _, h.wi⟩
      · rw [conc_upd (hf1 t av hav)]; exact h.he t av hav
      · simp only [effMem] at hl
        split at hl
        · rename_i e; subst e
          simp only [Option.some.injEq] at hl
          subst hl
          exact ⟨(0, 0), by simp only [if_true]; exact heap_alloc_new w _, fun _ => ⟨rfl, by simp; exact h.hb.size⟩⟩
        · rename_i e
          obtain ⟨fr, hg, ho⟩ := h.hm l bk hl
          refine ⟨fr, ?_, by simpa [e] using ho⟩
          simp only [e, if_false]
          rw [Below.heap_alloc _ _ _ (hnew l bk hl)]
          exact hg
      · simp only [effMem] at hl hl'
        by_cases e1 : l = lbl <;> by_cases e2 : l' = lbl
        · rw [e1, e2]
        · simp only [e2, if_false] at hl'
          simp only [e1, e2, if_true, if_false] at hρ
          have := hnew l' bk' hl'
          omega
        · simp only [e1, if_false] at hl
          simp only [e1, e2, if_true, if_false] at hρ
          have := hnew l bk hl
          omega
        · simp only [e1, e2, if_false] at hl hl' hρ
          exact h.hi l bk l' bk' hl hl' hown hρ
    refine hT ρ a w hA K Q (hK (fun l => if l = lbl then w.heap.size else ρ l) _ _ ?_)
    have h3 := h2.put o.dst hd (bif sl then .s lbl 0 m m else .p lbl 0)
    have e : conc (fun l => if l = lbl then w.heap.size else ρ l) (bif sl then .s lbl 0 m m else .p lbl 0) = (bif sl then .slice (some ⟨w.heap.size, 0, none⟩) m m else .pointer (some ⟨w.heap.size, 0, none⟩)) := by
      cases sl <;> simp [conc]
    rw [e] at h3
    exact h3

/-- What holds of every abstract state. -/
structure Inv (st : St) : Prop where
  we : GW fun t => lk t st.env
  wm : MW fun l => lk l st.mem
  lb : ∀ t av, lk t st.env = some av → ∀ l ∈ lab av, l < st.nx
  mb : ∀ l bk, lk l st.mem = some bk → l < st.nx
  mv : ∀ p ∈ st.mv, lk p.1 st.env = lk p.2 st.env

theorem lk_setBk (l : Nat) (b : Blk) (m : Nat) : ∀ mem : List (Nat × Bk), lk m (setBk l b mem) = if m = l then (lk l mem).map fun bk => { bk with b := b } else lk m mem
  | [] => by simp [setBk, lk_nil]
  | (k, bk) :: r => by
    simp only [setBk, nbeq]
    by_cases h : l = k
    · subst h
      simp only [decide_true, cond_true, lk_cons]
      by_cases h2 : m = l <;> simp [h2]
    · simp only [h, decide_false, cond_false, lk_cons, lk_setBk l b m r]
      by_cases h2 : m = k
      · subst h2
        have : ¬ m = l := fun e => h e.symm
        simp [this]
      · simp [h2]

theorem mem_keepMv {d : Nat} {l : List (Nat × Nat)} {p : Nat × Nat} (h : p ∈ keepMv d l) : p ∈ l ∧ p.1 ≠ d ∧ p.2 ≠ d := by
  simp only [keepMv, List.mem_filter, nbeq, Bool.and_eq_true, Bool.not_eq_true', decide_eq_false_iff_not] at h
  exact ⟨h.1, h.2⟩

theorem put_some {st s : St} {dst : Option Nat} {av : AV} (h : st.put dst av = some s) :
    s.n = st.n ∧ s.mem = st.mem ∧ s.nx = st.nx ∧ (∀ d, dst = some d → d < st.n) ∧ (∀ t, lk t s.env = if dst = some t then some av else lk t st.env) ∧
      (∀ p ∈ s.mv, p ∈ st.mv ∧ ∀ d, dst = some d → p.1 ≠ d ∧ p.2 ≠ d) := by
  cases dst with
  | none => simp only [St.put, Option.some.injEq] at h; subst h; exact ⟨rfl, rfl, rfl, by simp, by simp, fun p hp => ⟨hp, by simp⟩⟩
  | some d =>
    simp only [St.put] at h
    obtain ⟨h1, h⟩ := bif_some h
    simp only [nblt, decide_eq_true_eq] at h1
    simp only [Option.some.injEq] at h
    subst h
    refine ⟨rfl, rfl, rfl, fun d' e => by cases e; exact h1, fun t => ?_, fun p hp => ?_⟩
    · simp only [lk_pt, Option.some.injEq]
      by_cases e : t = d
      · simp [e]
      · have : ¬ d = t := fun e' => e e'.symm
        simp [e, this]
    · obtain ⟨a, b, c⟩ := mem_keepMv hp
      exact ⟨a, fun d' e => by cases e; exact ⟨b, c⟩⟩

/-- The state behind an effect. -/
theorem app_some {R : Type} {r : R} {st : St} {dst : Option Nat} {e : Eff} {k : St → Option R} (h : st.app dst e k = some r) (hI : Inv st) (hw : e.wf) (hl : ∀ l ∈ eLab e, l < st.nx) :
    ∃ s, k s = some r ∧ s.n = st.n ∧ s.nx = st.nx + 1 ∧ (∀ d, dst = some d → d < st.n) ∧ (∀ t, lk t s.env = effEnv dst st.nx (some e) (fun t => lk t st.env) t) ∧
      (∀ l, lk l s.mem = effMem st.nx (some e) (fun l => lk l st.mem) l) ∧ Inv s := by
  have main : ∀ (mem' : List (Nat × Bk)) (av : AV) (s : St), ({ st with mem := mem' } : St).put dst av = some s → av.wf → (∀ l ∈ lab av, l < st.nx + 1) → MW (fun l => lk l mem') → (∀ l bk, lk l mem' = some bk → l < st.nx + 1) →
      Inv { s with nx := s.nx + 1 } := by
    intro mem' av s hp hwv hlv hwm hmb
    obtain ⟨h1, h2, h3, h4, h5, h6⟩ := put_some hp
    simp only at h1 h2 h3 h5 h6
    refine ⟨fun t x hx => ?_, ?_, fun t x hx l hl => ?_, fun l bk hl => ?_, fun p hp => ?_⟩
    · simp only [h5] at hx
      split at hx
      · cases hx; exact hwv
      · exact hI.we t x hx
    · simp only [h2]; exact hwm
    · simp only [h5, h3] at hx ⊢
      split at hx
      · cases hx; exact hlv l hl
      · have := hI.lb t x hx l hl; omega
    · simp only [h2, h3] at hl ⊢
      exact hmb l bk hl
    · obtain ⟨a, b⟩ := h6 p hp
      simp only [h5]
      have e1 : ¬ dst = some p.1 := fun e => (b _ e).1 rfl
      have e2 : ¬ dst = some p.2 := fun e => (b _ e).2 rfl
      simp only [e1, e2, if_false]
      exact hI.mv p a
  cases e with
  | val ls a =>
    simp only [St.app] at h
    split at h
    · rename_i s hp
      obtain ⟨h1, h2, h3, h4, h5, h6⟩ := put_some hp
      exact ⟨_, h, h1, by simp [h3], h4, fun t => by simp [effEnv, valOf, h5], fun l => by simp [effMem, h2],
        main st.mem a s hp hw (fun l hl' => by have := hl l (by simpa [eLab] using hl'); omega) hI.wm (fun l bk hb => by have := hI.mb l bk hb; omega)⟩
    · cases h
  | wr l b =>
    simp only [St.app] at h
    split at h
    · rename_i s hp
      obtain ⟨h1, h2, h3, h4, h5, h6⟩ := put_some hp
      refine ⟨_, h, h1, by simp [h3], h4, fun t => by simp [effEnv, valOf, h5], fun m => by simp [effMem, h2, lk_setBk], main _ _ s hp ?_ (by simp [lab]) ?_ ?_⟩
      · intro v hv; simp at hv
      · intro m bk hm c hc
        have hm : lk m (setBk l b st.mem) = some bk := hm
        rw [lk_setBk] at hm
        split at hm
        · rename_i e; subst e
          cases hx : lk m st.mem with
          | none => simp [hx] at hm
          | some bk0 => simp [hx] at hm; subst hm; exact hw c hc
        · exact hI.wm m bk hm c hc
      · intro m bk hm
        rw [lk_setBk] at hm
        split at hm
        · rename_i e; subst e
          cases hx : lk m st.mem with
          | none => simp [hx] at hm
          | some bk0 => have := hI.mb m bk0 hx; omega
        · have := hI.mb m bk hm; omega
    · cases h
  | nw T b sl n =>
    simp only [St.app] at h
    split at h
    · rename_i s hp
      obtain ⟨h1, h2, h3, h4, h5, h6⟩ := put_some hp
      refine ⟨_, h, h1, by simp [h3], h4, fun t => by simp [effEnv, valOf, h5], fun m => by simp [effMem, h2, lk_cons], main _ _ s hp ?_ ?_ ?_ ?_⟩
      · cases sl
        · trivial
        · exact ⟨hw.2, hw.2⟩
      · cases sl <;> simp [lab]
      · intro m bk hm c hc
        have hm : lk m ((st.nx, (⟨true, T, b⟩ : Bk)) :: st.mem) = some bk := hm
        rw [lk_cons] at hm
        split at hm
        · cases hm; exact hw.1 c hc
        · exact hI.wm m bk hm c hc
      · intro m bk hm
        rw [lk_cons] at hm
        split at hm
        · omega
        · have := hI.mb m bk hm; omega
    · cases h

theorem yielded_of {ops : Array Oper} {a : Act} {j g : Nat} {b : Bool} (hj : (ops[j]?).bind (·.dst) = some g) (h : a.tmps.getD g undef = .bool b) : yielded ops a.tmps j = some b := by
  unfold yielded
  rw [hj]
  simp only [Option.bind_some]
  simp only [Array.getD_eq_getD_getElem?] at h
  cases hg : a.tmps[g]? with
  | none => simp [hg, undef] at h
  | some v => simp only [hg, Option.getD_some] at h; simp [h]

theorem yielded_not {ops : Array Oper} {a : Act} {j g : Nat} {vs : Array Value} (hj : (ops[j]?).bind (·.dst) = some g) (h : a.tmps.getD g undef = .tuple vs) : yielded ops a.tmps j = none := by
  unfold yielded
  rw [hj]
  simp only [Option.bind_some]
  simp only [Array.getD_eq_getD_getElem?] at h
  cases hg : a.tmps[g]? with
  | none => rfl
  | some v => simp only [hg, Option.getD_some] at h; simp [h]

theorem setB_lk {g : Nat} {b : Bool} : ∀ (mv : List (Nat × Nat)) (env : List (Nat × AV)), (∀ p ∈ mv, lk p.1 env = lk p.2 env) → lk g env = some (.v (.bool b)) → ∀ t, lk t (setB g b mv env) = lk t env
  | [], env, _, hg, t => by
    simp only [setB, lk_pt]
    split
    · rename_i e; rw [e, hg]
    · rfl
  | (d, s) :: r, env, hmv, hg, t => by
    simp only [setB, nbeq]
    have h1 := hmv (d, s) List.mem_cons_self
    by_cases e : s = g
    · subst e
      simp only [decide_true, cond_true]
      have key : ∀ t, lk t (pt d (.v (.bool b)) env) = lk t env := by
        intro t
        rw [lk_pt]
        split
        · rename_i e; subst e; rw [h1, hg]
        · rfl
      rw [setB_lk r _ (fun p hp => by rw [key, key]; exact hmv p (List.mem_cons_of_mem _ hp)) (by rw [key]; exact hg), key]
    · simp only [e, decide_false, cond_false]
      exact setB_lk r env (fun p hp => hmv p (List.mem_cons_of_mem _ hp)) hg t

theorem Inv.congr {st s : St} (h : Inv st) (he : ∀ t, lk t s.env = lk t st.env) (hm : s.mem = st.mem) (hx : s.nx = st.nx) (hv : ∀ p ∈ s.mv, p ∈ st.mv) : Inv s :=
  ⟨fun t av (hav : lk t s.env = some av) => h.we t av (by show lk t st.env = some av; rw [← he]; exact hav), by rw [hm]; exact h.wm, fun t av hav l hl => by rw [hx]; exact h.lb t av (by rw [← he]; exact hav) l hl,
    fun l bk hl => by rw [hx]; exact h.mb l bk (by rw [← hm]; exact hl), fun p hp => by rw [he, he]; exact h.mv p (hv p hp)⟩

theorem note_inv {st : St} {o : Oper} (hI : Inv st) (hw : ∀ s d, o.dst = some d → o.op = .move (.tmp s) → s ≠ d → lk d st.env = lk s st.env) : Inv (st.note o) := by
  unfold St.note
  split
  · rename_i d s hd ho
    by_cases hds : d = s
    · subst hds; simp [Nat.beq_refl]; exact hI
    · have : Nat.beq d s = false := by rw [nbeq]; simp [hds]
      simp only [this, cond_false]
      refine ⟨hI.we, hI.wm, hI.lb, hI.mb, fun p hp => ?_⟩
      rcases List.mem_cons.1 hp with rfl | hp
      · exact hw s d hd ho (fun e => hds e.symm)
      · exact hI.mv p hp
  · exact hI

/-- How the evaluation went, operation by operation. -/
inductive Tr (P : Program) (ops : List Oper) : List Oper → List (Option Eff) → St → St → Prop
  | nil (st : St) : Tr P ops [] [] st st
  | go {o : Oper} {rest : List Oper} {e : Eff} {es : List (Option Eff)} {st s stN : St} (hI : Inv st)
      (hg : ∀ j want, o.guard = some (j, want) → ∃ g, (nthL j ops).bind (·.dst) = some g ∧ lk g st.env = some (.v (.bool want)))
      (hT : Told P (fun t => lk t st.env) (fun l => lk l st.mem) o e) (hn : s.n = st.n) (hx : s.nx = st.nx + 1) (hd : ∀ d, o.dst = some d → d < st.n)
      (he : ∀ t, lk t s.env = effEnv o.dst st.nx (some e) (fun t => lk t st.env) t) (hm : ∀ l, lk l s.mem = effMem st.nx (some e) (fun l => lk l st.mem) l)
      (hr : Tr P ops rest es s stN) : Tr P ops (o :: rest) (some e :: es) st stN
  | skip {o : Oper} {rest : List Oper} {es : List (Option Eff)} {st s stN : St} (hI : Inv st)
      (hg : ∃ j want g, o.guard = some (j, want) ∧ (nthL j ops).bind (·.dst) = some g ∧ (lk g st.env = some (.v (.bool (!want))) ∨ ∃ vs, lk g st.env = some (.v (.tuple vs))))
      (hn : s.n = st.n) (hx : s.nx = st.nx + 1) (hd : ∀ d, o.dst = some d → d < st.n)
      (he : ∀ t, lk t s.env = effEnv o.dst st.nx none (fun t => lk t st.env) t) (hm : ∀ l, lk l s.mem = lk l st.mem)
      (hr : Tr P ops rest es s stN) : Tr P ops (o :: rest) (none :: es) st stN

theorem Tr.congr {ops rest : List Oper} {es : List (Option Eff)} {st st' stN : St} (h : Tr P ops rest es st stN) (hI : Inv st') (he : ∀ t, lk t st'.env = lk t st.env) (hm : st'.mem = st.mem) (hx : st'.nx = st.nx) (hn : st'.n = st.n) (hne : rest ≠ []) :
    Tr P ops rest es st' stN := by
  have e1 : (fun t => lk t st'.env) = fun t => lk t st.env := funext he
  cases h with
  | nil => exact absurd rfl hne
  | go hI0 hg hT hn0 hx0 hd he0 hm0 hr =>
    refine .go hI (fun j want hj => ?_) (by rw [e1, hm]; exact hT) (by omega) (by omega) (by rw [hn]; exact hd) (by rw [e1, hx]; exact he0) (by rw [hm, hx]; exact hm0) hr
    obtain ⟨g, h1, h2⟩ := hg j want hj
    exact ⟨g, h1, by rw [he]; exact h2⟩
  | skip hI0 hg hn0 hx0 hd he0 hm0 hr =>
    refine .skip hI ?_ (by omega) (by omega) (by rw [hn]; exact hd) (by rw [e1, hx]; exact he0) (by rw [hm]; exact hm0) hr
    obtain ⟨j, want, g, h1, h2, h3⟩ := hg
    exact ⟨j, want, g, h1, h2, by rw [he]; exact h3⟩

theorem evOp_move (H : CfgOk P cfg) {R : Type} {r : R} {get : Nat → Option AV} {mem : Nat → Option Bk} {o : Oper} {k : Eff → Option R} (h : evOp cfg get mem o k = some r) (hg : GW get) (hM : MW mem) :
    ∃ e, k e = some r ∧ Told P get mem o e ∧ ∀ sl, o.op = .move (.tmp sl) → ∃ av, get sl = some av ∧ e = .val [] av := by
  by_cases hmv : ∃ sl, o.op = .move (.tmp sl)
  · obtain ⟨sl, ho⟩ := hmv
    simp only [evOp, ho] at h
    obtain ⟨av, ha, h⟩ := getO_some h
    have hx : Operand.tmp sl ∈ o.op.operands.toList := by simp [ho, Op.operands]
    refine ⟨_, h, told_av (opd_wf hg ha) (by simpa using opd_lab hx ha) fun ρ a w hA _ => by simp [execOp, ho, hA.eval hx ha], fun sl' h' => ?_⟩
    rw [ho] at h'
    cases h'
    exact ⟨av, ha, rfl⟩
  · obtain ⟨e, h1, h2⟩ := evOp_some H h hg hM
    exact ⟨e, h1, h2, fun sl h' => absurd ⟨sl, h'⟩ hmv⟩

theorem note_lk {st : St} {o : Oper} : (st.note o).env = st.env ∧ (st.note o).mem = st.mem ∧ (st.note o).nx = st.nx ∧ (st.note o).n = st.n := by
  unfold St.note
  split
  · rename_i d s _ _
    cases Nat.beq d s <;> exact ⟨rfl, rfl, rfl, rfl⟩
  · exact ⟨rfl, rfl, rfl, rfl⟩

theorem evOps_tr (H : CfgOk P cfg) {R : Type} {r : R} {ops : List Oper} : ∀ (rest : List Oper) (st : St) (log : List (Option Eff)) (k : List (Option Eff) → St → Option R), evOps cfg ops log k rest st = some r → Inv st →
    ∃ es stN, k (log ++ es) stN = some r ∧ Inv stN ∧ es.length = rest.length ∧ Tr P ops rest es st stN
  | [], st, log, k, h, hI => ⟨[], st, by simpa [evOps] using h, hI, rfl, .nil st⟩
  | o :: rest, st, log, k, h, hI => by
    have goC : ∀ st' : St, Inv st' → (∀ t, lk t st'.env = lk t st.env) → st'.mem = st.mem → st'.nx = st.nx → st'.n = st.n → (∀ j want, o.guard = some (j, want) → ∃ g, (nthL j ops).bind (·.dst) = some g ∧ lk g st'.env = some (.v (.bool want))) →
        (evOp cfg (fun t => lk t st'.env) (fun l => lk l st'.mem) o fun e => st'.app o.dst e fun s => evOps cfg ops (log ++ [some e]) k rest (s.note o)) = some r →
        ∃ es stN, k (log ++ es) stN = some r ∧ Inv stN ∧ es.length = (o :: rest).length ∧ Tr P ops (o :: rest) es st stN := by
      intro st' hI' he hm hx hn hg h
      obtain ⟨e, h, hT, hmove⟩ := evOp_move H h hI'.we hI'.wm
      obtain ⟨s, h, h1, h2, h3, h4, h5, h6⟩ := app_some h hI' hT.2.1 (fun l hl => by
        obtain ⟨t, _, av, hav, hl'⟩ := hT.2.2 l (List.mem_append_right _ hl)
        exact hI'.lb t av hav l hl')
      have hnote : Inv (s.note o) := by
        refine note_inv h6 (fun sl d hd ho hne => ?_)
        obtain ⟨av, hav, rfl⟩ := hmove sl ho
        rw [h4, h4]
        have e1 : ¬ o.dst = some sl := by rw [hd]; intro e; cases e; exact hne rfl
        simp only [effEnv, hd, if_true, valOf]
        rw [hd] at e1
        simp only [e1, if_false]
        exact hav.symm
      obtain ⟨es, stN, hk, hIN, hlen, htr⟩ := evOps_tr H rest (s.note o) _ k h hnote
      refine ⟨some e :: es, stN, by simpa using hk, hIN, by simp [hlen], ?_⟩
      obtain ⟨n1, n2, n3, n4⟩ := note_lk (st := s) (o := o)
      have ht : Tr P ops (o :: rest) (some e :: es) st' stN :=
        .go hI' hg hT (s := s.note o) (by rw [n4, h1]) (by rw [n3, h2]) h3 (by rw [n1]; exact h4) (by rw [n2]; exact h5) htr
      exact ht.congr hI (fun t => (he t).symm) hm.symm hx.symm hn.symm (by simp)
    have skipC : ∀ st' : St, Inv st' → (∀ t, lk t st'.env = lk t st.env) → st'.mem = st.mem → st'.nx = st.nx → st'.n = st.n →
        (∃ j want g, o.guard = some (j, want) ∧ (nthL j ops).bind (·.dst) = some g ∧ (lk g st'.env = some (.v (.bool (!want))) ∨ ∃ vs, lk g st'.env = some (.v (.tuple vs)))) →
        (match st'.put o.dst (.v undef) with | some s => evOps cfg ops (log ++ [none]) k rest { s with nx := s.nx + 1 } | none => none) = some r →
        ∃ es stN, k (log ++ es) stN = some r ∧ Inv stN ∧ es.length = (o :: rest).length ∧ Tr P ops (o :: rest) es st stN := by
      intro st' hI' he hm hx hn hg h
      split at h
      · rename_i s hp
        obtain ⟨h1, h2, h3, h4, h5, h6⟩ := put_some hp
        have hIs : Inv { s with nx := s.nx + 1 } := by
          refine ⟨fun t x (hx : lk t s.env = some x) => ?_, ?_, fun t x (hx : lk t s.env = some x) l hl => ?_, fun l bk (hl : lk l s.mem = some bk) => ?_, fun p hp => ?_⟩
          · rw [h5] at hx
            split at hx
            · cases hx; intro v hv; simp at hv
            · exact hI'.we t x hx
          · show MW fun l => lk l s.mem
            rw [h2]; exact hI'.wm
          · rw [h5] at hx
            split at hx
            · cases hx; simp [lab] at hl
            · have := hI'.lb t x hx l hl; show l < s.nx + 1; omega
          · rw [h2] at hl
            have := hI'.mb l bk hl; show l < s.nx + 1; omega
          · obtain ⟨a, b⟩ := h6 p hp
            show lk p.1 s.env = lk p.2 s.env
            rw [h5, h5]
            have e1 : ¬ o.dst = some p.1 := fun e => (b _ e).1 rfl
            have e2 : ¬ o.dst = some p.2 := fun e => (b _ e).2 rfl
            simp only [e1, e2, if_false]
            exact hI'.mv p a
        obtain ⟨es, stN, hk, hIN, hlen, htr⟩ := evOps_tr H rest _ _ k h hIs
        refine ⟨none :: es, stN, by simpa using hk, hIN, by simp [hlen], ?_⟩
        have ht : Tr P ops (o :: rest) (none :: es) st' stN :=
          .skip hI' hg (s := { s with nx := s.nx + 1 }) h1 (by show s.nx + 1 = _; rw [h3]) h4 (fun t => by show lk t s.env = _; simp [h5, effEnv, valOf]) (fun l => by show lk l s.mem = _; rw [h2]) htr
        exact ht.congr hI (fun t => (he t).symm) hm.symm hx.symm hn.symm (by simp)
      · cases h
    simp only [evOps, norm_eq] at h
    split at h
    · rename_i hg
      exact goC st hI (fun _ => rfl) rfl rfl rfl (fun j want hj => by rw [hg] at hj; cases hj) h
    · rename_i j want hg
      split at h
      · rename_i g hj
        split at h
        · rename_i b hb
          have hlk : ∀ (c : Bool), c = b → ∀ t, lk t (setB g c st.mv st.env) = lk t st.env := fun c hc => by subst hc; exact setB_lk st.mv st.env hI.mv hb
          have hIc : ∀ (c : Bool), c = b → Inv { st with env := setB g c st.mv st.env } := fun c hc => hI.congr (hlk c hc) rfl rfl (fun p hp => hp)
          cases b with
          | true =>
            simp only [cond_true] at h
            cases want with
            | true =>
              simp only [cond_true] at h
              refine goC { st with env := setB g true st.mv st.env } (hIc true rfl) (hlk true rfl) rfl rfl rfl (fun j' want' hj' => ?_) h
              rw [hg] at hj'; cases hj'
              exact ⟨g, hj, by show lk g (setB g true st.mv st.env) = _; rw [hlk true rfl]; exact hb⟩
            | false =>
              simp only [cond_false] at h
              exact skipC { st with env := setB g true st.mv st.env } (hIc true rfl) (hlk true rfl) rfl rfl rfl ⟨j, false, g, hg, hj, .inl (by show lk g (setB g true st.mv st.env) = _; rw [hlk true rfl]; exact hb)⟩ h
          | false =>
            simp only [cond_false] at h
            cases want with
            | true =>
              simp only [cond_true] at h
              exact skipC { st with env := setB g false st.mv st.env } (hIc false rfl) (hlk false rfl) rfl rfl rfl ⟨j, true, g, hg, hj, .inl (by show lk g (setB g false st.mv st.env) = _; rw [hlk false rfl]; exact hb)⟩ h
            | false =>
              simp only [cond_false] at h
              refine goC { st with env := setB g false st.mv st.env } (hIc false rfl) (hlk false rfl) rfl rfl rfl (fun j' want' hj' => ?_) h
              rw [hg] at hj'; cases hj'
              exact ⟨g, hj, by show lk g (setB g false st.mv st.env) = _; rw [hlk false rfl]; exact hb⟩
        · rename_i vs hvs
          exact skipC st hI (fun _ => rfl) rfl rfl rfl ⟨j, want, g, hg, hj, .inr ⟨vs, hvs⟩⟩ h
        · cases h
      · cases h

end
end Go.Proofs.YtnfbcofieobkkaaGreatDoor.Ev
