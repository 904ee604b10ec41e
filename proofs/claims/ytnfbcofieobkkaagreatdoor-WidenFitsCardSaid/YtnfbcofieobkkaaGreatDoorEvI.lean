/- The evaluator is sound, ninth part: a region in any order; code; a function. -/
import Derived.Test.YtnfbcofieobkkaaGreatDoorEvH
import Derived.LoopN
namespace Go.Proofs.YtnfbcofieobkkaaGreatDoor.Ev
open Go Go.RowKit
set_option linter.unusedVariables false
set_option linter.unusedSimpArgs false

section
variable {P : Program} {cfg : Cfg}

theorem draw_step {ops : List Oper} {zs : List (Oper × Option Eff)} {st0 : St} {w0 : World} {L : Nat → Bool} {ρ : Nat → Nat} {a : Act} {w : World} {i : Nat} {o : Oper} {e : Option Eff} {s : St}
    (hok : okAll ops 0 zs = true) (hzi : zs[i]? = some (o, e)) (hat : AtOp P ops o e s) (hx : s.nx = st0.nx + i) (hn : s.n = st0.n)
    (hse : ∀ t, lk t s.env = foldE st0.nx (fun j => decide (j < i)) zs 0 (fun t => lk t st0.env) t) (hsm : ∀ l, lk l s.mem = foldM st0.nx (fun j => decide (j < i)) zs 0 (fun l => lk l st0.mem) l)
    (hD : DI w0 st0.nx ops zs (fun t => lk t st0.env) (fun l => lk l st0.mem) st0.n L ρ a w) (hi : L i = false) (hready : ∀ d ∈ o.after.toList, Region.binds .any d = true → L d.on = true)
    {K : Act → World → Prop} {Q : Exit → Act → World → Prop}
    (hK : ∀ ρ' a' w', DI w0 st0.nx ops zs (fun t => lk t st0.env) (fun l => lk l st0.mem) st0.n (fun j => if j = i then true else L j) ρ' a' w' → K a' w') :
    if Region.wanted o (yielded ops.toArray a.tmps) then o.wp P a w K Q ∨ (o.asks P a w ∧ LetsOut Q) else K (a.put o.dst undef) w := by
  obtain ⟨hsplit, hlen⟩ := split_at hzi
  -- no executed operation behind this one is in conflict with it; every one ahead of it that is has run
  have hbehind : ∀ j oj ej, i < j → zs[j]? = some (oj, ej) → L j = true → conf ops o e oj ej = false := by
    intro j oj ej hij hj hLj
    cases hc : conf ops o e oj ej with
    | false => rfl
    | true =>
      have := (okAll_get hok i o e hzi).2 j oj ej hij hj hc
      obtain ⟨d, hd, h1, h2⟩ := ordered_mem this
      have := hD.down j oj ej hj hLj d hd h2
      rw [h1] at this
      simp only [Nat.zero_add] at this
      rw [hi] at this; cases this
  have hahead : ∀ j oj ej, j < i → zs[j]? = some (oj, ej) → conf ops oj ej o e = true → L j = true := by
    intro j oj ej hij hj hc
    have := (okAll_get hok j oj ej hj).2 i o e hij hzi hc
    obtain ⟨d, hd, h1, h2⟩ := ordered_mem this
    have := hready d hd h2
    rw [h1] at this
    simpa using this
  -- the slots that it looks at
  have hagree : ∀ t ∈ opReads ops o, lk t s.env = foldE st0.nx L zs 0 (fun t => lk t st0.env) t := by
    intro t ht
    rw [hse]
    refine foldE_agree _ _ _ _ _ rfl (fun j p hj hd => ?_)
    obtain ⟨oj, ej⟩ := p
    simp only [Nat.zero_add]
    have hdt : t ∈ dstL oj := by simp only at hd; simp [dstL, hd]
    rcases Nat.lt_trichotomy j i with h1 | h1 | h1
    · rw [hahead j oj ej h1 hj (conf_of (.inl (meet_true hdt ht)))]
      simp [h1]
    · subst h1
      rw [hi]; simp
    · cases hL : L j with
      | false => simp; omega
      | true =>
        have := hbehind j oj ej h1 hj hL
        rw [conf_of (.inr (.inr (.inl (meet_true hdt ht))))] at this
        cases this
  have hval : ∀ t av, foldE st0.nx L zs 0 (fun t => lk t st0.env) t = some av → ∀ x, av = .v x → a.tmps.getD t undef = x := hD.rel.val
  have hgs : ∀ j want g, o.guard = some (j, want) → (nthL j ops).bind (·.dst) = some g → lk g s.env = foldE st0.nx L zs 0 (fun t => lk t st0.env) g := fun j want g h1 h2 => hagree g (guard_reads h1 h2)
  -- the new state is the old one with the effect
  have hE : foldE st0.nx (fun j => if j = i then true else L j) zs 0 (fun t => lk t st0.env) = effEnv o.dst (st0.nx + i) e (foldE st0.nx L zs 0 (fun t => lk t st0.env)) := by
    funext t
    by_cases hd : o.dst = some t
    · conv => lhs; rw [hsplit, foldE_append, foldE]
      rw [foldE_free]
      · simp [hlen, stepE, effEnv, hd]
      · intro j p hj hL hpd
        obtain ⟨oj, ej⟩ := p
        have hj' : zs[i + 1 + j]? = some (oj, ej) := by simpa [List.getElem?_drop] using hj
        have hLj : L (i + 1 + j) = true := by
          have hne : ¬ 0 + (zs.take i).length + 1 + j = i := by omega
          simp only [hne, if_false] at hL
          rw [← hL]; congr 1; omega
        have := hbehind _ oj ej (by omega) hj' hLj
        rw [conf_of (.inr (.inl (meet_true (x := t) (by simp [dstL, hd]) (by simp only at hpd; simp [dstL, hpd]))))] at this
        cases this
    · simp only [effEnv, hd, if_false]
      refine foldE_agree _ _ _ _ _ rfl (fun j p hj hpd => ?_)
      simp only [Nat.zero_add]
      have : j ≠ i := by
        rintro rfl
        rw [hzi] at hj
        cases hj
        exact hd hpd
      simp [this]
  have hlive : ∀ l ∈ Eff.acc e, l < st0.nx ∨ ∃ j, L j = true ∧ l = st0.nx + j := by
    intro l hl
    match e, hat.ev, hl with
    | some e', hev, hl =>
      obtain ⟨t, ht, av, hav, hlab⟩ := hev.2.2.2 l (List.mem_append_left _ hl)
      have hav' : lk t s.env = some av := hav
      rw [hagree t (tmps_reads ht)] at hav'
      exact hD.lab t av hav' l hlab
  have hsmall : ∀ l ∈ Eff.acc e, l < st0.nx + i := by
    intro l hl
    match e, hat.ev, hl with
    | some e', hev, hl =>
      obtain ⟨t, ht, av, hav, hlab⟩ := hev.2.2.2 l (List.mem_append_left _ hl)
      have := hat.inv.lb t av hav l hlab
      omega
  have hwa : ∀ l, l ∈ Eff.wrs e → l ∈ Eff.acc e := by
    intro l hl
    match e, hl with
    | some (.wr m b), hl => exact hl
  have hpost : ∀ m ∈ touch (st0.nx + i) e, ∀ j p, (zs.drop (i + 1))[j]? = some p → L (i + 1 + j) = true → m ∉ touch (st0.nx + (i + 1 + j)) p.2 := by
    intro m hm j p hj hLj hm2
    obtain ⟨oj, ej⟩ := p
    have hj' : zs[i + 1 + j]? = some (oj, ej) := by simpa [List.getElem?_drop] using hj
    have hnc := hbehind _ oj ej (by omega) hj' hLj
    rcases touch_wrs hm with h1 | ⟨h1, _⟩
    · rcases touch_wrs hm2 with h2 | ⟨h2, _⟩
      · have : m ∈ Eff.acc ej := by
          match ej, h2 with
          | some (.wr m' b), h2 => exact h2
        rw [conf_of (.inr (.inr (.inr (.inl (meet_true h1 this)))))] at hnc
        cases hnc
      · have := hsmall m (hwa m h1)
        omega
    · rcases touch_wrs hm2 with h2 | ⟨h2, _⟩
      · match ej, h2, hj' with
        | some (.wr m' b), h2, hj' =>
          simp only [Eff.wrs, List.mem_singleton] at h2
          subst h2
          rcases hD.wr _ _ _ _ hj' hLj with h3 | ⟨q, hq, h3⟩
          · omega
          · have : q = i := by omega
            subst this
            rw [hi] at hq; cases hq
      · omega
  have hM : foldM st0.nx (fun j => if j = i then true else L j) zs 0 (fun l => lk l st0.mem) = effMem (st0.nx + i) e (foldM st0.nx L zs 0 (fun l => lk l st0.mem)) := by
    funext m
    by_cases hm : m ∈ touch (st0.nx + i) e
    · conv => lhs; rw [hsplit, foldM_append, foldM]
      have key : ∀ (L' : Nat → Bool) (mem : Nat → Option Bk), (∀ j, i < j → L' j = L j) → foldM st0.nx L' (zs.drop (i + 1)) (0 + (zs.take i).length + 1) mem m = mem m := by
        intro L' mem hL'
        refine foldM_free _ _ _ _ (fun j p hj hLj => ?_)
        rw [hL' _ (by omega)] at hLj
        have e1 : 0 + (zs.take i).length + 1 + j = i + 1 + j := by omega
        rw [e1] at hLj ⊢
        exact hpost m hm j p hj hLj
      rw [key _ _ (fun j hj => by have : j ≠ i := (by omega); simp [this])]
      have hpre : foldM st0.nx (fun j => if j = i then true else L j) (zs.take i) 0 (fun l => lk l st0.mem) = foldM st0.nx L (zs.take i) 0 (fun l => lk l st0.mem) :=
        foldM_congr _ _ _ _ (fun j _ hj => by have : j ≠ i := (by omega); simp [this])
      have hall : foldM st0.nx L zs 0 (fun l => lk l st0.mem) m = foldM st0.nx L (zs.take i) 0 (fun l => lk l st0.mem) m := by
        conv => lhs; rw [hsplit, foldM_append, foldM]
        rw [key L _ (fun _ _ => rfl)]
        simp [hlen, hi]
      rw [hpre]
      simp only [hlen, Nat.zero_add, if_true, stepM]
      exact effMem_local hall.symm
    · rw [effMem_free hm]
      refine foldM_agree _ _ _ _ _ rfl (fun j p hj hp => ?_)
      simp only [Nat.zero_add] at hp ⊢
      have : j ≠ i := by
        rintro rfl
        rw [hzi] at hj
        cases hj
        exact hm hp
      simp [this]
  have hLi : ∀ j, L j = true → (if j = i then true else L j) = true := fun j hj => by split <;> simp [hj]
  -- what holds of the new state
  have hnew : ∀ ρ' a' w', FRel w0 ρ' (effEnv o.dst (st0.nx + i) e (foldE st0.nx L zs 0 (fun t => lk t st0.env))) (effMem (st0.nx + i) e (foldM st0.nx L zs 0 (fun l => lk l st0.mem))) st0.n a' w' → K a' w' := by
    intro ρ' a' w' hR
    refine hK ρ' a' w' ⟨by rw [hE, hM]; exact hR, ?_, ?_, ?_, ?_⟩
    · intro j oj ej hj hLj d hd hb
      by_cases hji : j = i
      · subst hji
        rw [hzi] at hj
        cases hj
        exact hLi _ (hready d hd hb)
      · simp only [hji, if_false] at hLj
        exact hLi _ (hD.down j oj ej hj hLj d hd hb)
    · intro t av hav l hl
      rw [hE] at hav
      simp only [effEnv] at hav
      split at hav
      · simp only [Option.some.injEq] at hav
        subst hav
        match e, hat.ev, hl with
        | none, _, hl => simp [valOf, lab] at hl
        | some (.wr _ _), _, hl => simp [valOf, lab] at hl
        | some (.val ls av'), hev, hl =>
          obtain ⟨t', ht', av2, hav2, hlab⟩ := hev.2.2.2 l (List.mem_append_right _ hl)
          have hav2' : lk t' s.env = some av2 := hav2
          rw [hagree t' (tmps_reads ht')] at hav2'
          rcases hD.lab t' av2 hav2' l hlab with h | ⟨q, hq, h⟩
          · exact .inl h
          · exact .inr ⟨q, hLi q hq, h⟩
        | some (.nw T b sl n), _, hl =>
          have : l = st0.nx + i := by cases sl <;> simpa [valOf, lab] using hl
          exact .inr ⟨i, by simp, this⟩
      · rcases hD.lab t av hav l hl with h | ⟨q, hq, h⟩
        · exact .inl h
        · exact .inr ⟨q, hLi q hq, h⟩
    · intro l bk hbk
      rw [hM] at hbk
      by_cases hm : l ∈ touch (st0.nx + i) e
      · rcases touch_wrs hm with h1 | ⟨h1, _⟩
        · rcases hlive l (hwa l h1) with h | ⟨q, hq, h⟩
          · exact .inl h
          · exact .inr ⟨q, hLi q hq, h⟩
        · exact .inr ⟨i, by simp, h1⟩
      · rw [effMem_free hm] at hbk
        rcases hD.dom l bk hbk with h | ⟨q, hq, h⟩
        · exact .inl h
        · exact .inr ⟨q, hLi q hq, h⟩
    · intro j oj l b hj hLj
      by_cases hji : j = i
      · subst hji
        rw [hzi] at hj
        cases hj
        rcases hlive l (by simp [Eff.acc]) with h | ⟨q, hq, h⟩
        · exact .inl h
        · exact .inr ⟨q, hLi q hq, h⟩
      · simp only [hji, if_false] at hLj
        rcases hD.wr j oj l b hj hLj with h | ⟨q, hq, h⟩
        · exact .inl h
        · exact .inr ⟨q, hLi q hq, h⟩
  match e, hat.ev, hnew, hagree, hlive, hsmall, hzi with
  | none, hev, hnew, _, _, _, _ =>
    rw [skip_not hev hval hgs]
    simp only [Bool.false_eq_true, if_false]
    refine hnew ρ _ _ ?_
    exact hD.rel.put o.dst (fun d hd => by rw [← hn]; exact hat.d d hd) (.v undef)
  | some e', hev, hnew, hagree, hlive, hsmall, hzi =>
    rw [go_wanted hev.1 hval hgs, if_pos rfl]
    refine .inl (step_go hev.2.1 hD.rel (fun t ht => hagree t (tmps_reads ht)) (fun l hl => ?_) (fun d hd => by rw [← hn]; exact hat.d d hd) (lbl := st0.nx + i) ?_ ?_ hnew)
    · show lk l s.mem = _
      rw [hsm]
      refine foldM_agree _ _ _ _ _ rfl (fun j p hj hp => ?_)
      obtain ⟨oj, ej⟩ := p
      simp only [Nat.zero_add] at hp ⊢
      rcases Nat.lt_trichotomy j i with h1 | h1 | h1
      · rcases touch_wrs hp with h2 | ⟨h2, _⟩
        · rw [hahead j oj ej h1 hj (conf_of (.inr (.inr (.inr (.inl (meet_true h2 hl))))))]
          simp [h1]
        · rcases hlive l hl with h3 | ⟨q, hq, h3⟩
          · omega
          · have : q = j := by omega
            subst this
            rw [hq]; simp [h1]
      · subst h1
        rw [hi]; simp
      · cases hL : L j with
        | false => simp; omega
        | true =>
          rcases touch_wrs hp with h2 | ⟨h2, _⟩
          · have := hbehind j oj ej h1 hj hL
            rw [conf_of (.inr (.inr (.inr (.inr (meet_true h2 hl)))))] at this
            cases this
          · have := hsmall l hl
            omega
    · intro t av hav hl
      rcases hD.lab t av hav _ hl with h | ⟨q, hq, h⟩
      · omega
      · have : q = i := by omega
        subst this
        rw [hi] at hq; cases hq
    · cases hmm : foldM st0.nx L zs 0 (fun l => lk l st0.mem) (st0.nx + i) with
      | none => rfl
      | some bk =>
        rcases hD.dom _ bk hmm with h | ⟨q, hq, h⟩
        · omega
        · have : q = i := by omega
          subst this
          rw [hi] at hq; cases hq

theorem draw_any {ops : List Oper} {es : List (Option Eff)} {st0 stN : St} (htr : Tr P ops ops es st0 stN) (hlen : es.length = ops.length) (hok : okAll ops 0 (ops.zip es) = true) {w0 : World} {Q : Exit → Act → World → Prop}
    (hQ : ∀ ρ' a' w', SRel w0 ρ' stN a' w' → Q .normal a' w') :
    ∀ (fuel : Nat) (listed : Array Bool) (ρ : Nat → Nat) (a : Act) (w : World), listed.size = ops.length → cnt (fun j => listed.getD j false) ops.length ≤ fuel →
      DI w0 st0.nx ops (ops.zip es) (fun t => lk t st0.env) (fun l => lk l st0.mem) st0.n (fun j => listed.getD j false) ρ a w → wpAny P .any ops.toArray Q fuel listed a w := by
  obtain ⟨hat, hfe, hfm, hfn, _⟩ := tr_at (nx := st0.nx) htr 0 (by omega)
  have hz : ∀ i, i < ops.length → ∃ o e, (ops.zip es)[i]? = some (o, e) ∧ ops[i]? = some o := by
    intro i hi
    have h1 : i < (ops.zip es).length := by simp [hlen]; exact hi
    refine ⟨ops[i], es[i]'(by omega), ?_, List.getElem?_eq_getElem hi⟩
    rw [List.getElem?_eq_getElem h1]
    simp
  have hfin : ∀ (listed : Array Bool) ρ a w, (∀ j, j < ops.length → listed.getD j false = true) → DI w0 st0.nx ops (ops.zip es) (fun t => lk t st0.env) (fun l => lk l st0.mem) st0.n (fun j => listed.getD j false) ρ a w → Q .normal a w := by
    intro listed ρ a w hall hD
    refine hQ ρ a w ?_
    have e1 : foldE st0.nx (fun j => listed.getD j false) (ops.zip es) 0 (fun t => lk t st0.env) = fun t => lk t stN.env := by
      rw [foldE_congr (L' := fun _ => true)]
      · funext t; exact (hfe t).symm
      · intro j _ hj
        exact hall j (by simp [hlen] at hj; omega)
    have e2 : foldM st0.nx (fun j => listed.getD j false) (ops.zip es) 0 (fun l => lk l st0.mem) = fun l => lk l stN.mem := by
      rw [foldM_congr (L' := fun _ => true)]
      · funext l; exact (hfm l).symm
      · intro j _ hj
        exact hall j (by simp [hlen] at hj; omega)
    have := hD.rel
    rw [e1, e2, ← hfn] at this
    exact this
  have hlr : ∀ (listed : Array Bool), listed.size = ops.length → ∀ j, j < ops.length → listed.getD j true = listed.getD j false := by
    intro listed hs j hj
    have : j < listed.size := by omega
    simp [Array.getD, this]
  have hnil : ∀ (listed : Array Bool), listed.size = ops.length → Region.ready .any ops.toArray listed = [] → ∀ j, j < ops.length → listed.getD j false = true := by
    intro listed hs hr j hj
    cases hL : listed.getD j false with
    | true => rfl
    | false =>
      obtain ⟨m, hm, hLm, hlow⟩ := least_unlisted (L := fun j => listed.getD j false) hj hL
      obtain ⟨o, e, hzm, hom⟩ := hz m hm
      have : m ∈ Region.ready .any ops.toArray listed := by
        rw [mem_ready]
        refine ⟨by rw [hlr listed hs m hm]; exact hLm, o, by simpa using hom, fun d hd hb => ?_⟩
        have := (okAll_get hok m o e hzm).1 d (by simpa using hd) hb
        exact hlow d.on (by omega)
      rw [hr] at this
      cases this
  intro fuel
  induction fuel with
  | zero =>
    intro listed ρ a w hs hc hD
    have hall := cnt_zero (Nat.le_zero.1 hc)
    refine ⟨?_, hfin listed ρ a w hall hD⟩
    cases hr : Region.ready .any ops.toArray listed with
    | nil => rfl
    | cons m ms =>
      have hm : m ∈ Region.ready .any ops.toArray listed := by rw [hr]; exact List.mem_cons_self
      rw [mem_ready] at hm
      obtain ⟨h1, o, h2, _⟩ := hm
      have hlt : m < ops.length := by
        have := (Array.getElem?_eq_some_iff.1 h2).1
        simpa using this
      rw [hlr listed hs m hlt, hall m hlt] at h1
      cases h1
  | succ fuel ih =>
    intro listed ρ a w hs hc hD
    refine ⟨fun hr => hfin listed ρ a w (hnil listed hs hr) hD, fun i hi => ?_⟩
    rw [mem_ready] at hi
    obtain ⟨h1, o, h2, h3⟩ := hi
    have hlt : i < ops.length := by
      have := (Array.getElem?_eq_some_iff.1 h2).1
      simpa using this
    rw [hlr listed hs i hlt] at h1
    obtain ⟨o', e, hzi, hoi⟩ := hz i hlt
    have ho : o' = o := by
      have h2' : ops[i]? = some o := by simpa using h2
      rw [hoi] at h2'
      cases h2'; rfl
    subst ho
    obtain ⟨s, hA, hx, hn, hse, hsm⟩ := hat i o' e hzi
    unfold wpOp
    rw [h2]
    simp only
    simp only [Nat.zero_add, Nat.add_zero] at hx hse hsm
    refine draw_step hok hzi hA hx hn hse hsm hD h1 (fun d hd hb => h3 d (by simpa using hd) hb) fun ρ' a' w' hD' => ?_
    have e : (fun j => (listed.setIfInBounds i true).getD j false) = fun j => if j = i then true else listed.getD j false := by
      funext j
      simp only [Array.getD_eq_getD_getElem?, Array.getElem?_setIfInBounds]
      by_cases hji : i = j
      · subst hji
        have : i < listed.size := by omega
        simp [this]
      · have : ¬ j = i := fun e => hji e.symm
        simp [hji, this]
    refine ih (listed.setIfInBounds i true) ρ' a' w' (by simp [hs]) ?_ (by rw [e]; exact hD')
    rw [e]
    have := cnt_set (L := fun j => listed.getD j false) h1 (n := ops.length)
    simp only [hlt, if_true] at this
    omega

theorem SRel.trim {w0 : World} {ρ : Nat → Nat} {st : St} {a : Act} {w : World} {env' : List (Nat × AV)} {mem' : List (Nat × Bk)} {st' : St} (h : SRel w0 ρ st a w) (he : st'.env = env') (hm : st'.mem = mem') (hn : st'.n = st.n)
    (h1 : ∀ t av, lk t env' = some av → lk t st.env = some av) (h2 : ∀ l bk, lk l mem' = some bk → lk l st.mem = some bk) : SRel w0 ρ st' a w := by
  subst he hm
  unfold SRel
  rw [hn]
  exact ⟨h.sz, h.df, fun t av hav => h.he t av (h1 t av hav), fun l bk hl => h.hm l bk (h2 l bk hl), fun l bk l' bk' hl hl' => h.hi l bk l' bk' (h2 l bk hl) (h2 l' bk' hl'), h.hb, h.wi⟩

theorem lk_filter {α : Type} {p : Nat → Bool} {q : Nat × α → Bool} (hq : ∀ x, q x = p x.1) : ∀ (l : List (Nat × α)) (t : Nat) (a : α), lk t (l.filter q) = some a → lk t l = some a ∧ p t = true
  | [], t, a, h => by simp [lk_nil] at h
  | (u, b) :: l, t, a, h => by
    rw [List.filter_cons] at h
    rw [lk_cons]
    split at h
    · rename_i hu
      rw [lk_cons] at h
      split at h
      · rename_i e; subst e
        rw [if_pos rfl]
        exact ⟨h, by rw [hq] at hu; exact hu⟩
      · rename_i e
        rw [if_neg e]
        exact lk_filter hq l t a h
    · rename_i hu
      obtain ⟨h1, h2⟩ := lk_filter hq l t a h
      split
      · rename_i e; subst e
        rw [hq] at hu
        exact absurd h2 hu
      · exact ⟨h1, h2⟩

theorem Inv.sub {st s : St} (h : Inv st) (he : ∀ t av, lk t s.env = some av → lk t st.env = some av) (hm : ∀ l bk, lk l s.mem = some bk → lk l st.mem = some bk) (hx : ∀ t av, lk t s.env = some av → ∀ l ∈ lab av, l < s.nx) (hy : ∀ l bk, lk l s.mem = some bk → l < s.nx) (hv : s.mv = []) : Inv s :=
  ⟨fun t av (hav : lk t s.env = some av) => h.we t av (he t av hav), fun l bk (hl : lk l s.mem = some bk) => h.wm l bk (hm l bk hl), hx, hy, fun p hp => by rw [hv] at hp; cases hp⟩

theorem region_some (H : CfgOk P cfg) (hmix : P.follows .mixedOrders = true) {R : Type} {r : R} {id : Nat} {ops : Array Oper} {draw : Bool} {st : St} {k : St → Option R} (h : evRegion cfg ops.toList draw st k = some r) (hI : Inv st) :
    ∃ st', k st' = some r ∧ Inv st' ∧ ∀ {w0 ρ a w}, SRel w0 ρ st a w → ∀ {Q : Exit → Act → World → Prop}, (∀ ρ' a' w', SRel w0 ρ' st' a' w' → Q .normal a' w') → (Code.region id ops draw).wp P Q a w := by
  unfold evRegion at h
  simp only [norm_eq] at h
  have hI0 : Inv { st with mv := [] } := hI.sub (fun _ _ h => h) (fun _ _ h => h) hI.lb hI.mb rfl
  obtain ⟨es, stN, h, hIN, hlen, htr⟩ := evOps_tr H _ _ _ _ h hI0
  obtain ⟨hb, h⟩ := bif_some h
  have hsub : ∀ t av, lk t (stN.trim cfg.keep).env = some av → lk t stN.env = some av := fun t av hav => (lk_filter (p := fun t => cfg.keep.contains t) (fun _ => rfl) stN.env t av hav).1
  have hIT : Inv (stN.trim cfg.keep) := hIN.sub hsub (fun _ _ h => h) (fun t av hav => hIN.lb t av (hsub t av hav)) hIN.mb rfl
  refine ⟨_, h, hIT, ?_⟩
  intro w0 ρ a w hR Q hQ
  have hR0 : SRel w0 ρ { st with mv := [] } a w := hR
  have hQ' : ∀ ρ' a' w', SRel w0 ρ' stN a' w' → Q .normal a' w' := fun ρ' a' w' hR' => hQ ρ' a' w' (hR'.trim rfl rfl rfl hsub (fun _ _ h => h))
  cases draw with
  | false =>
    refine wp_region_list ?_
    have := tr_seq htr hR0 hQ'
    rwa [Array.toArray_toList] at this
  | true =>
    simp only [Bool.not_true, Bool.false_or, List.nil_append] at hb
    refine wp_region_any hmix ?_
    have := draw_any htr hlen hb (w0 := w0) hQ' ops.size (Array.replicate ops.size false) ρ a { w with drawn := w.drawn + 1 } (by simp) ?_ ?_
    · rwa [Array.toArray_toList] at this
    · have hg : (fun j => (Array.replicate ops.size false).getD j false) = fun _ => false := by
        funext j
        simp only [Array.getD_eq_getD_getElem?, Array.getElem?_replicate]
        split <;> rfl
      rw [hg, Array.length_toList]
      have : ∀ n, cnt (fun _ => false) n = n := by
        intro n
        induction n with
        | zero => rfl
        | succ n ih => simp [cnt, ih]
      rw [this]
      exact Nat.le_refl _
    · have hg : (fun j => (Array.replicate ops.size false).getD j false) = fun _ => false := by
        funext j
        simp only [Array.getD_eq_getD_getElem?, Array.getElem?_replicate]
        split <;> rfl
      rw [hg]
      have e1 : foldE st.nx (fun _ => false) (ops.toList.zip es) 0 (fun t => lk t st.env) = fun t => lk t st.env := by
        funext t; exact foldE_free _ _ _ _ (fun _ _ _ h => by cases h)
      have e2 : foldM st.nx (fun _ => false) (ops.toList.zip es) 0 (fun l => lk l st.mem) = fun l => lk l st.mem := by
        funext l; exact foldM_free _ _ _ _ (fun _ _ _ h => by cases h)
      refine ⟨?_, (fun _ _ _ _ h => by cases h), fun t av hav l hl => ?_, fun l bk hbk => ?_, (fun _ _ _ _ _ h => by cases h)⟩
      · show FRel w0 ρ (foldE st.nx _ _ 0 _) (foldM st.nx _ _ 0 _) st.n a _
        rw [e1, e2]
        exact hR0.world ⟨rfl, rfl, rfl, Nat.le_refl _, fun _ _ => rfl⟩
      · have hav : foldE st.nx (fun _ => false) (ops.toList.zip es) 0 (fun t => lk t st.env) t = some av := hav
        rw [e1] at hav
        exact .inl (hI.lb t av hav l hl)
      · have hbk : foldM st.nx (fun _ => false) (ops.toList.zip es) 0 (fun l => lk l st.mem) l = some bk := hbk
        rw [e2] at hbk
        exact .inl (hI.mb l bk hbk)

end
end Go.Proofs.YtnfbcofieobkkaaGreatDoor.Ev
