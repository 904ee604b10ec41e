/- The evaluator is sound, tenth part: code, a function, and how a function's contract follows. -/
import Derived.Test.YtnfbcofieobkkaaGreatDoorEvI
import Derived.Scope
namespace Go.Proofs.YtnfbcofieobkkaaGreatDoor.Ev
open Go Go.RowKit
set_option linter.unusedVariables false
set_option linter.unusedSimpArgs false

section
variable {P : Program} {cfg : Cfg}

def toExit : Ex → Exit
  | .normal => .normal
  | .exit id => .exit id
  | .ret => .ret

/-- What the code's exits come to. -/
def Post (w0 : World) {R : Type} (k : Ex → St → Option R) (r : R) : Exit → Act → World → Prop :=
  fun e a w => ∃ e' st ρ, e = toExit e' ∧ k e' st = some r ∧ Inv st ∧ SRel w0 ρ st a w

def CodeOK (P : Program) (c : Code) (f : {R : Type} → St → (Ex → St → Option R) → Option R) : Prop :=
  ∀ (R : Type) (r : R) (st : St) (k : Ex → St → Option R), f st k = some r → Inv st → ∀ w0 ρ a w, SRel w0 ρ st a w → c.wp P (Post w0 k r) a w

theorem head_inv {st : St} {keys : List Nat} {nx : Nat} (h : Inv st) (hb : (st.head keys nx).below nx = true) : Inv (st.head keys nx) := by
  refine h.sub (fun t av hav => (lk_filter (p := fun t => keys.contains t) (fun _ => rfl) st.env t av hav).1) (fun l bk hl => (lk_filter (p := fun l => Nat.blt l nx && st.env.any fun q => keys.contains q.1 && (lab q.2).any (Nat.beq l)) (fun _ => rfl) st.mem l bk hl).1) (fun t av hav l hl => ?_) (fun l bk hl => ?_) rfl
  · simp only [St.below, List.all_eq_true] at hb
    have : ∃ p ∈ (st.head keys nx).env, p.2 = av := by
      have gen : ∀ (e : List (Nat × AV)), lk t e = some av → ∃ p ∈ e, p.2 = av := by
        intro e
        induction e with
        | nil => intro h; simp [lk_nil] at h
        | cons p e ih =>
          intro h
          obtain ⟨u, b⟩ := p
          rw [lk_cons] at h
          split at h
          · cases h; exact ⟨(u, av), List.mem_cons_self, rfl⟩
          · obtain ⟨p, hp, h⟩ := ih h
            exact ⟨p, List.mem_cons_of_mem _ hp, h⟩
      exact gen _ hav
    obtain ⟨p, hp, rfl⟩ := this
    have := hb p hp l hl
    show l < nx
    simpa [nblt] using this
  · have := (lk_filter (p := fun l => Nat.blt l nx && st.env.any fun q => keys.contains q.1 && (lab q.2).any (Nat.beq l)) (fun _ => rfl) st.mem l bk hl).2
    show l < nx
    simp only [Bool.and_eq_true, nblt, decide_eq_true_eq] at this
    exact this.1

theorem loop_ok {b : Code} {f : {R : Type} → St → (Ex → St → Option R) → Option R} (hf : CodeOK P b f) (keys : List Nat) (nx : Nat) :
    ∀ (n : Nat) (R : Type) (r : R) (st : St) (k : Ex → St → Option R), loopN f keys nx n st k = some r → Inv st → ∀ w0 ρ a w, SRel w0 ρ st a w → Code.rounds P b (Post w0 k r) n a w
  | 0, R, r, st, k, h, _, _, _, _, _, _ => by simp [loopN] at h
  | n + 1, R, r, st, k, h, hI, w0, ρ, a, w, hR => by
    rw [loopN, stepL] at h
    simp only [norm_eq] at h
    rw [rounds_succ]
    refine wp_mono (hf R r st _ h hI w0 ρ a w hR) ?_
    rintro e a' w' ⟨e', st', ρ', rfl, hk, hI', hR'⟩
    obtain ⟨hb, hk⟩ := bif_some hk
    have hR2 : SRel w0 ρ' (st'.head keys nx) a' w' := by
      refine hR'.trim rfl rfl rfl ?_ ?_
      · exact fun t av hav => (lk_filter (p := fun t => keys.contains t) (fun _ => rfl) st'.env t av hav).1
      · exact fun l bk hl => (lk_filter (p := fun l => Nat.blt l nx && st'.env.any fun q => keys.contains q.1 && (lab q.2).any (Nat.beq l)) (fun _ => rfl) st'.mem l bk hl).1
    cases e' with
    | normal => exact loop_ok hf keys nx n R r _ k hk (head_inv hI' hb) w0 ρ' a' w' hR2
    | exit id => exact ⟨.exit id, _, ρ', rfl, hk, head_inv hI' hb, hR2⟩
    | ret => exact ⟨.ret, _, ρ', rfl, hk, head_inv hI' hb, hR2⟩

/-- A loop's contract keeps what its rounds say. -/
def LCOk (cfg : Cfg) (N : Nat) (b : Code) (lc : LC) : Prop :=
  ∀ (R : Type) (r : R) st k, lc R st k = some r → ∃ n, loopN (evCode cfg N b) (st.env.map (·.1)) st.nx n st k = some r

theorem code_ok (H : CfgOk P cfg) (hmix : P.follows .mixedOrders = true) (N : Nat) : ∀ c : Code, (∀ b ∈ loopsOf c, ∀ lc, lkL (firstReg b) cfg.lp = some lc → LCOk cfg N b lc) → CodeOK P c (fun {_} st k => evCode cfg N c st k)
  | .skip, _ => fun R r st k h hI w0 ρ a w hR => wp_skip ⟨.normal, st, ρ, rfl, by simpa [evCode] using h, hI, hR⟩
  | .region id ops draw, _ => fun R r st k h hI w0 ρ a w hR => by
    simp only [evCode] at h
    obtain ⟨st', hk, hI', hw⟩ := region_some H hmix (id := id) h hI
    exact hw hR fun ρ' a' w' hR' => ⟨.normal, st', ρ', rfl, hk, hI', hR'⟩
  | .seq x y, HL => fun R r st k h hI w0 ρ a w hR => by
    simp only [evCode] at h
    refine wp_seq (wp_mono (code_ok H hmix N x (fun b hb => HL b (by simp [loopsOf, hb])) R r st _ h hI w0 ρ a w hR) ?_)
    rintro e a' w' ⟨e', st', ρ', rfl, hk, hI', hR'⟩
    cases e' with
    | normal => exact code_ok H hmix N y (fun b hb => HL b (by simp [loopsOf, hb])) R r st' k hk hI' w0 ρ' a' w' hR'
    | exit id => exact ⟨.exit id, st', ρ', rfl, hk, hI', hR'⟩
    | ret => exact ⟨.ret, st', ρ', rfl, hk, hI', hR'⟩
  | .cond c x y, HL => fun R r st k h hI w0 ρ a w hR => by
    simp only [evCode] at h
    obtain ⟨av, ha, h⟩ := getO_some h
    split at h
    · rename_i t
      have hev : a.eval c = .bool t := by
        cases c with
        | tmp u => exact hR.he u _ ha
        | const v => obtain ⟨e, _⟩ := ha; cases e; rfl
        | func f => cases ha
        | global g => exact ha.elim
      cases t with
      | true => exact wp_cond_true hev (code_ok H hmix N x (fun b hb => HL b (by simp [loopsOf, hb])) R r st k h hI w0 ρ a w hR)
      | false => exact wp_cond_false hev (code_ok H hmix N y (fun b hb => HL b (by simp [loopsOf, hb])) R r st k h hI w0 ρ a w hR)
    · cases h
  | .block id b, HL => fun R r st k h hI w0 ρ a w hR => by
    simp only [evCode] at h
    refine wp_block (wp_mono (code_ok H hmix N b (fun b hb => HL b (by simpa [loopsOf] using hb)) R r st _ h hI w0 ρ a w hR) ?_)
    rintro e a' w' ⟨e', st', ρ', rfl, hk, hI', hR'⟩
    cases e' with
    | normal => exact ⟨.normal, st', ρ', rfl, hk, hI', hR'⟩
    | exit i =>
      simp only [nbeq] at hk
      simp only [toExit, Exit.inBlock]
      by_cases hi : i = id
      · simp only [hi, decide_true, cond_true] at hk
        rw [if_pos hi]
        exact ⟨.normal, st', ρ', rfl, hk, hI', hR'⟩
      · simp only [hi, decide_false, cond_false] at hk
        rw [if_neg hi]
        exact ⟨.exit i, st', ρ', rfl, hk, hI', hR'⟩
    | ret => exact ⟨.ret, st', ρ', rfl, hk, hI', hR'⟩
  | .loop b, HL => fun R r st k h hI w0 ρ a w hR => by
    have hb := code_ok H hmix N b (fun b' hb' => HL b' (by simp [loopsOf, hb']))
    simp only [evCode, norm_eq] at h
    obtain ⟨hbe, h⟩ := bif_some h
    have hI2 := head_inv hI hbe
    have hR2 : SRel w0 ρ (st.head (match lk (firstReg b) cfg.ks with | some l => l | none => st.env.map (·.1)) st.nx) a w :=
      hR.trim rfl rfl rfl (fun t av hav => (lk_filter (p := fun t => List.contains _ t) (fun _ => rfl) st.env t av hav).1)
        (fun l bk hl => (lk_filter (p := fun l => Nat.blt l st.nx && st.env.any fun q => List.contains _ q.1 && (lab q.2).any (Nat.beq l)) (fun _ => rfl) st.mem l bk hl).1)
    split at h
    · rename_i lc hlc
      obtain ⟨n, hn⟩ := HL b (by simp [loopsOf]) lc hlc R r _ k h
      exact wp_loop_rounds n (loop_ok hb _ _ n R r _ k hn hI2 w0 ρ a w hR2)
    · split at h
      · rename_i m _
        exact wp_loop_rounds m (loop_ok hb _ _ m R r _ k h hI2 w0 ρ a w hR2)
      · exact wp_loop_rounds N (loop_ok hb _ _ N R r _ k h hI2 w0 ρ a w hR2)
  | .exit id, _ => fun R r st k h hI w0 ρ a w hR => wp_exit ⟨.exit id, st, ρ, rfl, by simpa [evCode] using h, hI, hR⟩
  | .ret, _ => fun R r st k h hI w0 ρ a w hR => wp_ret ⟨.ret, st, ρ, rfl, by simpa [evCode] using h, hI, hR⟩
  | .rangeFunc _ _ _ _, _ => fun R r st k h => by simp [evCode] at h
  | .scope b, HL => fun R r st k h hI w0 ρ a w hR => by
    simp only [evCode] at h
    refine wp_scope_straight (wp_mono (code_ok H hmix N b (fun b hb => HL b (by simpa [loopsOf] using hb)) R r st k h hI w0 ρ a w hR) ?_)
    rintro e a' w' ⟨e', st', ρ', rfl, hk, hI', hR'⟩
    cases e' <;> exact ⟨_, st', ρ', rfl, hk, hI', hR'⟩
  | .label _, _ => fun R r st k h hI w0 ρ a w hR => wp_label ⟨.normal, st, ρ, rfl, by simpa [evCode] using h, hI, hR⟩
  | .goto _, _ => fun R r st k h => by simp [evCode] at h
  | .refuse _, _ => fun R r st k h => by simp [evCode] at h

def resSem (tmps : Array Value) : ResultVar → Sem Value
  | .tmp t => pure (tmps.getD t undef)
  | .cell a t => do loadVar t (← asAddr (tmps.getD a undef))

theorem run_resCell {tmps : Array Value} {b : Nat} {T : TypeId} {ad : Addr} (e : tmps.getD b undef = .pointer (some ad)) (w : World) : (resSem tmps (.cell b T)).run P w = (loadVar T ad).run P w := by
  simp [resSem, e, asAddr]

theorem run_resTmp {tmps : Array Value} {t : Nat} {x : Value} (e : tmps.getD t undef = x) (w : World) : (resSem tmps (.tmp t)).run P w = .ok x w := by rw [resSem, e]; rfl

theorem res_some (H : CfgOk P cfg) {R : Type} {r : R} {st : St} (hI : Inv st) : ∀ {l : List ResultVar} {k : List Value → Option R}, evRes cfg st k l = some r →
    ∃ vs : List Value, k vs = some r ∧ (∀ v ∈ vs, wf1 v) ∧ ∀ {w0 ρ a w}, SRel w0 ρ st a w →
      (l.mapM (resSem a.tmps)).run P w = .ok vs w
  | [], k, h => ⟨[], by simpa [evRes] using h, by simp, fun _ => by simp⟩
  | .tmp t :: l, k, h => by
    simp only [evRes] at h
    split at h
    · rename_i x hx
      obtain ⟨h1, h⟩ := bif_some h
      obtain ⟨vs, hk, hw, hrun⟩ := res_some H hI h
      refine ⟨x :: vs, hk, ?_, fun hR => ?_⟩
      · intro v hv
        rcases List.mem_cons.1 hv with rfl | hv
        · have := hI.we t _ hx
          cases v <;> first | exact this | (simp [notTup] at h1)
        · exact hw v hv
      · have e := hR.he t _ hx
        simp only [conc] at e
        simp only [List.mapM_cons, Sem.run_bind, run_resTmp e, Result.andThen_ok]
        rw [hrun hR]
        rfl
    · cases h
  | .cell b T :: l, k, h => by
    simp only [evRes] at h
    split at h
    · rename_i ti lb off hT hb
      split at h
      · rename_i bk hbk
        obtain ⟨y, h, hy, hc⟩ := Blk.get_some h (hI.wm _ _ hbk)
        obtain ⟨vs, hk, hw, hrun⟩ := res_some H hI h
        refine ⟨y :: vs, hk, ?_, fun hR => ?_⟩
        · intro v hv
          rcases List.mem_cons.1 hv with rfl | hv
          · exact hy
          · exact hw v hv
        · have e := hR.he b _ hb
          simp only [conc] at e
          obtain ⟨fr, hg, _⟩ := hR.hm _ _ hbk
          have hr := run_get (H.T _ _ hT) hg (off := off) hc
          simp only [List.mapM_cons, Sem.run_bind, run_resCell e, Sem.run_pure, Result.andThen_ok, hr]
          rw [hrun hR]
          rfl
      · cases h
    · cases h

theorem results_eq {fn : Func} {tmps : Array Value} {vs : List Value} {w : World} (h : (fn.results.toList.mapM (resSem tmps)).run P w = .ok vs w) : (results fn tmps).run P w = .ok (single vs) w := by
  have e : results fn tmps = (do let vs ← fn.results.mapM (resSem tmps); pure (if h : vs.size = 1 then vs[0] else .tuple vs)) := by
    unfold results
    congr 1
  rw [e, Sem.run_bind, Array.mapM_eq_mapM_toList]
  simp only [Sem.run_map, h, Result.andThen_ok, Sem.run_pure]
  congr 1
  match vs with
  | [] => rfl
  | [x] => rfl
  | _ :: _ :: _ => simp [single]

theorem lk_args0 : ∀ (l : List AV) (i t : Nat), lk t (args0 i l) = if i ≤ t then l[t - i]? else none
  | [], i, t => by simp [args0, lk_nil]
  | a :: l, i, t => by
    rw [args0, lk_cons, lk_args0 l (i + 1) t]
    by_cases h : t = i
    · subst h; simp
    · simp only [h, if_false]
      by_cases h2 : i ≤ t
      · have h3 : i + 1 ≤ t := by omega
        have h4 : t - i = (t - (i + 1)) + 1 := by omega
        simp [h2, h3, h4]
      · have h3 : ¬ i + 1 ≤ t := by omega
        simp [h2, h3]

/-- What a function's arguments and the memory that it is handed must be. -/
structure ArgsOk (args : List AV) (mem : List (Nat × Bk)) (nx : Nat) : Prop where
  wf : ∀ a ∈ args, a.wf
  mw : MW fun l => lk l mem
  lb : ∀ a ∈ args, ∀ l ∈ lab a, l < nx
  mb : ∀ l bk, lk l mem = some bk → l < nx
  own : ∀ l bk, lk l mem = some bk → bk.own = false

theorem getD_args {args : List Value} {n t : Nat} {v : Value} (h : args[t]? = some v) : (args.toArray ++ Array.replicate n undef).getD t undef = v := by
  have hlt : t < args.length := (List.getElem?_eq_some_iff.1 h).1
  simp only [Array.getD_eq_getD_getElem?, Array.getElem?_append, List.size_toArray, hlt, if_true, List.getElem?_toArray, h, Option.getD_some]

/-- A FUNCTION: what its evaluation comes to is what a call returns. -/
theorem func_run (H : CfgOk P cfg) (hmix : P.follows .mixedOrders = true) {R : Type} {r : R} {N : Nat} {f : FuncId} {fn : Func} (hf : P.funcs[f]? = some fn) {args : List AV} {mem : List (Nat × Bk)} {nx : Nat} {k : Value → Option R}
    (hk : evFunc cfg N fn args mem nx k = some r) (hA : ArgsOk args mem nx) (hlen : args.length ≤ fn.ntmps) (HL : ∀ body, fn.body = some body → ∀ b ∈ loopsOf body, ∀ lc, lkL (firstReg b) cfg.lp = some lc → LCOk cfg N b lc) (ρ : Nat → Nat) (w : World) (hWI : WI w) (hm : ∀ l bk, lk l mem = some bk → ∃ fr, w.heap[ρ l]? = some (.cells ⟨bk.b.cells⟩ bk.ty fr)) :
    Calls P f (args.map (conc ρ)).toArray w fun e w' => ∃ v, k v = some r ∧ wf2 v ∧ e = .returned v ∧ Below w.heap.size w w' := by
  unfold evFunc at hk
  split at hk
  · cases hk
  · rename_i body hb
    have hI : Inv { n := fn.ntmps, env := args0 0 args, mem := mem, nx := nx, mv := [] } := by
      refine ⟨fun t av (hav : lk t (args0 0 args) = some av) => ?_, hA.mw, fun t av (hav : lk t (args0 0 args) = some av) l hl => ?_, hA.mb, by simp⟩
      · rw [lk_args0] at hav
        simp only [Nat.zero_le, if_true, Nat.sub_zero] at hav
        exact hA.wf av (List.mem_of_getElem? hav)
      · rw [lk_args0] at hav
        simp only [Nat.zero_le, if_true, Nat.sub_zero] at hav
        exact hA.lb av (List.mem_of_getElem? hav) l hl
    have hR : SRel w ρ { n := fn.ntmps, env := args0 0 args, mem := mem, nx := nx, mv := [] } { tmps := (args.map (conc ρ)).toArray ++ Array.replicate (fn.ntmps - (args.map (conc ρ)).toArray.size) undef, defers := [] } w := by
      refine ⟨by simp; omega, rfl, fun t av (hav : lk t (args0 0 args) = some av) => ?_, fun l bk (hl : lk l mem = some bk) => ?_, fun l bk l' bk' (hl : lk l mem = some bk) _ ho _ => ?_, Below.refl _ _, hWI⟩
      · rw [lk_args0] at hav
        simp only [Nat.zero_le, if_true, Nat.sub_zero] at hav
        exact getD_args (by simp [hav])
      · obtain ⟨fr, hg⟩ := hm l bk hl
        exact ⟨fr, hg, fun ho => by rw [hA.own l bk hl] at ho; cases ho⟩
      · rw [hA.own l bk hl] at ho; cases ho
    refine calls_of_wp hf hb (wp_mono (code_ok H hmix N body (HL body hb) R r _ _ hk hI w ρ _ w hR) ?_)
    rintro e a' w' ⟨e', st, ρ', rfl, hk', hI', hR'⟩
    have fin : evRes cfg st (fun l => k (single l)) fn.results.toList = some r → a'.defers = [] ∧ ∃ v, (results fn a'.tmps).run P w' = .ok v w' ∧ ∃ v', k v' = some r ∧ wf2 v' ∧ Ending.returned v = .returned v' ∧ Below w.heap.size w w' := by
      intro h
      obtain ⟨vs, hv, hw, hrun⟩ := res_some H hI' h
      refine ⟨hR'.df, single vs, results_eq (hrun hR'), single vs, hv, ?_, rfl, hR'.hb⟩
      match vs, hw with
      | [], _ => intro v hv; simp at hv
      | [x], hw => exact wf2_of_wf1 (hw x (by simp))
      | x :: y :: l, hw => exact fun v hv => hw v (by simpa [single] using hv)
    cases e' with
    | normal => exact fin hk'
    | exit id => cases hk'
    | ret => exact fin hk'

/-- A world in which a memory lies. -/
theorem some_world (mem : List (Nat × Bk)) (nx : Nat) (hb : ∀ l bk, lk l mem = some bk → l < nx) : ∃ w : World, WI w ∧ ∀ l bk, lk l mem = some bk → ∃ fr, w.heap[l + 1]? = some (.cells ⟨bk.b.cells⟩ bk.ty fr) := by
  refine ⟨{ (default : World) with heap := (Obj.cells (Lib.deBruijn64tab.map fun n => Value.int .u8 (n : Nat)).toArray 0 :: (List.range nx).map fun l => match lk l mem with | some bk => Obj.cells ⟨bk.b.cells⟩ bk.ty | none => .cells #[] 0).toArray }, fun j hj => ?_, fun l bk hl => ⟨(0, 0), ?_⟩⟩
  · have hl : j < Lib.deBruijn64tab.length := hj
    simp [World.cell?, hl]
  · have := hb l bk hl
    simp [this, hl]

theorem calls_told {f : FuncId} {args : Array Value} {w : World} {R : Ending → World → Prop} (h : Calls P f args w R) : ∃ e w', R e w' := by
  obtain ⟨e, w', _, hR, _⟩ := h []
  exact ⟨e, w', hR⟩

/-- THE CONTRACT of a function whose evaluation is known: 'dec' reads the result, 'enc' spells it. -/
theorem func_ok (H : CfgOk P cfg) (hmix : P.follows .mixedOrders = true) {R : Type} {r : R} {N : Nat} {f : FuncId} {fn : Func} (hf : P.funcs[f]? = some fn) {args : List AV} {mem : List (Nat × Bk)} {nx : Nat} {dec : Value → Option R} {enc : R → Value}
    (hdec : ∀ v r, dec v = some r → v = enc r) (hk : evFunc cfg N fn args mem nx dec = some r) (hA : ArgsOk args mem nx) (hlen : args.length ≤ fn.ntmps) (HL : ∀ body, fn.body = some body → ∀ b ∈ loopsOf body, ∀ lc, lkL (firstReg b) cfg.lp = some lc → LCOk cfg N b lc) :
    wf2 (enc r) ∧ ∀ ρ w, WI w → (∀ l bk, lk l mem = some bk → ∃ fr, w.heap[ρ l]? = some (.cells ⟨bk.b.cells⟩ bk.ty fr)) →
      Calls P f (args.map (conc ρ)).toArray w fun e w' => e = .returned (enc r) ∧ Below w.heap.size w w' := by
  constructor
  · obtain ⟨w, hWI, hw⟩ := some_world mem nx hA.mb
    obtain ⟨e, w', v, h1, h2, _⟩ := calls_told (func_run H hmix hf hk hA hlen HL (· + 1) w hWI hw)
    rw [← hdec v r h1]
    exact h2
  · intro ρ w hWI hm
    refine Calls.mono (func_run H hmix hf hk hA hlen HL ρ w hWI hm) ?_
    rintro e w' ⟨v, h1, _, rfl, hb⟩
    rw [hdec v r h1]
    exact ⟨rfl, hb⟩

#print axioms func_ok

end
end Go.Proofs.YtnfbcofieobkkaaGreatDoor.Ev
