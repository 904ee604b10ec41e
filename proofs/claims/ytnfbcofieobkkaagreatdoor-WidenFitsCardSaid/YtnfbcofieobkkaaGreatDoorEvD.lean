/- The evaluator is sound, fourth part: the evaluation of an operation tells its effect. -/
import Derived.Test.YtnfbcofieobkkaaGreatDoorEvC
namespace Go.Proofs.YtnfbcofieobkkaaGreatDoor.Ev
open Go Go.RowKit
set_option linter.unusedVariables false
set_option linter.unusedSimpArgs false

section
variable {P : Program} {cfg : Cfg} {get : Nat → Option AV} {mem : Nat → Option Bk} {R : Type} {r : R}

def GW (get : Nat → Option AV) : Prop := ∀ t av, get t = some av → av.wf
def MW (mem : Nat → Option Bk) : Prop := ∀ l bk, mem l = some bk → ∀ c ∈ bk.b.cells, wf0 c

theorem ev_move {o : Oper} {x : Operand} (ho : o.op = .move x ∨ o.op = .assign x) {k : Eff → Option R} (h : (getO get x fun a => k (.val [] a)) = some r) (hg : GW get) : ∃ e, k e = some r ∧ Told P get mem o e := by
  obtain ⟨av, ha, h⟩ := getO_some h
  have hx : x ∈ o.op.operands.toList := by rcases ho with ho | ho <;> simp [ho, Op.operands]
  refine ⟨_, h, told_av (opd_wf hg ha) (by simpa using opd_lab hx ha) fun ρ a w hA _ => ?_⟩
  rcases ho with ho | ho <;> simp [execOp, ho, hA.eval hx ha]

theorem ev_pick {o : Oper} {c a b : Operand} (ho : o.op = .pick c a b) {k : Eff → Option R} (h : evOp cfg get mem o k = some r) (hg : GW get) : ∃ e, k e = some r ∧ Told P get mem o e := by
  simp only [evOp, ho] at h
  obtain ⟨av, hc, h⟩ := getO_some h
  split at h
  · rename_i t
    have hxc : c ∈ o.op.operands.toList := by simp [ho, Op.operands]
    cases t with
    | true =>
      simp only [cond_true] at h
      obtain ⟨av, ha, h⟩ := getO_some h
      have hx : a ∈ o.op.operands.toList := by simp [ho, Op.operands]
      refine ⟨_, h, told_av (opd_wf hg ha) (by simpa using opd_lab hx ha) fun ρ a w hA _ => ?_⟩
      simp [execOp, ho, hA.eval hx ha, hA.eval hxc hc, conc, asBool]
    | false =>
      simp only [cond_false] at h
      obtain ⟨av, ha, h⟩ := getO_some h
      have hx : b ∈ o.op.operands.toList := by simp [ho, Op.operands]
      refine ⟨_, h, told_av (opd_wf hg ha) (by simpa using opd_lab hx ha) fun ρ a w hA _ => ?_⟩
      simp [execOp, ho, hA.eval hx ha, hA.eval hxc hc, conc, asBool]
  · cases h

theorem ev_alloc (H : CfgOk P cfg) {o : Oper} {T : TypeId} (ho : o.op = .alloc T) {k : Eff → Option R} (h : evOp cfg get mem o k = some r) : ∃ e, k e = some r ∧ Told P get mem o e := by
  simp only [evOp, ho] at h
  split at h
  · rename_i ti hT
    have hok := H.T _ _ hT
    refine ⟨_, h, told_nw (by rw [Blk.of_cells]; exact hok.zw) (by omega) fun ρ a w _ => ?_⟩
    have hz : (bif ti.agg then Value.agg ⟨ti.zero⟩ else ti.zero.headD undef).cells = ⟨ti.zero⟩ := by
      cases ha : ti.agg with
      | true => rfl
      | false =>
        have h1 := hok.z1 ha
        have h2 := hok.zl
        have h3 := hok.zw
        match hz : ti.zero with
        | [] => simp [hz] at h2; omega
        | [c] =>
          have := h3 c (by simp [hz])
          cases c <;> first | rfl | exact this.elim
        | _ :: _ :: _ => simp [hz] at h2; omega
    simp only [List.headD_eq_head?_getD] at hz
    simp [execOp, ho, Instr.alloc, hok.zeroV, newVar, newRow, hz, Blk.of_cells]
  · cases h

theorem ev_box {o : Oper} {T : TypeId} {x : Operand} (ho : o.op = .box T x) {k : Eff → Option R} (h : evOp cfg get mem o k = some r) (hg : GW get) : ∃ e, k e = some r ∧ Told P get mem o e := by
  simp only [evOp, ho] at h
  obtain ⟨av, hx, h⟩ := getO_some h
  split at h
  · rename_i y
    obtain ⟨h1, h⟩ := bif_some h
    have hm : x ∈ o.op.operands.toList := by simp [ho, Op.operands]
    have hw := cellsV_wf (opd_wf hg hx) h1
    refine ⟨_, h, told_nw (by rw [Blk.of_cells]; exact hw) (by omega) fun ρ a w hA => ?_⟩
    have e : y.cells = ⟨cellsV y⟩ := by rw [← cellsV_eq]
    simp [execOp, ho, Instr.box, hA.eval hm hx, conc, newVar, newRow, e, Blk.of_cells]
  · cases h

theorem zip_vals {ps : List (Nat × Operand)} {avs : List AV} (hl : avs.length = ps.length) {xs : List Value} (hx : ((ps.map (·.1)).zip avs).map (·.2) = xs.map AV.v) : avs = xs.map AV.v := by
  have e1 : ((ps.map (·.1)).zip avs).map (·.2) = avs := by
    rw [← List.unzip_snd, List.unzip_zip (by simp [hl])]
  rw [e1] at hx
  exact hx

theorem zip_evals {ρ : Nat → Nat} {a : Act} {o : Oper} (hA : Agr get ρ a o) : ∀ {ps : List (Nat × Operand)} {xs : List Value}, (∀ p ∈ ps, p.2 ∈ o.op.operands.toList) → (∀ p ∈ (ps.map (·.2)).zip (xs.map AV.v), Opd get p.1 p.2) →
    xs.length = ps.length → ps.map (fun p => (p.1, a.eval p.2)) = (((ps.map (·.1)).zip (xs.map AV.v)).map (·.1)).zip xs
  | [], xs, _, _, _ => by simp
  | p :: ps, [], _, _, hl => by simp at hl
  | p :: ps, x :: xs, hp, hz, hl => by
    have ih := zip_evals hA (ps := ps) (xs := xs) (fun p hp' => hp p (by simp [hp'])) (fun q hq => hz q (by simp [hq])) (by simpa using hl)
    have e := hA.eval (hp p (by simp)) (hz (p.2, .v x) (by simp))
    simp only [conc] at e
    simp only [List.map_cons, List.zip_cons_cons, ih, e]

theorem wf_of_opds {xs : List Value} {os : List Operand} (hg : GW get) (hl : xs.length = os.length) (hz : ∀ p ∈ os.zip (xs.map AV.v), Opd get p.1 p.2) : ∀ x ∈ xs, wf2 x := by
  intro x hx
  obtain ⟨i, hi, rfl⟩ := List.mem_iff_getElem.1 hx
  have h1 : i < os.length := by omega
  have : (os[i], AV.v xs[i]) ∈ os.zip (xs.map AV.v) := by
    rw [List.mem_iff_getElem]
    exact ⟨i, by simp; omega, by simp⟩
  exact opd_wf hg (hz _ this)

theorem wf_parts {xs zero out : List Value} (hz : ∀ c ∈ zero, wf0 c) (hx : ∀ x ∈ xs, wf2 x) (h : ∀ c ∈ out, c ∈ zero ∨ ∃ x ∈ xs, c ∈ cellsV x ∧ (cellsV x).all oneB = true) : ∀ c ∈ out, wf0 c := by
  intro c hc
  rcases h c hc with h | ⟨x, hx', hc, h1⟩
  · exact hz c h
  · exact cellsV_wf (hx x hx') h1 c hc

theorem fill_congr {p q : Nat → Option (Nat × Nat)} (h : ∀ i, p i = q i) : ∀ (cs : Array Value) (l : List (Nat × Value)), Instr.fill p cs l = Instr.fill q cs l := by
  have : p = q := funext h
  subst this
  intros; rfl

theorem TIok.zcells {T : TypeId} {ti : TI} (hok : TIok P T ti) (ha : ti.agg = true) (w : World) : (zeroValue T).run P w = .ok (.agg ⟨ti.zero⟩) w := by rw [hok.zeroV, ha]; rfl

theorem sizeT_some (H : CfgOk P cfg) {t : TypeId} {s : Nat} (h : sizeT cfg t = some s) : ∃ ti, lk t cfg.T = some ti ∧ ti.size = s ∧ ∀ w, (sizeOf t).run P w = .ok s w := by
  unfold sizeT at h
  split at h
  · rename_i ti hT
    simp only [Option.some.injEq] at h
    subst h
    exact ⟨ti, hT, rfl, (H.T _ _ hT).size⟩
  · cases h

theorem map_toList_build {ps : Array (Nat × Operand)} {f : Operand → Value} : (ps.map fun p => (p.1, f p.2)).toList = ps.toList.map fun p => (p.1, f p.2) := by simp

theorem run_mapM {w : World} : ∀ {flds : List Field}, (∀ f ∈ flds, ∃ s, ∀ w, (sizeOf f.type).run P w = .ok s w) →
    ∃ out : List (Nat × Nat), (flds.mapM (fun f : Field => (do pure (f.offset, ← sizeOf f.type) : Sem (Nat × Nat)))).run P w = .ok out w ∧
      ∀ i : Nat, out[i]? = (flds[i]?).bind fun f => match (sizeOf f.type).run P w with | .ok s _ => some (f.offset, s) | _ => none
  | [], _ => ⟨[], by simp, by simp⟩
  | f :: fs, h => by
    obtain ⟨s, hs⟩ := h f (by simp)
    obtain ⟨out, h1, h2⟩ := run_mapM (w := w) (flds := fs) (fun f hf => h f (by simp [hf]))
    refine ⟨(f.offset, s) :: out, ?_, ?_⟩
    · simp only [List.mapM_cons, Sem.run_bind, hs, Result.andThen_ok, Sem.run_pure] at h1 ⊢
      rw [h1]
      rfl
    · intro i
      cases i with
      | zero => simp [hs]
      | succ i => simpa using h2 i

theorem ev_build (H : CfgOk P cfg) {o : Oper} {T : TypeId} {ps : Array (Nat × Operand)} (ho : o.op = .build T ps) {k : Eff → Option R} (h : evOp cfg get mem o k = some r) (hg : GW get) : ∃ e, k e = some r ∧ Told P get mem o e := by
  simp only [evOp, ho] at h
  have hm : ∀ p ∈ ps.toList, p.2 ∈ o.op.operands.toList := by
    intro p hp
    simp only [ho, Op.operands, List.mem_map]
    exact ⟨p, hp, rfl⟩
  split at h
  · rename_i fs size bytes zero hT
    have hok := H.T _ _ hT
    obtain ⟨avs, hl, hz, h⟩ := getOs_some h
    split at h
    · rename_i cs hcs
      obtain ⟨xs, e1, e2, e3, e4⟩ := fill_parts _ _ _ hcs
      have hle : avs.length = ps.toList.length := by simpa using hl
      have hx := zip_vals hle e1
      subst hx
      have hxl : xs.length = ps.toList.length := by simpa using hle
      have hw := wf_parts hok.zw (wf_of_opds hg (by simpa using hxl) hz) e4
      refine ⟨_, h, told_v (x := .agg ⟨cs⟩) hw fun ρ a w hA => ?_⟩
      have e5 := zip_evals hA hm hz hxl
      obtain ⟨flds, hu, hf, hi⟩ := hok.und
      have hsz : ∀ f ∈ flds.toList, ∃ s, ∀ w, (sizeOf f.type).run P w = .ok s w := by
        intro f hf
        have := hi f hf
        cases hq : P.info? f.type with
        | none => simp [hq] at this
        | some inf => exact ⟨inf.size, fun w => by simp [sizeOf, typeInfo, hq]⟩
      obtain ⟨out, ho1, ho2⟩ := run_mapM (w := w) hsz
      have hfill : Instr.fill (fun i : Nat => out[i]?) ⟨zero⟩ (ps.toList.map fun p => (p.1, a.eval p.2)) = some ⟨cs⟩ := by
        rw [e5]
        have key : ∀ (l : List (Nat × Value)) (c d : Array Value), Instr.fill (fun i => match nthL i fs with | some (off, t) => (match sizeT cfg t with | some s => some (off, s) | none => none) | none => none) c l = some d → Instr.fill (fun i : Nat => out[i]?) c l = some d := by
          intro l
          induction l with
          | nil => intro c d h; simpa [Instr.fill] using h
          | cons p l ih =>
            intro c d h
            obtain ⟨i, v⟩ := p
            simp only [Instr.fill] at h ⊢
            cases hn : nthL i fs with
            | none => simp [hn] at h
            | some q =>
              obtain ⟨off, t⟩ := q
              simp only [hn] at h
              cases hs : sizeT cfg t with
              | none => simp [hs] at h
              | some s =>
                simp only [hs] at h
                obtain ⟨ti, _, _, hrun⟩ := sizeT_some H hs
                have e : out[i]? = some (off, s) := by
                  rw [ho2]
                  rw [nthL_eq, ← hf, List.getElem?_map] at hn
                  cases hfi : flds.toList[i]? with
                  | none => simp [hfi] at hn
                  | some f =>
                    simp only [hfi, Option.map_some, Option.some.injEq, Prod.mk.injEq] at hn
                    obtain ⟨rfl, rfl⟩ := hn
                    simp [hrun w]
                rw [e]
                split at h
                · cases h
                · rename_i hc
                  simp only [hc]
                  exact ih _ _ h
        exact key _ _ _ e2
      have hmm : (flds.mapM (fun f : Field => (do pure (f.offset, ← sizeOf f.type) : Sem (Nat × Nat)))).run P w = .ok ⟨out⟩ w := by
        rw [Array.mapM_eq_mapM_toList]
        simp only [Sem.run_map, ho1]
        rfl
      have hzc := hok.zcells rfl w
      simp only [execOp, ho, Instr.build, Sem.run_bind, hzc, Result.andThen_ok, run_underlying hu, hmm, Value.cells]
      have hgx : (fun i => (⟨out⟩ : Array (Nat × Nat))[i]?) = fun i : Nat => out[i]? := by funext i; simp
      simp only [hgx, Array.toList_map, hfill, Sem.run_pure, conc, Result.andThen_ok]
    · cases h
  · rename_i n e size bytes zero hT
    have hok := H.T _ _ hT
    split at h
    · rename_i s hs
      obtain ⟨ti, _, _, hrun⟩ := sizeT_some H hs
      obtain ⟨avs, hl, hz, h⟩ := getOs_some h
      split at h
      · rename_i cs hcs
        obtain ⟨xs, e1, e2, e3, e4⟩ := fill_parts _ _ _ hcs
        have hle : avs.length = ps.toList.length := by simpa using hl
        have hx := zip_vals hle e1
        subst hx
        have hxl : xs.length = ps.toList.length := by simpa using hle
        have hw := wf_parts hok.zw (wf_of_opds hg (by simpa using hxl) hz) e4
        refine ⟨_, h, told_v (x := .agg ⟨cs⟩) hw fun ρ a w hA => ?_⟩
        have e5 := zip_evals hA hm hz hxl
        have hu := hok.und
        simp only at hu
        have hzc := hok.zcells rfl w
        rw [← e5] at e2
        simp only [execOp, ho, Instr.build, Sem.run_bind, hzc, Result.andThen_ok, run_underlying hu, hrun, Value.cells, Array.toList_map, e2, Sem.run_pure]
      · cases h
    · cases h
  · cases h

end
end Go.Proofs.YtnfbcofieobkkaaGreatDoor.Ev
