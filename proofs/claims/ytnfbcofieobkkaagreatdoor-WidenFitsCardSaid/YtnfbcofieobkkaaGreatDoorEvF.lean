/- The evaluator is sound, sixth part: indexes, slices, calls; and all operations together. -/
import Derived.Test.YtnfbcofieobkkaaGreatDoorEvE
namespace Go.Proofs.YtnfbcofieobkkaaGreatDoor.Ev
open Go Go.RowKit
set_option linter.unusedVariables false
set_option linter.unusedSimpArgs false

section
variable {P : Program} {cfg : Cfg} {get : Nat → Option AV} {mem : Nat → Option Bk} {R : Type} {r : R}

theorem in_range {j : Int} {n : Nat} (h : (decide (0 ≤ j) && decide (j < (n : Int))) = true) : 0 ≤ j ∧ j < (n : Int) := by simpa using h

theorem offs_eq (o j s : Nat) : offs o j s = o + j * s := by
  unfold offs
  by_cases h : o = 0 ∧ s = 1
  · obtain ⟨rfl, rfl⟩ := h
    simp
  · have : (Nat.beq o 0 && Nat.beq s 1) = false := by
      cases e : (Nat.beq o 0 && Nat.beq s 1)
      · rfl
      · simp only [Bool.and_eq_true, nbeq, decide_eq_true_eq] at e
        exact absurd e h
    simp [this]

theorem ev_indexAddr (H : CfgOk P cfg) {o : Oper} {T : TypeId} {x i : Operand} (ho : o.op = .indexAddr T x i) {k : Eff → Option R} (h : evOp cfg get mem o k = some r) : ∃ e, k e = some r ∧ Told P get mem o e := by
  simp only [evOp, ho] at h
  have hm : x ∈ o.op.operands.toList := by simp [ho, Op.operands]
  have hmi : i ∈ o.op.operands.toList := by simp [ho, Op.operands]
  split at h
  · rename_i n e _ _ _ hT
    have hu := (H.T _ _ hT).und
    simp only at hu
    split at h
    · rename_i s hs
      obtain ⟨ti, _, _, hrun⟩ := sizeT_some H hs
      obtain ⟨av, hx, h⟩ := getO_some h
      split at h
      · rename_i l o'
        obtain ⟨av2, hi, h⟩ := getO_some h
        split at h
        · rename_i kj j
          obtain ⟨h1, h⟩ := bif_some h
          obtain ⟨h2, h3⟩ := in_range h1
          refine ⟨_, h, told_av (av := .p l (offs o' j.toNat s)) trivial ?_ fun ρ act w hA _ => ?_⟩
          · have := opd_lab hm hx
            simpa [lab] using this
          · have ex := hA.eval hm hx
            have ei := hA.eval hmi hi
            simp only [conc] at ex ei
            simp [execOp, ho, ex, ei, Instr.indexAt, run_underlying hu, Instr.sureAddr, asIntOf, h2, h3, hrun, addr_add, conc, offs_eq]
        · cases h
      · cases h
    · cases h
  · rename_i e _ _ _ hT
    have hu := (H.T _ _ hT).und
    simp only at hu
    split at h
    · rename_i s hs
      obtain ⟨ti, _, _, hrun⟩ := sizeT_some H hs
      obtain ⟨av, hx, h⟩ := getO_some h
      split at h
      · rename_i l o' n c
        obtain ⟨av2, hi, h⟩ := getO_some h
        split at h
        · rename_i kj j
          obtain ⟨h1, h⟩ := bif_some h
          obtain ⟨h2, h3⟩ := in_range h1
          refine ⟨_, h, told_av (av := .p l (offs o' j.toNat s)) trivial ?_ fun ρ act w hA _ => ?_⟩
          · have := opd_lab hm hx
            simpa [lab] using this
          · have ex := hA.eval hm hx
            have ei := hA.eval hmi hi
            simp only [conc] at ex ei
            simp [execOp, ho, ex, ei, Instr.indexAt, run_underlying hu, asIntOf, h2, h3, hrun, addr_add, conc, offs_eq]
        · cases h
      · cases h
    · cases h
  · cases h

theorem str_at (s : ByteArray) (i : Nat) (h : i < s.size) : s[i]? = some (s.toList.getD i 0) := by
  rw [ByteArray.toList_eq]
  have h2 : i < s.data.toList.length := by rw [Array.length_toList]; exact h
  simp only [List.getD, List.getElem?_eq_getElem h2, Option.getD_some]
  rw [getElem?_pos s i h]
  rfl

theorem chainV_some {f : Nat → Option R} {j : Nat} : ∀ {n e : Nat}, chainV f j e n = some r → f j = some r
  | 0, e, h => by cases h
  | n + 1, e, h => by
    simp only [chainV, nbeq] at h
    by_cases hj : j = e
    · subst hj; simpa using h
    · simp only [hj, decide_false, cond_false] at h
      exact chainV_some h

theorem getV_eq {k : Value → Option R} : ∀ (cs : List Value) (i : Nat) (v : Value), cs[i]? = some v → getV i k cs = k v
  | [], i, v, h => by simp at h
  | c :: cs, 0, v, h => by simp at h; subst h; rfl
  | c :: cs, i + 1, v, h => by
    simp only [getV]
    exact getV_eq cs i v (by simpa using h)

theorem pick_part {ti : TI} {cs : List Value} {j n : Nat} {k : Value → Option R} (h : pickV ti cs j n k = some r) : partV ti cs (j * ti.size) k = some r := by
  unfold pickV at h
  split at h
  · rename_i kk hk
    split at h
    · rename_i l hl
      obtain ⟨h1, h⟩ := bif_some h
      simp only [Bool.and_eq_true, nblt, nbeq, decide_eq_true_eq] at h1
      obtain ⟨hlt, hs⟩ := h1
      have ha : ti.agg = false := by unfold TI.agg; rw [hk]
      unfold partV
      rw [ha, hs, Nat.mul_one]
      simp only [cond_false]
      rw [getV_eq cs j (.int kk (getI j l)) ?_]
      · exact h
      · rw [toInts_some hl, getI_eq, List.getElem?_map, List.getElem?_eq_getElem hlt]
        simp [List.getD, hlt]
    · cases h
  · exact chainV_some h

theorem ev_index (H : CfgOk P cfg) {o : Oper} {T : TypeId} {x i : Operand} (ho : o.op = .index T x i) {k : Eff → Option R} (h : evOp cfg get mem o k = some r) (hg : GW get) : ∃ e, k e = some r ∧ Told P get mem o e := by
  simp only [evOp, ho] at h
  have hm : x ∈ o.op.operands.toList := by simp [ho, Op.operands]
  have hmi : i ∈ o.op.operands.toList := by simp [ho, Op.operands]
  split at h
  · rename_i _ _ _ hT
    have hu := (H.T _ _ hT).und
    simp only at hu
    obtain ⟨av, hx, h⟩ := getO_some h
    split at h
    · rename_i s
      obtain ⟨av2, hi, h⟩ := getO_some h
      split at h
      · rename_i kj j
        obtain ⟨h1, h⟩ := bif_some h
        obtain ⟨h2, h3⟩ := in_range h1
        refine ⟨_, h, told_v (wf2_of_wf0 ?_) fun ρ act w hA => ?_⟩
        · have := UInt8.toNat_lt (s.toList.getD j.toNat 0)
          generalize (s.toList.getD j.toNat 0).toNat = m at this
          simp only [wf0, IntKind.min, IntKind.max, IntKind.signed, IntKind.bits]
          simp
          omega
        · have ex := hA.eval hm hx
          have ei := hA.eval hmi hi
          simp only [conc] at ex ei
          have hlt : j.toNat < s.size := by omega
          have e := str_at s j.toNat hlt
          simp [execOp, ho, ex, ei, Instr.index, run_underlying hu, asIntOf, h2, e]
      · cases h
    · cases h
  · rename_i n e _ _ _ hT
    have hu := (H.T _ _ hT).und
    simp only at hu
    split at h
    · rename_i ti hTe
      obtain ⟨av, hx, h⟩ := getO_some h
      split at h
      · rename_i cs
        obtain ⟨av2, hi, h⟩ := getO_some h
        split at h
        · rename_i kj j
          obtain ⟨h1, h⟩ := bif_some h
          obtain ⟨h2, h3⟩ := in_range h1
          have hok := H.T _ _ hTe
          obtain ⟨y, h, hw, hrun⟩ := part_some (pick_part h) hok (opd_wf hg hx)
          refine ⟨_, h, told_v hw fun ρ act w hA => ?_⟩
          have ex := hA.eval hm hx
          have ei := hA.eval hmi hi
          simp only [conc] at ex ei
          have hr := hrun w
          simp only [Array.toArray_toList] at hr
          simp [execOp, ho, ex, ei, Instr.index, run_underlying hu, asIntOf, h2, h3, hok.size, hr]
        · cases h
      · cases h
    · cases h
  · cases h

theorem ev_makeSlice (H : CfgOk P cfg) {o : Oper} {T : TypeId} {x y : Operand} (ho : o.op = .makeSlice T x y) {k : Eff → Option R} (h : evOp cfg get mem o k = some r) : ∃ e, k e = some r ∧ Told P get mem o e := by
  simp only [evOp, ho] at h
  have hm : x ∈ o.op.operands.toList := by simp [ho, Op.operands]
  have hmy : y ∈ o.op.operands.toList := by simp [ho, Op.operands]
  split at h
  · rename_i e _ _ _ hT
    have hu := (H.T _ _ hT).und
    simp only at hu
    split at h
    · rename_i kk bytes kz hTe
      obtain ⟨hk0, h⟩ := bif_none h
      have hk : kz = kk := by simpa using hk0
      subst hk
      have hok := H.T _ _ hTe
      obtain ⟨av, hx, h⟩ := getO_some h
      split at h
      · rename_i k1 n
        obtain ⟨av2, hy, h⟩ := getO_some h
        split at h
        · rename_i k2 c
          obtain ⟨h1, h5⟩ := bif_some h
          clear h
          simp only [Bool.and_eq_true, decide_eq_true_eq] at h1
          obtain ⟨⟨⟨h0, h2⟩, h3⟩, h4⟩ := h1
          subst h0
          refine ⟨_, h5, told_nw ?_ (by omega) fun ρ act w hA => ?_⟩
          · intro c hc
            simp only [Blk.cells, List.map_replicate, List.mem_replicate] at hc
            rw [hc.2]
            cases kz <;> simp [wf0, IntKind.min, IntKind.max, IntKind.signed, IntKind.bits]
          · have ex := hA.eval hm hx
            have ey := hA.eval hmy hy
            simp only [conc] at ex ey
            obtain ⟨inf, hi1, hi2, hi3, hi4⟩ := hok.inf
            have hr := run_make (P := P) w T e inf _ hu hi1 hi4 k1 k2 n n h2 (Int.le_refl _) (by rw [hi3]; exact h3) h4
            have hcells : madeCells (Value.int kz 0).cells (n.toNat * 1) = ⟨(List.replicate n.toNat (0 : Int)).map (Value.int kz)⟩ := by
              apply Array.ext'
              simp [madeCells, Value.cells, Array.toList_range, List.map_const', Nat.mod_one]
            simp only [hi2] at hr
            simp only [execOp, ho, ex, ey]
            rw [Sem.run_bind, hr]
            simp only [Result.andThen_ok, Sem.run_pure, cond_true, Blk.cells]
            have hb : (bif TI.agg { k := .int kz, size := 1, bytes := bytes, zero := [.int kz 0] } then Value.agg ⟨[.int kz 0]⟩ else List.headD [Value.int kz 0] undef) = .int kz 0 := rfl
            rw [hb, hcells]
        · cases h
      · cases h
    · cases h
  · cases h

theorem ev_buildSlice (H : CfgOk P cfg) {o : Oper} {T : TypeId} {len : Nat} {ps : Array (Nat × Operand)} (ho : o.op = .buildSlice T len ps) {k : Eff → Option R} (h : evOp cfg get mem o k = some r) (hg : GW get) : ∃ e, k e = some r ∧ Told P get mem o e := by
  simp only [evOp, ho] at h
  have hm : ∀ p ∈ ps.toList, p.2 ∈ o.op.operands.toList := by
    intro p hp
    simp only [ho, Op.operands, List.mem_map]
    exact ⟨p, hp, rfl⟩
  split at h
  · rename_i e _ _ _ hT
    have hu := (H.T _ _ hT).und
    simp only at hu
    split at h
    · rename_i ti hTe
      have hok := H.T _ _ hTe
      obtain ⟨avs, hl, hz, h⟩ := getOs_some h
      split at h
      · rename_i cs hcs
        obtain ⟨h1, h⟩ := bif_some h
        simp only [nble, nblt, Bool.and_eq_true, decide_eq_true_eq] at h1
        obtain ⟨⟨h1, h0len⟩, hpos⟩ := h1
        have hlen : len ≤ 9223372036854775807 := h0len
        obtain ⟨xs, e1, e2, e3, e4⟩ := fill_parts _ _ _ hcs
        have hle : avs.length = ps.toList.length := by simpa using hl
        have hx := zip_vals hle e1
        subst hx
        have hxl : xs.length = ps.toList.length := by simpa using hle
        have hz0 : ∀ c ∈ (rng 0 (len * ti.size)).map (fun i => ti.zero.getD (i % ti.size) undef), wf0 c := by
          intro c hc
          obtain ⟨i, hi, rfl⟩ := List.mem_map.1 hc
          rw [rng_map] at hi
          simp only [Nat.zero_add, List.map_id'', List.mem_range, List.mem_map] at hi
          obtain ⟨i', hi, rfl⟩ := hi
          have hs : 0 < ti.size := by
            rcases Nat.eq_zero_or_pos ti.size with h0 | h0
            · rw [h0] at hi; simp at hi
            · exact h0
          have hlt : i' % ti.size < ti.zero.length := by rw [hok.zl]; exact Nat.mod_lt _ hs
          rw [List.getD_eq_getElem?_getD, List.getElem?_eq_getElem hlt]
          exact hok.zw _ (List.getElem_mem hlt)
        have hw := wf_parts hz0 (wf_of_opds hg (by simpa using hxl) hz) e4
        refine ⟨_, h, told_nw (by rw [Blk.of_cells]; exact hw) hlen fun ρ a w hA => ?_⟩
        have e5 := zip_evals hA hm hz hxl
        rw [← e5] at e2
        have hcells : ((Array.range (len * ti.size)).map fun i => (⟨ti.zero⟩ : Array Value)[i % (⟨ti.zero⟩ : Array Value).size]!) = ⟨(rng 0 (len * ti.size)).map fun i => ti.zero.getD (i % ti.size) undef⟩ := by
          apply Array.ext'
          simp only [Array.toList_map, Array.toList_range, rng_map, List.map_map]
          apply List.map_congr_left
          intro i hi
          have hs : 0 < ti.size := by
            rcases Nat.eq_zero_or_pos ti.size with h0 | h0
            · rw [h0] at hi; simp at hi
            · exact h0
          have hlt : i % ti.size < ti.zero.length := by rw [hok.zl]; exact Nat.mod_lt _ hs
          simp only [List.size_toArray, hok.zl, Function.comp, Nat.zero_add, List.getD_eq_getElem?_getD, List.getElem?_eq_getElem hlt, Option.getD_some]
          simp [hlt]
        have hbig : ¬ len * ti.size > 2 ^ 24 := by omega
        obtain ⟨zv, hz1, hz2⟩ : ∃ zv : Value, (∀ w, (zeroValue e).run P w = .ok zv w) ∧ zv.cells = ⟨ti.zero⟩ := by
          refine ⟨_, hok.zeroV, ?_⟩
          cases ha : ti.agg with
          | true => rfl
          | false =>
            have h1 := hok.z1 ha
            have h2 := hok.zl
            have h3 := hok.zw
            match hz : ti.zero with
            | [] => simp [hz] at h2; omega
            | [c] =>
              have := h3 c (by simp [hz])
              cases c <;> first | rfl | exact this.elim
            | _ :: _ :: _ => simp [hz] at h2; omega
        simp only [execOp, ho, Instr.buildSlice, Sem.run_bind, run_underlying hu, Result.andThen_ok, hok.size, if_neg hbig, Sem.run_pure, Array.toList_map]
        have h0 : ¬ len * ti.size = 0 := by omega
        simp only [h0, if_false, Sem.run_bind, hz1, Result.andThen_ok, Sem.run_pure, hz2, hcells, e2]
        simp [newRow, Blk.of_cells]
      · cases h
    · cases h
  · cases h

theorem ev_extract {o : Oper} {x : Operand} {i : Nat} (ho : o.op = .extract x i) {k : Eff → Option R} (h : evOp cfg get mem o k = some r) (hg : GW get) : ∃ e, k e = some r ∧ Told P get mem o e := by
  simp only [evOp, ho] at h
  have hm : x ∈ o.op.operands.toList := by simp [ho, Op.operands]
  obtain ⟨av, hx, h⟩ := getO_some h
  split at h
  · rename_i vs
    obtain ⟨y, hy, h⟩ := getV_some h
    have hw : wf2 (.tuple vs) := opd_wf hg hx
    refine ⟨_, h, told_v (wf2_of_wf1 (hw y (List.mem_of_getElem? hy))) fun ρ act w hA => ?_⟩
    have ex := hA.eval hm hx
    simp only [conc] at ex
    have hy' : vs[i]? = some y := by simpa using hy
    simp [execOp, ho, ex, Instr.extract, hy']
  · cases h

theorem map_evals {ρ : Nat → Nat} {a : Act} {o : Oper} (hA : Agr get ρ a o) : ∀ {os : List Operand} {avs : List AV}, (∀ x ∈ os, x ∈ o.op.operands.toList) → avs.length = os.length → (∀ p ∈ os.zip avs, Opd get p.1 p.2) → os.map a.eval = avs.map (conc ρ)
  | [], [], _, _, _ => rfl
  | [], _ :: _, _, hl, _ => by simp at hl
  | _ :: _, [], _, hl, _ => by simp at hl
  | x :: os, av :: avs, hm, hl, hz => by
    rw [List.map_cons, List.map_cons, hA.eval (hm x List.mem_cons_self) (hz (x, av) List.mem_cons_self), map_evals hA (fun y hy => hm y (List.mem_cons_of_mem _ hy)) (by simpa using hl) (fun p hp => hz p (List.mem_cons_of_mem _ hp))]

theorem opds_wf (hg : GW get) : ∀ {os : List Operand} {avs : List AV}, avs.length = os.length → (∀ p ∈ os.zip avs, Opd get p.1 p.2) → ∀ a ∈ avs, a.wf
  | [], [], _, _, a, ha => by simp at ha
  | [], _ :: _, hl, _, _, _ => by simp at hl
  | _ :: _, [], hl, _, _, _ => by simp at hl
  | x :: os, av :: avs, hl, hz, a, ha => by
    rcases List.mem_cons.1 ha with rfl | ha
    · exact opd_wf hg (hz (x, a) List.mem_cons_self)
    · exact opds_wf hg (by simpa using hl) (fun p hp => hz p (List.mem_cons_of_mem _ hp)) a ha

theorem opds_lab {o : Oper} : ∀ {os : List Operand} {avs : List AV}, (∀ x ∈ os, x ∈ o.op.operands.toList) → avs.length = os.length → (∀ p ∈ os.zip avs, Opd get p.1 p.2) → ∀ a ∈ avs, ∀ l ∈ lab a, ∃ t ∈ tmpsOf o, ∃ av, get t = some av ∧ l ∈ lab av
  | [], [], _, _, _, a, ha => by simp at ha
  | [], _ :: _, _, hl, _, _, _ => by simp at hl
  | _ :: _, [], _, hl, _, _, _ => by simp at hl
  | x :: os, av :: avs, hm, hl, hz, a, ha => by
    rcases List.mem_cons.1 ha with rfl | ha
    · exact opd_lab (hm x List.mem_cons_self) (hz (x, a) List.mem_cons_self)
    · exact opds_lab (fun y hy => hm y (List.mem_cons_of_mem _ hy)) (by simpa using hl) (fun p hp => hz p (List.mem_cons_of_mem _ hp)) a ha

theorem ev_call (H : CfgOk P cfg) {o : Oper} {c : Call} {f : Operand} (ho : o.op = .call c) (hc : c.callee = .value f) {k : Eff → Option R} (h : evOp cfg get mem o k = some r) (hg : GW get) (hM : MW mem) : ∃ e, k e = some r ∧ Told P get mem o e := by
  simp only [evOp, ho, hc] at h
  have hmf : f ∈ o.op.operands.toList := by simp [ho, Op.operands, Call.operands, hc]
  have hma : ∀ x ∈ c.args.toList, x ∈ o.op.operands.toList := by
    intro x hx
    simp only [ho, Op.operands, Call.operands, hc, Array.toList_append]
    exact List.mem_append_right _ hx
  obtain ⟨av, hf, h⟩ := getO_some h
  split at h
  · rename_i g first cap
    split at h
    · rename_i ct hfirst hcap hct
      have hcok := H.C _ _ hct
      obtain ⟨avs, hl, hz, h⟩ := getOs_some h
      obtain ⟨v, h, hw, hcall⟩ := hcok.calls _ _ _ _ _ h (opds_wf hg hl hz) hM
      have e1 : first = #[] := by rw [← Array.toArray_toList (xs := first), hfirst]
      have e2 : cap = #[] := by rw [← Array.toArray_toList (xs := cap), hcap]
      subst e1 e2
      refine ⟨_, h, ⟨fun ρ a w hWI hA hMa K Q hK => ?_, hw, ?_⟩⟩
      · have ef := hA.eval hmf hf
        simp only [conc] at ef
        have ea := map_evals hA hma hl hz
        have ea' : c.args.map a.eval = (avs.map (conc ρ)).toArray := by rw [← ea]; apply Array.ext'; simp
        have hrun : (execOp a.eval o).run P w = .ok (.enter g (avs.map (conc ρ)).toArray) w := by
          simp only [execOp, ho, resolve, hc, ef, Deferred.ofValue, Sem.run_bind, Sem.run_pure, Result.andThen_ok, invoke, ea']
          simp [hcok.enter]
        unfold Oper.wp
        rw [hrun]
        show Calls P g _ w _
        refine Calls.mono (hcall ρ w hWI fun x hx l hl' => hMa l ?_) ?_
        · exact List.mem_flatMap.2 ⟨x, hx, hl'⟩
        · rintro e w' ⟨rfl, hb⟩
          exact hK w' hb
      · intro l hl'
        simp only [Eff.acc, eLab, lab, List.append_nil, List.mem_flatMap] at hl'
        obtain ⟨x, hx, hl'⟩ := hl'
        exact opds_lab hma hl hz x hx l hl'
    · cases h
  · cases h

theorem asIntPair {a b : Value} : True := trivial

theorem ev_len (H : CfgOk P cfg) {o : Oper} {c : Call} (ho : o.op = .call c) (hc : c.callee = .builtin .len) {k : Eff → Option R} (h : evOp cfg get mem o k = some r) (hg : GW get) : ∃ e, k e = some r ∧ Told P get mem o e := by
  simp only [evOp, ho, hc] at h
  have hma : ∀ x ∈ c.args.toList, x ∈ o.op.operands.toList := by
    intro x hx
    simp only [ho, Op.operands, Call.operands, hc, Array.toList_append]
    exact List.mem_append_right _ hx
  split at h
  · rename_i t ts x xs ht hx
    have hat : c.argTypes[0]? = some t := by rw [← Array.getElem?_toList, ht]; rfl
    have hax : ∀ f : Operand → Value, (c.args.map f)[0]? = some (f x) := by
      intro f
      rw [← Array.getElem?_toList, Array.toList_map, hx]
      rfl
    have hm : x ∈ o.op.operands.toList := hma x (by rw [hx]; exact List.mem_cons_self)
    split at h
    · rename_i _ _ _ hT
      have hu := (H.T _ _ hT).und
      simp only at hu
      obtain ⟨av, hx', h⟩ := getO_some h
      split at h
      · rename_i s
        refine ⟨_, h, told_v (wf2_of_wf0 ?_) fun ρ act w hA => ?_⟩
        · have : s.size ≤ 9223372036854775807 := opd_wf hg hx'
          simp only [wf0, IntKind.min, IntKind.max, IntKind.signed, IntKind.bits]
          simp
          omega
        · have ex := hA.eval hm hx'
          simp only [conc] at ex
          simp [execOp, ho, resolve, hc, invoke, builtin, Builtin.len_, hat, hax, ex, run_underlying hu, goInt]
      · cases h
    · rename_i _ _ _ _ hT
      have hu := (H.T _ _ hT).und
      simp only at hu
      obtain ⟨av, hx', h⟩ := getO_some h
      split at h
      · rename_i l off n cap
        refine ⟨_, h, told_v (wf2_of_wf0 ?_) fun ρ act w hA => ?_⟩
        · have : n ≤ 9223372036854775807 := (opd_wf hg hx' : AV.wf (.s l off n cap)).1
          simp only [wf0, IntKind.min, IntKind.max, IntKind.signed, IntKind.bits]
          simp
          omega
        · have ex := hA.eval hm hx'
          simp only [conc] at ex
          simp [execOp, ho, resolve, hc, invoke, builtin, Builtin.len_, hat, hax, ex, run_underlying hu, goInt]
      · rename_i n cap
        refine ⟨_, h, told_v (wf2_of_wf0 ?_) fun ρ act w hA => ?_⟩
        · have : n ≤ 9223372036854775807 := opd_wf hg hx'
          simp only [wf0, IntKind.min, IntKind.max, IntKind.signed, IntKind.bits]
          simp
          omega
        · have ex := hA.eval hm hx'
          simp only [conc] at ex
          simp [execOp, ho, resolve, hc, invoke, builtin, Builtin.len_, hat, hax, ex, run_underlying hu, goInt]
      · cases h
    · rename_i n e _ _ _ hT
      have hu := (H.T _ _ hT).und
      simp only at hu
      obtain ⟨av, hx', h⟩ := getO_some h
      obtain ⟨hn, h⟩ := bif_some h
      simp only [nble, decide_eq_true_eq] at hn
      refine ⟨_, h, told_v (wf2_of_wf0 ?_) fun ρ act w hA => ?_⟩
      · simp only [wf0, IntKind.min, IntKind.max, IntKind.signed, IntKind.bits]
        simp
        omega
      · simp [execOp, ho, resolve, hc, invoke, builtin, Builtin.len_, hat, hax, run_underlying hu, goInt]
    · cases h
  · cases h

theorem ev_max {o : Oper} {c : Call} (ho : o.op = .call c) (hc : c.callee = .builtin .max) {k : Eff → Option R} (h : evOp cfg get mem o k = some r) (hg : GW get) : ∃ e, k e = some r ∧ Told P get mem o e := by
  simp only [evOp, ho, hc] at h
  have hma : ∀ x ∈ c.args.toList, x ∈ o.op.operands.toList := by
    intro x hx
    simp only [ho, Op.operands, Call.operands, hc, Array.toList_append]
    exact List.mem_append_right _ hx
  split at h
  · rename_i x y hxy
    have hmx : x ∈ o.op.operands.toList := hma x (by rw [hxy]; simp)
    have hmy : y ∈ o.op.operands.toList := hma y (by rw [hxy]; simp)
    obtain ⟨av, hx, h⟩ := getO_some h
    split at h
    · rename_i kx a
      obtain ⟨av2, hy, h⟩ := getO_some h
      split at h
      · rename_i ky b
        obtain ⟨hk, h2⟩ := bif_some h
        have hk : kx = ky := by simpa using hk
        subst hk
        have wx := opd_wf hg hx
        have wy := opd_wf hg hy
        refine ⟨_, h2, told_v (x := .int kx (maxI a b)) ?_ fun ρ act w hA => ?_⟩
        · simp only [maxI]; split <;> assumption
        · have ex := hA.eval hmx hx
          have ey := hA.eval hmy hy
          simp only [conc] at ex ey
          have e : (c.args.map act.eval).toList = [.int kx a, .int kx b] := by rw [Array.toList_map, hxy]; simp [ex, ey]
          simp only [execOp, ho, resolve, hc, Sem.run_bind, Sem.run_pure, Result.andThen_ok, invoke, builtin, Builtin.max_, e]
          simp [Builtin.max2, maxI]
      · cases h
    · cases h
  · cases h

theorem ev_min {o : Oper} {c : Call} (ho : o.op = .call c) (hc : c.callee = .builtin .min) {k : Eff → Option R} (h : evOp cfg get mem o k = some r) (hg : GW get) : ∃ e, k e = some r ∧ Told P get mem o e := by
  simp only [evOp, ho, hc] at h
  have hma : ∀ x ∈ c.args.toList, x ∈ o.op.operands.toList := by
    intro x hx
    simp only [ho, Op.operands, Call.operands, hc, Array.toList_append]
    exact List.mem_append_right _ hx
  split at h
  · rename_i x y hxy
    have hmx : x ∈ o.op.operands.toList := hma x (by rw [hxy]; simp)
    have hmy : y ∈ o.op.operands.toList := hma y (by rw [hxy]; simp)
    obtain ⟨av, hx, h⟩ := getO_some h
    split at h
    · rename_i kx a
      obtain ⟨av2, hy, h⟩ := getO_some h
      split at h
      · rename_i ky b
        obtain ⟨hk, h2⟩ := bif_some h
        have hk : kx = ky := by simpa using hk
        subst hk
        have wx := opd_wf hg hx
        have wy := opd_wf hg hy
        refine ⟨_, h2, told_v (x := .int kx (minI a b)) ?_ fun ρ act w hA => ?_⟩
        · simp only [minI]; split <;> assumption
        · have ex := hA.eval hmx hx
          have ey := hA.eval hmy hy
          simp only [conc] at ex ey
          have e : (c.args.map act.eval).toList = [.int kx a, .int kx b] := by rw [Array.toList_map, hxy]; simp [ex, ey]
          simp only [execOp, ho, resolve, hc, Sem.run_bind, Sem.run_pure, Result.andThen_ok, invoke, builtin, Builtin.min_, e]
          simp [Builtin.min2, minI]
      · cases h
    · cases h
  · cases h

/-- The evaluation of an operation tells its effect. -/
theorem evOp_some (H : CfgOk P cfg) {o : Oper} {k : Eff → Option R} (h : evOp cfg get mem o k = some r) (hg : GW get) (hM : MW mem) : ∃ e, k e = some r ∧ Told P get mem o e := by
  cases ho : o.op with
  | move x => exact ev_move (.inl ho) (by simpa only [evOp, ho] using h) hg
  | assign x => exact ev_move (.inr ho) (by simpa only [evOp, ho] using h) hg
  | pick c a b => exact ev_pick ho h hg
  | alloc T => exact ev_alloc H ho h
  | box T x => exact ev_box ho h hg
  | build T ps => exact ev_build H ho h hg
  | buildSlice T n ps => exact ev_buildSlice H ho h hg
  | load T x => exact ev_load H ho h hM
  | store T x y => exact ev_store H ho h hg hM
  | nilCheck x => exact ev_nilCheck ho h hg
  | binOp op T x y U => exact ev_binOp H ho h hg
  | unOp op T x => exact ev_unOp ho h hg
  | convert S T x => exact ev_convert H ho h hg
  | fieldAddr T x f => exact ev_fieldAddr H ho h
  | field T x f => exact ev_field H ho h hg
  | indexAddr T x i => exact ev_indexAddr H ho h
  | index T x i => exact ev_index H ho h hg
  | makeSlice T x y => exact ev_makeSlice H ho h
  | extract x i => exact ev_extract ho h hg
  | call c =>
    cases hc : c.callee with
    | value f => exact ev_call H ho hc h hg hM
    | invoke rc m => simp [evOp, ho, hc] at h
    | builtin b =>
      cases b with
      | len => exact ev_len H ho hc h hg
      | max => exact ev_max ho hc h hg
      | min => exact ev_min ho hc h hg
      | _ => simp [evOp, ho, hc] at h
  | _ => simp [evOp, ho] at h

end
end Go.Proofs.YtnfbcofieobkkaaGreatDoor.Ev
