/- The evaluator is sound, fifth part: loads, stores, places, the rest of the operations. -/
import Derived.Test.YtnfbcofieobkkaaGreatDoorEvD
namespace Go.Proofs.YtnfbcofieobkkaaGreatDoor.Ev
open Go Go.RowKit
set_option linter.unusedVariables false
set_option linter.unusedSimpArgs false

section
variable {P : Program} {cfg : Cfg} {get : Nat → Option AV} {mem : Nat → Option Bk} {R : Type} {r : R}

theorem ev_load (H : CfgOk P cfg) {o : Oper} {T : TypeId} {x : Operand} (ho : o.op = .load T x) {k : Eff → Option R} (h : evOp cfg get mem o k = some r) (hM : MW mem) : ∃ e, k e = some r ∧ Told P get mem o e := by
  simp only [evOp, ho] at h
  split at h
  · rename_i ti hT
    have hok := H.T _ _ hT
    obtain ⟨av, hx, h⟩ := getO_some h
    split at h
    · rename_i l off
      split at h
      · rename_i bk hbk
        obtain ⟨y, h, hy, hc⟩ := Blk.get_some h (hM _ _ hbk)
        have hm : x ∈ o.op.operands.toList := by simp [ho, Op.operands]
        refine ⟨_, h, told_av (av := .v y) (wf2_of_wf1 hy) ?_ fun ρ a w hA hMa => ?_⟩
        · intro l' hl'
          simp only [lab, List.append_nil, List.mem_singleton] at hl'
          subst hl'
          exact opd_lab hm hx _ (by simp [lab])
        · obtain ⟨fr, hg, _⟩ := hMa l (by simp) bk hbk
          have e := hA.eval hm hx
          simp only [conc] at e
          have hr := run_get hok hg (off := off) hc
          simp [execOp, ho, Instr.loadAt, e, Instr.sureAddr, hr, conc]
      · cases h
    · cases h
  · cases h

theorem ev_store (H : CfgOk P cfg) {o : Oper} {T : TypeId} {x y : Operand} (ho : o.op = .store T x y) {k : Eff → Option R} (h : evOp cfg get mem o k = some r) (hg : GW get) (hM : MW mem) : ∃ e, k e = some r ∧ Told P get mem o e := by
  simp only [evOp, ho] at h
  split at h
  · rename_i ti hT
    have hok := H.T _ _ hT
    obtain ⟨av, hx, h⟩ := getO_some h
    split at h
    · rename_i l off
      obtain ⟨av2, hy, h⟩ := getO_some h
      split at h
      · rename_i v
        split at h
        · rename_i bk hbk
          obtain ⟨h1, h⟩ := bif_some h
          simp only [Bool.and_eq_true, nbeq, decide_eq_true_eq] at h1
          obtain ⟨hown, hlen⟩ := h1
          obtain ⟨b', h, h2, h3, h4⟩ := Blk.put_some h
          have hmx : x ∈ o.op.operands.toList := by simp [ho, Op.operands]
          have hmy : y ∈ o.op.operands.toList := by simp [ho, Op.operands]
          have h3' : (cellsV v).all oneB = true := List.all_eq_true.2 fun c hc => by rw [oneB_eq]; exact h3 c hc
          have hwv := cellsV_wf (opd_wf hg hy) h3'
          refine ⟨_, h, ⟨⟨⟨bk, hbk, hown⟩, fun ρ a w hA hMa K Q hK => ?_⟩, ?_, ?_⟩⟩
          · obtain ⟨fr, hgr, hfr⟩ := hMa bk hbk
            have hfr := hfr hown
            subst hfr
            have ex := hA.eval hmx hx
            have ey := hA.eval hmy hy
            simp only [conc] at ex ey
            have hr := run_put hok hgr hlen h2 h3
            have hrun : (execOp a.eval o).run P w = .ok .skip (w.setRow (ρ l) ⟨b'.cells⟩) := by
              simp [execOp, ho, Instr.storeAt, ex, ey, Instr.sureAddr, hr, h4]
            unfold Oper.wp
            rw [hrun]
            exact hK
          · intro c hc
            simp only [h4] at hc
            rcases mem_ovw hc with hc | hc
            · exact hwv c hc
            · exact hM _ _ hbk c hc
          · intro l' hl'
            simp only [Eff.acc, eLab, List.append_nil, List.mem_singleton] at hl'
            subst hl'
            exact opd_lab hmx hx _ (by simp [lab])
        · cases h
      · cases h
    · cases h
  · cases h

theorem ev_nilCheck {o : Oper} {x : Operand} (ho : o.op = .nilCheck x) {k : Eff → Option R} (h : evOp cfg get mem o k = some r) (_hg : GW get) : ∃ e, k e = some r ∧ Told P get mem o e := by
  simp only [evOp, ho] at h
  obtain ⟨av, hx, h⟩ := getO_some h
  split at h
  · rename_i l off
    have hm : x ∈ o.op.operands.toList := by simp [ho, Op.operands]
    refine ⟨_, h, told_av (av := .p l off) trivial (by simpa using opd_lab hm hx) fun ρ a w hA _ => ?_⟩
    have e := hA.eval hm hx
    simp only [conc] at e
    simp [execOp, ho, e, conc]
  · cases h

theorem ev_binOp (H : CfgOk P cfg) {o : Oper} {op : BinOp} {T U : TypeId} {x y : Operand} (ho : o.op = .binOp op T x y U) {k : Eff → Option R} (h : evOp cfg get mem o k = some r) (hg : GW get) : ∃ e, k e = some r ∧ Told P get mem o e := by
  simp only [evOp, ho] at h
  obtain ⟨av, hx, h⟩ := getO_some h
  split at h
  · rename_i a
    obtain ⟨av2, hy, h⟩ := getO_some h
    split at h
    · rename_i b
      obtain ⟨c, h, hw, hrun⟩ := evBin_some H h (opd_wf hg hx) (opd_wf hg hy)
      have hmx : x ∈ o.op.operands.toList := by simp [ho, Op.operands]
      have hmy : y ∈ o.op.operands.toList := by simp [ho, Op.operands]
      refine ⟨_, h, told_v hw fun ρ act w hA => ?_⟩
      have ex := hA.eval hmx hx
      have ey := hA.eval hmy hy
      simp only [conc] at ex ey
      simp only [execOp, ho, ex, ey]
      rw [Sem.run_bind, hrun]
      rfl
    · cases h
  · cases h

theorem ev_unOp {o : Oper} {op : UnOp} {T : TypeId} {x : Operand} (ho : o.op = .unOp op T x) {k : Eff → Option R} (h : evOp cfg get mem o k = some r) (_hg : GW get) : ∃ e, k e = some r ∧ Told P get mem o e := by
  simp only [evOp, ho] at h
  obtain ⟨av, hx, h⟩ := getO_some h
  have hm : x ∈ o.op.operands.toList := by simp [ho, Op.operands]
  split at h
  · split at h
    · refine ⟨_, h, told_v (wf2_of_wf0 (wf_wrap _ _)) fun ρ act w hA => ?_⟩
      have ex := hA.eval hm hx
      simp only [conc] at ex
      simp [execOp, ho, ex, Op.unary, Op.intArith]
    · refine ⟨_, h, told_v (wf2_of_wf0 (wf_wrap _ _)) fun ρ act w hA => ?_⟩
      have ex := hA.eval hm hx
      simp only [conc] at ex
      simp [execOp, ho, ex, Op.unary, Op.intBits, xorI]
    · cases h
  · split at h
    · refine ⟨_, h, told_v trivial fun ρ act w hA => ?_⟩
      have ex := hA.eval hm hx
      simp only [conc] at ex
      simp [execOp, ho, ex, Op.unary]
    · cases h
  · cases h

theorem TIok.some_und {t : TypeId} {i : TI} (H : TIok P t i) : ∃ d, P.underlying t = some d := by
  have h := H.und
  cases hk : i.k <;> simp only [hk] at h <;> first | exact ⟨_, h⟩ | exact h.elim | exact ⟨_, h.choose_spec.1⟩ | exact ⟨_, h.choose_spec⟩

theorem foldl_push : ∀ (bs : List Int) (acc : ByteArray), bs.foldl (fun r n => r.push (UInt8.ofNat n.toNat)) acc = ⟨acc.data ++ (bs.map fun x => UInt8.ofNat x.toNat).toArray⟩
  | [], acc => by simp
  | b :: bs, acc => by
    rw [List.foldl_cons, foldl_push bs]
    simp [ByteArray.push]

theorem run_strOf {w : World} {g off n cap : Nat} {xs : List Int} {ty : TypeId} {fr : Nat × Nat} (hg : w.heap[g]? = some (.cells ⟨xs.map (Value.int .u8)⟩ ty fr)) (hb : off + n ≤ xs.length) :
    (Conv.bytesToString (.slice (some ⟨g, off, none⟩) n cap)).run P w = .ok (.string (strOf off n xs)) w := by
  have hl := run_loadCells_list (P := P) w ⟨g, off, none⟩ (((xs.drop off).take n).map (Value.int .u8)) (fun j v hv => by
    rw [addr_add, cell_at hg]
    simp only [List.getElem?_map, List.getElem?_take, List.getElem?_drop] at hv ⊢
    split at hv
    · exact hv
    · cases hv)
  have e : (((xs.drop off).take n).map (Value.int IntKind.u8)).length = n := by simp; omega
  rw [e] at hl
  rw [Go.run_bytesToString w _ n cap _ hl, foldl_push]
  simp [strOf]

theorem ev_convert (H : CfgOk P cfg) {o : Oper} {S T : TypeId} {x : Operand} (ho : o.op = .convert S T x) {k : Eff → Option R} (h : evOp cfg get mem o k = some r) (hg : GW get) : ∃ e, k e = some r ∧ Told P get mem o e := by
  simp only [evOp, ho] at h
  split at h
  · rename_i si hS
    obtain ⟨d, hd⟩ := (H.T _ _ hS).some_und
    split at h
    · rename_i ti hT
      have hok := (H.T _ _ hT).und
      obtain ⟨av, hx, h⟩ := getO_some h
      have hm : x ∈ o.op.operands.toList := by simp [ho, Op.operands]
      split at h
      · split at h
        · rename_i kk hk
          simp only [hk] at hok
          refine ⟨_, h, told_v (wf2_of_wf0 (wf_wrap _ _)) fun ρ act w hA => ?_⟩
          have ex := hA.eval hm hx
          simp only [conc] at ex
          simp only [execOp, ho, ex, convert, Sem.run_bind, run_underlying hd, run_underlying hok, Result.andThen_ok]
          cases d <;> simp [Conv.intToInt]
        · cases h
      · split at h
        · rename_i hk
          simp only [hk] at hok
          refine ⟨_, h, told_v (opd_wf hg hx) fun ρ act w hA => ?_⟩
          have ex := hA.eval hm hx
          simp only [conc] at ex
          simp only [execOp, ho, ex, convert, Sem.run_bind, run_underlying hd, run_underlying hok, Result.andThen_ok]
          cases d <;> simp
        · cases h
      · rename_i l off n cap
        split at h
        · rename_i e xs hk hsk hmem
          split at h
          · rename_i he
            obtain ⟨h1, h⟩ := bif_some h
            have h1 : off + n ≤ xs.length := by simpa [nble] using h1
            simp only [hk] at hok
            have hsu := (H.T _ _ hS).und
            simp only [hsk] at hsu
            have heu := (H.T _ _ he).und
            simp only at heu
            have hn : n ≤ 9223372036854775807 := (opd_wf hg hx : AV.wf (.s l off n cap)).1
            refine ⟨_, h, told_av (av := .v (.string (strOf off n xs))) ?_ ?_ fun ρ act w hA hMa => ?_⟩
            · show (strOf off n xs).size ≤ _
              have : (strOf off n xs).size = n := by simp [strOf, ByteArray.size]; omega
              omega
            · intro l' hl'
              simp only [lab, List.append_nil, List.mem_singleton] at hl'
              subst hl'
              exact opd_lab hm hx _ (by simp [lab])
            · have ex := hA.eval hm hx
              simp only [conc] at ex
              obtain ⟨fr, hgr, _⟩ := hMa l (by simp) _ hmem
              have hr := run_strOf (P := P) (cap := cap) hgr h1
              simp only [execOp, ho, ex, convert, Sem.run_bind, run_underlying hsu, run_underlying hok, Result.andThen_ok, run_underlying heu, hr, Sem.run_pure, conc]
          · cases h
        · cases h
      · cases h
    · cases h
  · cases h

theorem ev_fieldAddr (H : CfgOk P cfg) {o : Oper} {T : TypeId} {x : Operand} {f : Nat} (ho : o.op = .fieldAddr T x f) {k : Eff → Option R} (h : evOp cfg get mem o k = some r) : ∃ e, k e = some r ∧ Told P get mem o e := by
  simp only [evOp, ho] at h
  have hm : x ∈ o.op.operands.toList := by simp [ho, Op.operands]
  split at h
  · rename_i fs _ _ _ hT
    obtain ⟨flds, hu, hf, _⟩ := (H.T _ _ hT).und
    split at h
    · rename_i off t hn
      split at h
      · rename_i s hs
        obtain ⟨ti, _, _, hrun⟩ := sizeT_some H hs
        obtain ⟨av, hx, h⟩ := getO_some h
        split at h
        · rename_i l o'
          refine ⟨_, h, told_av (av := .p l (o' + off)) trivial ?_ fun ρ act w hA _ => ?_⟩
          · have := opd_lab hm hx
            simpa [lab] using this
          · have ex := hA.eval hm hx
            simp only [conc] at ex
            rw [nthL_eq, ← hf, List.getElem?_map] at hn
            cases hfi : flds.toList[f]? with
            | none => simp [hfi] at hn
            | some fl =>
              simp only [hfi, Option.map_some, Option.some.injEq, Prod.mk.injEq] at hn
              obtain ⟨rfl, rfl⟩ := hn
              have hfi' : flds[f]? = some fl := by simpa using hfi
              simp [execOp, ho, ex, Instr.fieldAt, run_underlying hu, hfi', Instr.sureAddr, fieldPlace, hrun, addr_add, conc]
        · cases h
      · cases h
    · cases h
  · cases h

theorem part_some {k : Value → Option R} {ti : TI} {cs : List Value} {off : Nat} (h : partV ti cs off k = some r) {t : TypeId} (hok : TIok P t ti) (hw : ∀ c ∈ cs, wf0 c) :
    ∃ y, k y = some r ∧ wf2 y ∧ ∀ w, (part t ⟨cs⟩ off).run P w = .ok y w := by
  unfold partV at h
  cases ha : ti.agg with
  | true =>
    simp only [ha, cond_true] at h
    refine ⟨_, h, fun c hc => hw c (List.mem_of_mem_drop (List.mem_of_mem_take hc)), fun w => ?_⟩
    simp only [part, Sem.run_bind, hok.isagg, ha, Result.andThen_ok, if_true, hok.size, Sem.run_pure]
    congr 2
    apply Array.ext'
    simp [List.extract_eq_drop_take', Nat.add_sub_cancel_left, List.extract_eq_take_drop]
  | false =>
    simp only [ha, cond_false] at h
    obtain ⟨y, hy, h⟩ := getV_some h
    refine ⟨y, h, wf2_of_wf0 (hw y (List.mem_of_getElem? hy)), fun w => ?_⟩
    simp [part, hok.isagg, ha, hy]

theorem ev_field (H : CfgOk P cfg) {o : Oper} {T : TypeId} {x : Operand} {f : Nat} (ho : o.op = .field T x f) {k : Eff → Option R} (h : evOp cfg get mem o k = some r) (hg : GW get) : ∃ e, k e = some r ∧ Told P get mem o e := by
  simp only [evOp, ho] at h
  have hm : x ∈ o.op.operands.toList := by simp [ho, Op.operands]
  split at h
  · rename_i fs _ _ _ hT
    obtain ⟨flds, hu, hf, _⟩ := (H.T _ _ hT).und
    split at h
    · rename_i off t hn
      split at h
      · rename_i ti hTt
        obtain ⟨av, hx, h⟩ := getO_some h
        split at h
        · rename_i cs
          obtain ⟨y, h, hw, hrun⟩ := part_some h (H.T _ _ hTt) (opd_wf hg hx)
          refine ⟨_, h, told_v hw fun ρ act w hA => ?_⟩
          have ex := hA.eval hm hx
          simp only [conc] at ex
          rw [nthL_eq, ← hf, List.getElem?_map] at hn
          cases hfi : flds.toList[f]? with
          | none => simp [hfi] at hn
          | some fl =>
            simp only [hfi, Option.map_some, Option.some.injEq, Prod.mk.injEq] at hn
            obtain ⟨rfl, rfl⟩ := hn
            have hfi' : flds[f]? = some fl := by simpa using hfi
            have hr := hrun w
            simp only [Array.toArray_toList] at hr
            simp [execOp, ho, ex, Instr.field, run_underlying hu, hfi', asAgg, hr]
        · cases h
      · cases h
    · cases h
  · cases h

end
end Go.Proofs.YtnfbcofieobkkaaGreatDoor.Ev
