/- The evaluator is sound, second part: memory and arithmetic of single operations. -/
import Derived.Test.YtnfbcofieobkkaaGreatDoorEvA
namespace Go.Proofs.YtnfbcofieobkkaaGreatDoor.Ev
open Go Go.RowKit
set_option linter.unusedVariables false
set_option linter.unusedSimpArgs false

section
variable {P : Program} {t : TypeId} {i : TI}

theorem TIok.size (H : TIok P t i) (w : World) : (sizeOf t).run P w = .ok i.size w := by
  obtain ⟨inf, h1, h2, _⟩ := H.inf
  simp [sizeOf, typeInfo, h1, h2]

theorem TIok.zeroV (H : TIok P t i) (w : World) : (zeroValue t).run P w = .ok (bif i.agg then .agg ⟨i.zero⟩ else (i.zero.headD undef)) w := by
  obtain ⟨inf, h1, _, _, h2⟩ := H.inf
  simp [zeroValue, typeInfo, h1, h2]

theorem TIok.bytesV (H : TIok P t i) (w : World) : ∃ inf, (typeInfo t).run P w = .ok inf w ∧ inf.bytes = i.bytes := by
  obtain ⟨inf, h1, _, h2, _⟩ := H.inf
  exact ⟨inf, by simp [typeInfo, h1], h2⟩

theorem TIok.isagg (H : TIok P t i) (w : World) : (isAgg t).run P w = .ok i.agg w := by
  have h := H.und
  unfold TI.agg
  cases hk : i.k with
  | arr n e => simp only [hk] at h ⊢; simp [isAgg, run_underlying h]
  | struct fs => simp only [hk] at h ⊢; obtain ⟨f, h, _⟩ := h; simp [isAgg, run_underlying h]
  | int k => simp only [hk] at h ⊢; simp [isAgg, run_underlying h]
  | bool => simp only [hk] at h ⊢; simp [isAgg, run_underlying h]
  | str => simp only [hk] at h ⊢; simp [isAgg, run_underlying h]
  | slice e => simp only [hk] at h ⊢; simp [isAgg, run_underlying h]
  | fn => simp only [hk] at h ⊢; obtain ⟨f, h⟩ := h; simp [isAgg, run_underlying h]
  | other => simp only [hk] at h
end

theorem getV_some {R : Type} {r : R} {k : Value → Option R} : ∀ {cs : List Value} {i : Nat}, getV i k cs = some r → ∃ y, cs[i]? = some y ∧ k y = some r
  | [], i, h => by simp [getV] at h
  | x :: xs, 0, h => ⟨x, rfl, h⟩
  | x :: xs, j + 1, h => by
    simp only [getV] at h
    obtain ⟨y, hy, h⟩ := getV_some h
    exact ⟨y, by simpa using hy, h⟩

theorem rng_map (off n : Nat) : rng off n = (List.range n).map (off + ·) := by
  induction n generalizing off with
  | zero => rfl
  | succ n ih =>
    rw [rng, ih, List.range_succ_eq_map, List.map_cons, List.map_map]
    simp only [Nat.add_zero, List.cons.injEq, true_and]
    apply List.map_congr_left
    intro j _
    simp; omega

theorem cell_at {w : World} {g : Nat} {cs : List Value} {ty : TypeId} {fr : Nat × Nat} (h : w.heap[g]? = some (.cells ⟨cs⟩ ty fr)) (j : Nat) : w.cell? ⟨g, j, none⟩ = cs[j]? := by
  simp [World.cell?, h]

theorem addr_add (g o j : Nat) : (⟨g, o, none⟩ : Addr).add j = ⟨g, o + j, none⟩ := by
  unfold Addr.add
  split <;> simp_all

theorem getI_eq : ∀ (l : List Int) (i : Nat), getI i l = l.getD i 0
  | [], i => by simp [getI]
  | x :: xs, 0 => rfl
  | x :: xs, j + 1 => by
    simp only [getI]
    rw [getI_eq xs j]
    simp [List.getD]

theorem Blk.get_some {R : Type} {r : R} {k : Value → Option R} {b : Blk} {ti : TI} {off : Nat} (h : b.get ti off k = some r) (hw : ∀ c ∈ b.cells, wf0 c) :
    ∃ y, k y = some r ∧ wf1 y ∧ ((ti.agg = true ∧ off + ti.size ≤ b.cells.length ∧ y = .agg ⟨(b.cells.drop off).take ti.size⟩) ∨ (ti.agg = false ∧ b.cells[off]? = some y)) := by
  cases b with
  | lit cs =>
    simp only [Blk.get, Blk.cells] at h hw ⊢
    cases ha : ti.agg with
    | true =>
      simp only [ha, cond_true, nble] at h
      by_cases hb : off + ti.size ≤ cs.length
      · simp only [hb, decide_true, cond_true] at h
        exact ⟨_, h, fun c hc => hw c (List.mem_of_mem_drop (List.mem_of_mem_take hc)), .inl ⟨rfl, hb, rfl⟩⟩
      · simp [hb] at h
    | false =>
      simp only [ha, cond_false] at h
      obtain ⟨y, hy, h⟩ := getV_some h
      exact ⟨y, h, wf1_of_wf0 (hw y (List.mem_of_getElem? hy)), .inr ⟨rfl, hy⟩⟩
  | ints kk l =>
    simp only [Blk.get, Blk.cells, getI_eq] at h hw ⊢
    cases ha : ti.agg with
    | true =>
      simp only [ha, cond_true, nble] at h
      by_cases hb : off + ti.size ≤ l.length
      · simp only [hb, decide_true, cond_true] at h
        have e : (rng off ti.size).map (fun j => Value.int kk (l.getD j 0)) = ((l.map (Value.int kk)).drop off).take ti.size := by
          rw [rng_map]
          apply List.ext_getElem?
          intro j
          simp only [List.getElem?_map, List.getElem?_take, List.getElem?_drop, List.getElem?_range]
          by_cases hj : j < ti.size
          · have : off + j < l.length := by omega
            simp [hj, List.getElem?_eq_getElem this, List.getD]
          · simp [hj]
        rw [e] at h
        exact ⟨_, h, fun c hc => hw c (List.mem_of_mem_drop (List.mem_of_mem_take hc)), .inl ⟨rfl, by simpa using hb, rfl⟩⟩
      · simp [hb] at h
    | false =>
      simp only [ha, cond_false, nblt] at h
      by_cases hb : off < l.length
      · simp only [hb, decide_true, cond_true] at h
        have hy : (l.map (Value.int kk))[off]? = some (.int kk (l.getD off 0)) := by simp [List.getElem?_eq_getElem hb, List.getD]
        exact ⟨_, h, wf1_of_wf0 (hw _ (List.mem_of_getElem? hy)), .inr ⟨rfl, hy⟩⟩
      · simp [hb] at h

theorem run_get {P : Program} {t : TypeId} {ti : TI} (H : TIok P t ti) {w : World} {g off : Nat} {cs : List Value} {ty : TypeId} {fr : Nat × Nat} (hg : w.heap[g]? = some (.cells ⟨cs⟩ ty fr)) {y : Value}
    (hy : (ti.agg = true ∧ off + ti.size ≤ cs.length ∧ y = .agg ⟨(cs.drop off).take ti.size⟩) ∨ (ti.agg = false ∧ cs[off]? = some y)) : (loadVar t ⟨g, off, none⟩).run P w = .ok y w := by
  rcases hy with ⟨ha, hb, rfl⟩ | ⟨ha, hy⟩
  · have hl := run_loadCells_list (P := P) w ⟨g, off, none⟩ ((cs.drop off).take ti.size) (fun j v hv => by
      rw [addr_add, cell_at hg]
      simp only [List.getElem?_take, List.getElem?_drop] at hv
      split at hv
      · exact hv
      · cases hv)
    have e : ((cs.drop off).take ti.size).length = ti.size := by simp; omega
    rw [e] at hl
    simp [loadVar, H.isagg, ha, H.size, hl]
  · simp [loadVar, H.isagg, ha, cell_at hg, hy]

theorem toInts_some {kk : IntKind} : ∀ {cs : List Value} {l : List Int}, toInts kk cs = some l → cs = l.map (Value.int kk)
  | [], l, h => by simp [toInts] at h; subst h; rfl
  | c :: cs, l, h => by
    cases c <;> simp only [toInts] at h <;> try cases h
    rename_i k x
    split at h
    · rename_i l' hk hl
      have hk : k = kk := by simpa using hk
      subst hk
      simp only [Option.some.injEq] at h
      subst h
      rw [toInts_some hl]
      rfl
    · cases h

theorem Blk.of_cells (cs : List Value) : (Blk.of cs).cells = cs := by
  unfold Blk.of
  split
  · split
    · rename_i l h; exact (toInts_some h).symm
    · rfl
  · rfl

theorem setL_eq : ∀ (l : List Int) (j i : Nat) (v : Int), setL j i v l = if j ≤ i then l.set (i - j) v else l
  | [], j, i, v => by simp [setL]
  | x :: xs, j, i, v => by
    simp only [setL, nbeq, setL_eq xs (j + 1) i v]
    by_cases h : i = j
    · subst h
      have : ¬ i + 1 ≤ i := by omega
      simp [this]
    · by_cases h2 : j ≤ i
      · have e : i - j = (i - (j + 1)) + 1 := by omega
        have h3 : j + 1 ≤ i := by omega
        simp [h, h2, h3, e]
      · have h3 : ¬ j + 1 ≤ i := by omega
        simp [h, h2, h3]

theorem ovw_cons (off : Nat) (v : Value) (vs cs : List Value) (h : off < cs.length) : ovw off (v :: vs) cs = ovw (off + 1) vs (cs.set off v) := by
  unfold ovw
  apply List.ext_getElem?
  intro j
  simp only [List.getElem?_append, List.length_take, List.getElem?_take, List.length_cons, List.getElem?_cons, List.getElem?_drop, List.getElem?_set, List.length_set]
  by_cases h1 : j < off
  · have a : j < min off cs.length := by omega
    have b : j < min (off + 1) cs.length := by omega
    have c : j < off + 1 := by omega
    have d : ¬ off = j := by omega
    simp [a, b, c, d, h1]
  · by_cases h2 : j = off
    · subst h2
      have a : min j cs.length = j := by omega
      have b : j < min (j + 1) cs.length := by omega
      simp [a, b, h]
    · have a : ¬ j < min off cs.length := by omega
      have b : ¬ j < min (off + 1) cs.length := by omega
      have c : min off cs.length = off := by omega
      have d : min (off + 1) cs.length = off + 1 := by omega
      have e : j - off = (j - (off + 1)) + 1 := by omega
      have f : ¬ j < off + 1 := by omega
      simp only [c, d, e]
      by_cases h3 : j - (off + 1) < vs.length
      · simp [h3, h1, f]
      · have h5 : off + (vs.length + 1) + (j - (off + 1) + 1 - (vs.length + 1)) = off + 1 + vs.length + (j - (off + 1) - vs.length) := by omega
        have h6 : ¬ off = off + 1 + vs.length + (j - (off + 1) - vs.length) := by omega
        simp [h3, h6, h1, f]; rw [show off + (vs.length + 1) = off + 1 + vs.length from by omega]

theorem ovwI_cells (kk : IntKind) : ∀ (xs : List Int) (off : Nat) (l : List Int), off + xs.length ≤ l.length → (ovwI off xs l).map (Value.int kk) = ovw off (xs.map (Value.int kk)) (l.map (Value.int kk))
  | [], off, l, _ => by simp [ovwI, ovw]
  | x :: xs, off, l, h => by
    simp only [List.length_cons] at h
    rw [ovwI, List.map_cons, ovw_cons _ _ _ _ (by simp; omega), setL_eq, ovwI_cells kk xs (off + 1) _ (by simp; omega)]
    simp [List.map_set]

theorem oneB_eq (v : Value) : oneB v = v.oneCell' := by cases v <;> rfl

theorem Blk.put_some {R : Type} {r : R} {k : Blk → Option R} {b : Blk} {off : Nat} {vs : List Value} (h : b.put off vs k = some r) :
    ∃ b', k b' = some r ∧ off + vs.length ≤ b.cells.length ∧ (∀ v ∈ vs, v.oneCell' = true) ∧ b'.cells = ovw off vs b.cells := by
  cases b with
  | lit cs =>
    simp only [Blk.put, Blk.cells, nble] at h ⊢
    by_cases hb : off + vs.length ≤ cs.length ∧ vs.all oneB = true
    · obtain ⟨h1, h2⟩ := hb
      simp only [h1, h2, decide_true, Bool.and_true, cond_true] at h
      exact ⟨_, h, h1, fun v hv => by rw [← oneB_eq]; exact List.all_eq_true.1 h2 v hv, rfl⟩
    · have : (decide (off + vs.length ≤ cs.length) && vs.all oneB) = false := by
        rw [Bool.eq_false_iff]; intro e; simp only [Bool.and_eq_true, decide_eq_true_eq] at e; exact hb e
      rw [this] at h; simp at h
  | ints kk l =>
    simp only [Blk.put, Blk.cells, nble] at h ⊢
    split at h
    · cases h
    · rename_i xs hx
      have e := toInts_some hx
      by_cases hb : off + xs.length ≤ l.length
      · simp only [hb, decide_true, cond_true] at h
        by_cases hf : (decide (2 ≤ xs.length) && (Nat.beq off 0 && Nat.beq xs.length l.length)) = true
        · rw [hf, cond_true] at h
          simp only [Bool.and_eq_true, nbeq, decide_eq_true_eq] at hf
          obtain ⟨_, rfl, hl⟩ := hf
          refine ⟨_, h, by subst e; simpa using hb, ?_, ?_⟩
          · intro v hv; subst e; obtain ⟨x, _, rfl⟩ := List.mem_map.1 hv; rfl
          · subst e
            have : (l.map (Value.int kk)).drop xs.length = [] := List.drop_eq_nil_of_le (by simp [hl])
            simp [Blk.cells, ovw, this]
        · have hf' : (decide (2 ≤ xs.length) && (Nat.beq off 0 && Nat.beq xs.length l.length)) = false := by rw [Bool.eq_false_iff]; exact hf
          rw [hf', cond_false] at h
          refine ⟨_, h, by subst e; simpa using hb, ?_, ?_⟩
          · intro v hv; subst e; obtain ⟨x, _, rfl⟩ := List.mem_map.1 hv; rfl
          · subst e; exact ovwI_cells kk xs off l hb
      · simp [hb] at h

theorem cellsV_eq (v : Value) : v.cells.toList = cellsV v := by cases v <;> rfl

theorem cellsV_wf {v : Value} (h : wf2 v) (h1 : (cellsV v).all oneB = true) : ∀ c ∈ cellsV v, wf0 c := by
  cases v <;> intro c hc <;> simp only [cellsV, List.mem_singleton] at hc <;> first | (subst hc; exact h) | skip
  · exact h c hc
  · subst hc; simp [cellsV, oneB] at h1

theorem mem_ovw {off : Nat} {vs cs : List Value} {c : Value} (h : c ∈ ovw off vs cs) : c ∈ vs ∨ c ∈ cs := by
  unfold ovw at h
  rcases List.mem_append.1 h with h | h
  · exact .inr (List.mem_of_mem_take h)
  · rcases List.mem_append.1 h with h | h
    · exact .inl h
    · exact .inr (List.mem_of_mem_drop h)

theorem run_put {P : Program} {t : TypeId} {ti : TI} (H : TIok P t ti) {w : World} {g off : Nat} {cs : List Value} {ty : TypeId} (hg : w.heap[g]? = some (.cells ⟨cs⟩ ty (0, 0))) {y : Value}
    (hs : (cellsV y).length = ti.size) (hl : off + (cellsV y).length ≤ cs.length) (h1 : ∀ v ∈ cellsV y, v.oneCell' = true) :
    (storeVar t ⟨g, off, none⟩ y).run P w = .ok () (w.setRow g ⟨ovw off (cellsV y) cs⟩) := by
  have hst := run_storeCells_at (P := P) g off ty (cellsV y) 0 ⟨cs⟩ w hg (by simpa using hl) h1
  have e : y.cells.size = ti.size := by rw [← hs, ← cellsV_eq, Array.length_toList]
  simp only [storeVar, Sem.run_bind, H.size, Result.andThen_ok, e, ne_eq, not_true_eq_false, if_false, cellsV_eq]
  simp only [Nat.add_zero] at hst
  simpa [ovw, List.append_assoc] using hst

theorem bits_le (k : IntKind) : (k.bits = 8 ∨ k.bits = 16 ∨ k.bits = 32 ∨ k.bits = 64) := by cases k <;> simp [IntKind.bits]

theorem wf_shr (k : IntKind) (x y : Int) (h : wf0 (.int k x)) : wf0 (.int k (shrI k x y)) := by
  simp only [wf0, shrI] at h ⊢
  have hp : (0 : Int) < 2 ^ min y.toNat k.bits := Int.pow_pos (by decide)
  generalize (2 : Int) ^ min y.toNat k.bits = p at hp
  have hd : x.fdiv p = x / p := Int.fdiv_eq_ediv_of_nonneg x (by omega)
  rw [hd]
  obtain ⟨h1, h2⟩ := h
  have hmin : k.min ≤ 0 := by cases k <;> simp [IntKind.min, IntKind.bits, IntKind.signed]
  have hmax : 0 ≤ k.max := by cases k <;> simp [IntKind.max, IntKind.bits, IntKind.signed]
  rcases Int.lt_or_le x 0 with hx | hx
  · have a : x ≤ x / p := by
      rw [Int.le_ediv_iff_mul_le hp]
      have : x * p ≤ x * 1 := Int.mul_le_mul_of_nonpos_left (by omega) (by omega)
      omega
    have b : x / p < 0 := Int.ediv_neg_of_neg_of_pos hx hp
    omega
  · have a : 0 ≤ x / p := Int.ediv_nonneg hx (by omega)
    have b : x / p ≤ x := Int.ediv_le_self p hx
    omega

theorem emod_le_self {a : Int} (h : 0 ≤ a) (b : Int) : a % b ≤ a := by
  obtain ⟨n, rfl⟩ := Int.eq_ofNat_of_zero_le h
  rcases Int.lt_or_le b 0 with hb | hb
  · obtain ⟨m, hm⟩ := Int.eq_ofNat_of_zero_le (a := -b) (by omega)
    rw [← Int.emod_neg, hm, ← Int.natCast_emod]
    exact Int.ofNat_le.2 (Nat.mod_le n m)
  · obtain ⟨m, rfl⟩ := Int.eq_ofNat_of_zero_le hb
    rw [← Int.natCast_emod]
    exact Int.ofNat_le.2 (Nat.mod_le n m)

theorem wf_tmod (k : IntKind) (x y : Int) (h : wf0 (.int k x)) : wf0 (.int k (x.tmod y)) := by
  simp only [wf0] at h ⊢
  have hmin : k.min ≤ 0 := by cases k <;> simp [IntKind.min, IntKind.bits, IntKind.signed]
  have hmax : 0 ≤ k.max := by cases k <;> simp [IntKind.max, IntKind.bits, IntKind.signed]
  rcases Int.lt_or_le x 0 with hx | hx
  · have e : x.tmod y = -((-x).tmod y) := by rw [Int.neg_tmod]; omega
    have a : 0 ≤ (-x).tmod y := Int.tmod_nonneg y (by omega)
    have b : (-x).tmod y ≤ -x := by
      have := Int.tmod_eq_emod_of_nonneg (a := -x) (by omega : 0 ≤ -x) (b := y)
      rw [this]
      exact emod_le_self (by omega) y
    omega
  · have a : 0 ≤ x.tmod y := Int.tmod_nonneg y hx
    have b : x.tmod y ≤ x := by
      have := Int.tmod_eq_emod_of_nonneg hx (b := y)
      rw [this]
      exact emod_le_self hx y
    omega

end Go.Proofs.YtnfbcofieobkkaaGreatDoor.Ev
