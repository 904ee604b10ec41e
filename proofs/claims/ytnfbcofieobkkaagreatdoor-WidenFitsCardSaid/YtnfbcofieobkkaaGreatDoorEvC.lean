/- The evaluator is sound, third part: every single operation. -/
import Derived.Test.YtnfbcofieobkkaaGreatDoorEvB
namespace Go.Proofs.YtnfbcofieobkkaaGreatDoor.Ev
open Go Go.RowKit
set_option linter.unusedVariables false
set_option linter.unusedSimpArgs false

section
variable {P : Program} {cfg : Cfg} {get : Nat → Option AV} {mem : Nat → Option Bk} {R : Type} {r : R}

theorem opd_wf {x : Operand} {av : AV} (hget : ∀ t av, get t = some av → av.wf) (h : Opd get x av) : av.wf := by
  cases x with
  | tmp t => exact hget t av h
  | const c => obtain ⟨rfl, h⟩ := h; exact wf2_of_wf0 h
  | func f => cases h; trivial
  | global g => exact h.elim

theorem opd_lab {x : Operand} {av : AV} {o : Oper} (hx : x ∈ o.op.operands.toList) (h : Opd get x av) : ∀ l ∈ lab av, ∃ t ∈ tmpsOf o, ∃ av, get t = some av ∧ l ∈ lab av := by
  intro l hl
  cases x with
  | tmp t => exact ⟨t, mem_tmpsOf hx, av, h, hl⟩
  | const c => obtain ⟨rfl, _⟩ := h; simp [lab] at hl
  | func f => cases h; simp [lab] at hl
  | global g => exact h.elim

theorem wp_of_run {o : Oper} {a : Act} {w w' : World} {v : Value} {K : Act → World → Prop} {Q : Exit → Act → World → Prop} (h : (execOp a.eval o).run P w = .ok (.value v) w') (hK : K (a.put o.dst v) w') : o.wp P a w K Q := by
  unfold Oper.wp; rw [h]; exact hK

theorem told_av {o : Oper} {ls : List Nat} {av : AV} (hw : av.wf) (hl : ∀ l ∈ ls ++ lab av, ∃ t ∈ tmpsOf o, ∃ av, get t = some av ∧ l ∈ lab av)
    (hrun : ∀ ρ a w, Agr get ρ a o → (∀ l ∈ ls, MAgr mem ρ w l) → (execOp a.eval o).run P w = .ok (.value (conc ρ av)) w) : Told P get mem o (.val ls av) :=
  ⟨fun ρ a w _ hA hM _ _ hK => wp_of_run (hrun ρ a w hA hM) (hK w (Below.refl _ _)), hw, by simpa [Eff.acc, eLab] using hl⟩

theorem told_v {o : Oper} {x : Value} (hw : wf2 x) (hrun : ∀ ρ a w, Agr get ρ a o → (execOp a.eval o).run P w = .ok (.value x) w) : Told P get mem o (.val [] (.v x)) :=
  told_av hw (by simp [lab]) fun ρ a w hA _ => hrun ρ a w hA

theorem told_nw {o : Oper} {T : TypeId} {b : Blk} {sl : Bool} {n : Nat} (hw : ∀ c ∈ b.cells, wf0 c) (hn : n ≤ 9223372036854775807)
    (hrun : ∀ ρ a w, Agr get ρ a o → (execOp a.eval o).run P w =
      .ok (.value (bif sl then .slice (some ⟨w.heap.size, 0, none⟩) n n else .pointer (some ⟨w.heap.size, 0, none⟩))) (w.alloc (.cells ⟨b.cells⟩ T))) : Told P get mem o (.nw T b sl n) :=
  ⟨fun ρ a w hA _ _ hK => wp_of_run (hrun ρ a w hA) hK, ⟨hw, hn⟩, by simp [Eff.acc, eLab]⟩

theorem nthL_eq {α : Type} : ∀ (l : List α) (i : Nat), nthL i l = l[i]?
  | [], i => by simp [nthL]
  | x :: xs, 0 => rfl
  | x :: xs, j + 1 => by simp [nthL, nthL_eq xs j]

theorem bif_some {c : Bool} {x : Option R} (h : (bif c then x else none) = some r) : c = true ∧ x = some r := by
  cases c <;> simp at h; exact ⟨rfl, h⟩

theorem bif_none {c : Bool} {x : Option R} (h : (bif c then none else x) = some r) : c = false ∧ x = some r := by
  cases c <;> simp at h; exact ⟨rfl, h⟩

theorem wf_bit {k : IntKind} {n : Nat} : wf2 (.int k (k.wrap n)) := wf2_of_wf0 (wf_wrap k n)

theorem ne_dec {x y : Int} (b : Bool) : (!(x == y)) = b → (x != y) = b := fun h => h

theorem run_eqB {T : TypeId} {x y : Bool} {w : World} (hu : P.underlying T = some .bool) : (Op.equal T (.bool x) (.bool y)).run P w = .ok (x == y) w :=
  run_equalIn_bool' (P := P) w 9999 T x y hu

theorem not_neg {ky : IntKind} {y : Int} (hb : wf2 (.int ky y)) (h : (ky.signed && decide (y < 0)) = false) : ¬ y < 0 := by
  have h2 : ky.min ≤ y := hb.1
  cases ky <;> simp [IntKind.signed, IntKind.min] at h h2 <;> omega

/-- Arithmetic and comparisons. -/
theorem evBin_some (H : CfgOk P cfg) {op : BinOp} {T : TypeId} {a b : Value} {k : Value → Option R} (h : evBin cfg op T a b k = some r) (ha : wf2 a) (hb : wf2 b) :
    ∃ c, k c = some r ∧ wf2 c ∧ ∀ (x y : Operand) (w : World), (do eqGuard op T x y a b; binOp op T a b : Sem Value).run P w = .ok c w := by
  cases a with
  | int kx x =>
    cases b with
    | int ky y =>
      cases op <;> simp only [evBin] at h <;> first | (cases h; done) | skip
      case shl =>
        obtain ⟨h1, h⟩ := bif_none h
        have hy : ¬ y < 0 := not_neg hb h1
        exact ⟨_, h, wf2_of_wf0 (wf_wrap _ _), fun _ _ w => by simp [eqGuard, binOp, Op.shift, hy, shlI]⟩
      case shr =>
        obtain ⟨h1, h⟩ := bif_none h
        have hy : ¬ y < 0 := not_neg hb h1
        exact ⟨_, h, wf2_of_wf0 (wf_shr kx x y ha), fun _ _ w => by simp [eqGuard, binOp, Op.shift, hy, shrI]⟩
      case quo =>
        obtain ⟨h0, h⟩ := bif_some h
        obtain ⟨h1, h⟩ := bif_none h
        have h0 : kx = ky := by simpa using h0
        have hy : ¬ y = 0 := by simpa using h1
        exact ⟨_, h, wf2_of_wf0 (wf_wrap _ _), fun _ _ w => by simp [eqGuard, binOp, Op.intDiv, hy, h0]⟩
      case rem =>
        obtain ⟨h0, h⟩ := bif_some h
        obtain ⟨h1, h⟩ := bif_none h
        have h0 : kx = ky := by simpa using h0
        have hy : ¬ y = 0 := by simpa using h1
        exact ⟨_, h, wf2_of_wf0 (wf_tmod kx x y ha), fun _ _ w => by simp [eqGuard, binOp, Op.intDiv, hy, h0]⟩
      all_goals
        obtain ⟨h0, h2⟩ := bif_some h
        have h3 : kx = ky := by simpa using h0
        clear h h0
        subst h3
        first
        | exact ⟨_, h2, wf2_of_wf0 (wf_wrap _ _), fun _ _ w => by simp [eqGuard, binOp, Op.intArith, Op.intBits, andI, orI, xorI]⟩
        | exact ⟨_, h2, trivial, fun _ _ w => by simp [eqGuard, binOp, Op.intCmp, bne]⟩
    | _ => simp [evBin] at h
  | bool x =>
    cases b with
    | bool y =>
      simp only [evBin] at h
      split at h
      · rename_i i _ _ _ hT
        have hu := (H.T _ _ hT).und
        simp only at hu
        exact ⟨_, h, trivial, fun _ _ w => by simp [eqGuard, binOp, run_eqB hu]⟩
      · rename_i i _ _ _ hT
        have hu := (H.T _ _ hT).und
        simp only at hu
        exact ⟨_, h, trivial, fun _ _ w => by simp [eqGuard, binOp, run_eqB hu]⟩
      · cases h
    | _ => simp [evBin] at h
  | string x =>
    cases b with
    | string y =>
      cases op <;> simp only [evBin] at h <;> first
        | (cases h; done)
        | exact ⟨_, h, trivial, fun _ _ w => by simp [eqGuard, binOp, Op.stringOp, strEq, strLt]⟩
    | _ => simp [evBin] at h
  | agg xs =>
    cases b with
    | agg ys =>
      simp only [evBin] at h
      split at h
      · rename_i ks hks
        obtain ⟨hg, he⟩ := H.EQ _ _ hks
        split at h
        · rename_i b op hb
          have := he _ _ _ hb
          exact ⟨_, h, trivial, fun x y w => by
            have e := this w
            have g := run_eqGuard_agg (P := P) w .eql T x y ⟨xs.toList⟩ ⟨ys.toList⟩ hg
            simp only [Array.toArray_toList] at e g
            simp [g, binOp, e]⟩
        · rename_i b op hb
          have := he _ _ _ hb
          exact ⟨_, h, trivial, fun x y w => by
            have e := this w
            have g := run_eqGuard_agg (P := P) w .neq T x y ⟨xs.toList⟩ ⟨ys.toList⟩ hg
            simp only [Array.toArray_toList] at e g
            simp [g, binOp, e]⟩
        · cases h
      · cases h
    | _ => simp [evBin] at h
  | _ => simp [evBin] at h

/-- The parts of a composite, as the model fills them. -/
theorem fill_parts {place : Nat → Option (Nat × Nat)} : ∀ (l : List (Nat × AV)) (cs out : List Value), parts place l cs = some out →
    ∃ xs : List Value, l.map (·.2) = xs.map AV.v ∧ Instr.fill place ⟨cs⟩ ((l.map (·.1)).zip xs) = some ⟨out⟩ ∧ out.length = cs.length ∧ (∀ c ∈ out, c ∈ cs ∨ ∃ x ∈ xs, c ∈ cellsV x ∧ (cellsV x).all oneB = true)
  | [], cs, out, h => by
    simp only [parts, Option.some.injEq] at h
    subst h
    exact ⟨[], rfl, rfl, rfl, fun c hc => .inl hc⟩
  | (i, .v x) :: r, cs, out, h => by
    simp only [parts] at h
    split at h
    · rename_i off size hp
      obtain ⟨hb, h⟩ := bif_some h
      simp only [nbeq, nble, Bool.and_eq_true, decide_eq_true_eq] at hb
      obtain ⟨⟨h1, h2⟩, h0⟩ := hb
      obtain ⟨xs, e1, e2, e3, e4⟩ := fill_parts r _ _ h
      have hlen : (ovw off (cellsV x) cs).length = cs.length := by simp [ovw]; omega
      have hfold : x.cells.zipIdx.foldl (fun cs (c, j) => cs.setIfInBounds (off + j) c) (⟨cs⟩ : Array Value) = ⟨ovw off (cellsV x) cs⟩ := by
        rw [← Array.foldl_toList, Array.toList_zipIdx, cellsV_eq]
        have gen : ∀ (vs : List Value) (j : Nat) (cs : List Value), off + j + vs.length ≤ cs.length →
            (vs.zipIdx j).foldl (fun (cs : Array Value) (p : Value × Nat) => cs.setIfInBounds (off + p.2) p.1) (⟨cs⟩ : Array Value) = ⟨ovw (off + j) vs cs⟩ := by
          intro vs
          induction vs with
          | nil => intro j cs _; simp [ovw]
          | cons v vs ih =>
            intro j cs hj
            simp only [List.length_cons] at hj
            rw [List.zipIdx_cons, List.foldl_cons, ovw_cons _ _ _ _ (by omega)]
            have := ih (j + 1) (cs.set (off + j) v) (by simp; omega)
            simpa [Nat.add_assoc] using this
        exact gen (cellsV x) 0 cs (by omega)
      refine ⟨x :: xs, by simp [e1], ?_, by rw [e3, hlen], ?_⟩
      · have hsz : x.cells.size = size := by rw [← Array.length_toList, cellsV_eq, h1]
        have hle : ¬ (off + x.cells.size > (⟨cs⟩ : Array Value).size) := by simp [hsz]; omega
        simp only [List.map_cons, List.zip_cons_cons, Instr.fill, hp]
        rw [if_neg (by simp [hsz]; omega), hfold]
        exact e2
      · intro c hc
        rcases e4 c hc with h | ⟨y, hy, h⟩
        · rcases mem_ovw h with h | h
          · exact .inr ⟨x, by simp, h, h0⟩
          · exact .inl h
        · exact .inr ⟨y, by simp [hy], h⟩
    · cases h
  | (i, .p _ _) :: r, cs, out, h => by simp [parts] at h
  | (i, .s _ _ _ _) :: r, cs, out, h => by simp [parts] at h

end
end Go.Proofs.YtnfbcofieobkkaaGreatDoor.Ev
