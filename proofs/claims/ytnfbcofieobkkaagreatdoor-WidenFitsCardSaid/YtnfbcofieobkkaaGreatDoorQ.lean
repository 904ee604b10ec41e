/- Structs and arrays held against each other, cell by cell. -/
import Derived.Test.YtnfbcofieobkkaaGreatDoorL
import Derived.ChangeKeysEq
namespace Go.Proofs.YtnfbcofieobkkaaGreatDoor.Ev
open Go Go.RowKit
set_option linter.unusedVariables false
set_option linter.unusedSimpArgs false

section
variable {P : Program}

def ckT (P : Program) (t : TypeId) : CK → Prop
  | .i k => P.underlying t = some (.int k)
  | .b => P.underlying t = some .bool
  | .s => P.underlying t = some .string

theorem part_ck {t : TypeId} {c : CK} (h : ckT P t c) {xs : Array Value} {off : Nat} {v : Value} (hx : xs[off]? = some v) (w : World) : (part t xs off).run P w = .ok v w := by
  cases c <;> (simp only [ckT] at h; simp [part, isAgg, run_underlying h, hx])

/-- One cell against one cell. -/
theorem eqCells_cons {c : CK} {ks : List CK} {x y : Value} {xs ys : List Value} {b : Bool} (h : eqCells (c :: ks) (x :: xs) (y :: ys) = some b) :
    ∃ b1 b2 : Bool, eqCells ks xs ys = some b2 ∧ b = (b1 && b2) ∧ ∀ (t : TypeId) (d : Nat) (w : World), ckT P t c → (Op.equalIn (d + 1) t x y).run P w = .ok b1 w := by
  unfold eqCells at h
  split at h
  · rename_i e _; cases e
  · rename_i kk ks' k a r k' a' s e1 e2 e3
    cases e1; cases e2; cases e3
    split at h
    · rename_i b2 hd hb2
      simp only [Bool.and_eq_true, decide_eq_true_eq] at hd
      obtain ⟨rfl, rfl⟩ := hd
      exact ⟨a == a', b2, hb2, (Option.some.inj h).symm, fun t d w ht => run_equalIn_int w d t _ _ a a' ht⟩
    · cases h
  · rename_i ks' a r a' s e1 e2 e3
    cases e1; cases e2; cases e3
    split at h
    · rename_i b2 hb2
      exact ⟨a == a', b2, hb2, (Option.some.inj h).symm, fun t d w ht => run_equalIn_bool w d t a a' ht⟩
    · cases h
  · rename_i ks' a r a' s e1 e2 e3
    cases e1; cases e2; cases e3
    split at h
    · rename_i b2 hb2
      exact ⟨strEq a a', b2, hb2, (Option.some.inj h).symm, fun t d w ht => run_equalIn_string w d t a a' ht⟩
    · cases h
  · cases h

theorem eqCells_shape {c : CK} {ks : List CK} {l m : List Value} {b : Bool} (h : eqCells (c :: ks) l m = some b) : ∃ x xs y ys, l = x :: xs ∧ m = y :: ys := by
  unfold eqCells at h
  split at h
  · rename_i e; cases e
  · exact ⟨_, _, _, _, rfl, rfl⟩
  · exact ⟨_, _, _, _, rfl, rfl⟩
  · exact ⟨_, _, _, _, rfl, rfl⟩
  · cases h

def FM (P : Program) : Nat → List Field → List CK → Prop
  | _, [], [] => True
  | o, f :: fs, c :: ks => f.offset = o ∧ f.name ≠ "_" ∧ ckT P f.type c ∧ FM P (o + 1) fs ks
  | _, _, _ => False

theorem drop_head {l r : List Value} {o : Nat} {x : Value} (h : l.drop o = x :: r) : l[o]? = some x ∧ l.drop (o + 1) = r := by
  constructor
  · have := congrArg (·[0]?) h
    simpa using this
  · rw [← List.tail_drop, h]
    rfl

theorem eqFields_ok (xs ys : List Value) (d : Nat) : ∀ (fs : List Field) (ks : List CK) (o : Nat), FM P o fs ks → ∀ b, eqCells ks (xs.drop o) (ys.drop o) = some b → ∀ w, (Op.eqFields (d + 1) ⟨xs⟩ ⟨ys⟩ fs).run P w = .ok b w
  | [], [], o, _, b, h, w => by
    have : b = true := by
      unfold eqCells at h
      split at h
      · exact (Option.some.inj h).symm
      · rename_i e _ _; cases e
      · rename_i e _ _; cases e
      · rename_i e _ _; cases e
      · cases h
    subst this
    simp [Op.eqFields]
  | [], _ :: _, o, hf, _, _, _ => hf.elim
  | _ :: _, [], o, hf, _, _, _ => hf.elim
  | f :: fs, c :: ks, o, hf, b, h, w => by
    obtain ⟨h1, h2, h3, h4⟩ := hf
    obtain ⟨x, rx, y, ry, ex, ey⟩ := eqCells_shape h
    rw [ex, ey] at h
    obtain ⟨b1, b2, hb2, rfl, hrun⟩ := eqCells_cons (P := P) h
    obtain ⟨gx, tx⟩ := drop_head ex
    obtain ⟨gy, ty⟩ := drop_head ey
    have ih := eqFields_ok xs ys d fs ks (o + 1) h4 b2 (by rw [tx, ty]; exact hb2) w
    have px := part_ck (P := P) h3 (xs := ⟨xs⟩) (off := f.offset) (v := x) (by rw [h1]; simpa using gx) w
    have py := part_ck (P := P) h3 (xs := ⟨ys⟩) (off := f.offset) (v := y) (by rw [h1]; simpa using gy) w
    simp only [Op.eqFields, h2, ne_eq, not_false_eq_true, if_true, Sem.run_bind, px, py, hrun f.type d w h3, Result.andThen_ok]
    cases b1
    · simp
    · simpa using ih

theorem eqItems_ok (xs ys : List Value) (d : Nat) {e : TypeId} {c : CK} (he : ckT P e c) : ∀ (n o : Nat) (b : Bool), eqCells (List.replicate n c) (xs.drop o) (ys.drop o) = some b → ∀ w, (Op.eqItems (d + 1) e 1 ⟨xs⟩ ⟨ys⟩ (List.range' o n)).run P w = .ok b w
  | 0, o, b, h, w => by
    have : b = true := by
      simp only [List.replicate] at h
      unfold eqCells at h
      split at h
      · exact (Option.some.inj h).symm
      · rename_i e _ _; cases e
      · rename_i e _ _; cases e
      · rename_i e _ _; cases e
      · cases h
    subst this
    simp [Op.eqItems]
  | n + 1, o, b, h, w => by
    rw [List.replicate_succ] at h
    obtain ⟨x, rx, y, ry, ex, ey⟩ := eqCells_shape h
    rw [ex, ey] at h
    obtain ⟨b1, b2, hb2, rfl, hrun⟩ := eqCells_cons (P := P) h
    obtain ⟨gx, tx⟩ := drop_head ex
    obtain ⟨gy, ty⟩ := drop_head ey
    have ih := eqItems_ok xs ys d he n (o + 1) b2 (by rw [tx, ty]; exact hb2) w
    have px := part_ck (P := P) he (xs := ⟨xs⟩) (off := o) (v := x) (by simpa using gx) w
    have py := part_ck (P := P) he (xs := ⟨ys⟩) (off := o) (v := y) (by simpa using gy) w
    rw [List.range'_succ]
    simp only [Op.eqItems, Nat.mul_one, Sem.run_bind, px, py, hrun e d w he, Result.andThen_ok]
    cases b1
    · simp
    · simpa using ih

/-- What the table of types that are held against each other must say. -/
def EqOk (P : Program) (t : TypeId) (ks : List CK) : Prop := P.eqGuardType P.depth t = false ∧ ∀ xs ys b, eqCells ks xs ys = some b → ∀ w, (Op.equal t (.agg ⟨xs⟩) (.agg ⟨ys⟩)).run P w = .ok b w

theorem FM.nil {o : Nat} : FM P o [] [] := trivial
theorem FM.cons {o : Nat} {f : Field} {fs : List Field} {c : CK} {ks : List CK} (h1 : f.offset = o) (h2 : f.name ≠ "_") (h3 : ckT P f.type c) (h4 : FM P (o + 1) fs ks) : FM P o (f :: fs) (c :: ks) := ⟨h1, h2, h3, h4⟩

theorem EqOk.struct {t : TypeId} {ks : List CK} {flds : List Field} (hg : P.eqGuardType P.depth t = false) (hu : P.underlying t = some (.struct ⟨flds⟩)) (hp : P.stoodInHeld t = false) (hf : FM P 0 flds ks) : EqOk P t ks :=
  ⟨hg, fun xs ys b h w => by
    have e : P.fieldsOf t = ⟨flds⟩ := by simp [Program.fieldsOf, hu]
    unfold Op.equal Op.maxDepth
    rw [run_equalIn_struct w 9999 t _ _ (by rw [e]; exact hu) hp, e]
    exact eqFields_ok xs ys 9998 _ ks 0 hf b (by simpa using h) w⟩

theorem EqOk.array {t e : TypeId} {n : Nat} {c : CK} {i : TypeInfo} (hg : P.eqGuardType P.depth t = false) (hu : P.underlying t = some (.array n e)) (hi : P.info? e = some i) (hc : P.cellsOf e = 1) (he : ckT P e c) : EqOk P t (List.replicate n c) :=
  ⟨hg, fun xs ys b h w => by
    unfold Op.equal Op.maxDepth
    rw [run_equalIn_array w 9999 _ _ hu hi, hc, List.range_eq_range']
    exact eqItems_ok xs ys 9998 he n 0 b (by simpa using h) w⟩

inductive EqsOk (P : Program) : List (Nat × List CK) → Prop
  | nil : EqsOk P []
  | cons {t : TypeId} {ks : List CK} {l : List (Nat × List CK)} (h : EqOk P t ks) (hl : EqsOk P l) : EqsOk P ((t, ks) :: l)

theorem EqsOk.get {P : Program} : ∀ {l : List (Nat × List CK)}, EqsOk P l → ∀ t ks, lk t l = some ks → EqOk P t ks
  | _, .nil, t, ks, h => by simp [lk_nil] at h
  | _, .cons h hl, t, ks, hc => by
    rw [lk_cons] at hc
    split at hc
    · rename_i e; subst e; cases hc; exact h
    · exact hl.get t ks hc

end
end Go.Proofs.YtnfbcofieobkkaaGreatDoor.Ev
