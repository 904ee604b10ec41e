/- The evaluator is sound, first part: single operations. -/
import Derived.Test.YtnfbcofieobkkaaGreatDoorEv
import Derived.Below
import Derived.Lib.TrailingZeros
namespace Go.Proofs.YtnfbcofieobkkaaGreatDoor.Ev
open Go Go.RowKit
set_option linter.unusedVariables false
set_option linter.unusedSimpArgs false

/-- The library's one table stands in its variable, which is the first one. -/
def WI (w : World) : Prop := ∀ j : Nat, j < 64 → w.cell? ⟨0, j, none⟩ = some (.int .u8 (Lib.deBruijn64tab.getD j 0 : Nat))

theorem WI.below {w w' : World} (h : WI w) (hb : Below w.heap.size w w') : WI w' := by
  intro j hj
  rw [hb.cell (p := ⟨0, j, none⟩) ?_]
  · exact h j hj
  · rcases Nat.lt_or_ge 0 w.heap.size with hlt | hge
    · exact hlt
    · have := h j hj
      unfold World.cell? at this
      rw [Array.getElem?_eq_none hge] at this
      cases this

def conc (ρ : Nat → Nat) : AV → Value
  | .v x => x
  | .p l o => .pointer (some ⟨ρ l, o, none⟩)
  | .s l o n c => .slice (some ⟨ρ l, o, none⟩) n c

def wf0 : Value → Prop
  | .int k n => k.min ≤ n ∧ n ≤ k.max
  | .string s => s.size ≤ 9223372036854775807
  | .slice _ n _ => n ≤ 9223372036854775807
  | .agg _ => False
  | .tuple _ => False
  | _ => True

def wf1 : Value → Prop
  | .agg cs => ∀ c ∈ cs.toList, wf0 c
  | x => wf0 x

def wf2 : Value → Prop
  | .tuple vs => ∀ v ∈ vs.toList, wf1 v
  | x => wf1 x

def AV.wf : AV → Prop
  | .v x => wf2 x
  | .p _ _ => True
  | .s _ _ n c => n ≤ 9223372036854775807 ∧ c ≤ 9223372036854775807

theorem wf1_of_wf0 {x : Value} (h : wf0 x) : wf1 x := by cases x <;> first | exact h | exact h.elim
theorem wf2_of_wf1 {x : Value} (h : wf1 x) : wf2 x := by cases x <;> first | exact h | exact h.elim
theorem wf2_of_wf0 {x : Value} (h : wf0 x) : wf2 x := wf2_of_wf1 (wf1_of_wf0 h)

theorem wrap_bounds (k : IntKind) (n : Int) : k.min ≤ k.wrap n ∧ k.wrap n ≤ k.max := by
  cases k <;> simp [IntKind.wrap, IntKind.min, IntKind.max, IntKind.bits, IntKind.signed] <;> (try split) <;> omega

theorem wf_wrap (k : IntKind) (n : Int) : wf0 (.int k (k.wrap n)) := wrap_bounds k n

theorem wfB_wf0 {c : Value} (h : wfB c = true) : wf0 c := by
  match c, h with
  | .int k n, h => simpa [wfB, wf0] using h
  | .bool _, _ => trivial
  | .string s, h => simpa [wfB, wf0, Nat.ble_eq] using h
  | .slice none n c, h => simpa [wfB, wf0, Nat.ble_eq] using h
  | .func _ _ _, _ => trivial
  | .nilFunc, _ => trivial

theorem nbeq (a b : Nat) : Nat.beq a b = decide (a = b) := by
  cases h : Nat.beq a b with
  | true => simp [Nat.eq_of_beq_eq_true h]
  | false => simp [Nat.ne_of_beq_eq_false h]

theorem nble (a b : Nat) : Nat.ble a b = decide (a ≤ b) := by
  cases h : Nat.ble a b with
  | true => simp [Nat.le_of_ble_eq_true h]
  | false =>
    have : ¬ a ≤ b := fun e => by rw [Nat.ble_eq_true_of_le e] at h; cases h
    simp [this]

theorem nblt (a b : Nat) : Nat.blt a b = decide (a < b) := by
  unfold Nat.blt
  rw [nble]
  rfl

theorem lk_nil {α : Type} (t : Nat) : lk t ([] : List (Nat × α)) = none := rfl
theorem lk_cons {α : Type} (t u : Nat) (a : α) (l : List (Nat × α)) : lk t ((u, a) :: l) = if t = u then some a else lk t l := by
  simp only [lk, nbeq]
  by_cases h : t = u <;> simp [h]

theorem lk_pt {α : Type} (t u : Nat) (a : α) : ∀ l : List (Nat × α), lk t (pt u a l) = if t = u then some a else lk t l
  | [] => lk_cons t u a []
  | (v, b) :: l => by
    simp only [pt, nbeq]
    by_cases h : u = v
    · subst h
      simp only [decide_true, cond_true, lk_cons]
      by_cases h2 : t = u <;> simp [h2]
    · simp only [h, decide_false, cond_false, lk_cons, lk_pt t u a l]
      by_cases h2 : t = v
      · subst h2
        have : t ≠ u := fun e => h e.symm
        simp [this]
      · simp [h2]

/-- What an operand is. -/
def Opd (get : Nat → Option AV) : Operand → AV → Prop
  | .tmp t, av => get t = some av
  | .const c, av => av = .v c ∧ wf0 c
  | .func f, av => av = .v (.func (.func f) #[] #[])
  | .global _, _ => False

section
variable {R : Type} {get : Nat → Option AV} {r : R}

theorem getO_some {x : Operand} {k : AV → Option R} (h : getO get x k = some r) : ∃ av, Opd get x av ∧ k av = some r := by
  cases x with
  | tmp t =>
    simp only [getO] at h
    split at h
    · rename_i a ha; exact ⟨a, ha, h⟩
    · cases h
  | const c =>
    simp only [getO] at h
    cases hc : wfB c with
    | false => simp [hc] at h
    | true => simp [hc] at h; exact ⟨_, ⟨rfl, wfB_wf0 hc⟩, h⟩
  | func f => exact ⟨_, rfl, h⟩
  | global g => simp [getO] at h

theorem getOs_some : ∀ {xs : List Operand} {k : List AV → Option R}, getOs get k xs = some r → ∃ avs, avs.length = xs.length ∧ (∀ p ∈ xs.zip avs, Opd get p.1 p.2) ∧ k avs = some r
  | [], k, h => ⟨[], rfl, by simp, h⟩
  | x :: xs, k, h => by
    simp only [getOs] at h
    obtain ⟨a, ha, h⟩ := getO_some h
    obtain ⟨l, hl, hz, h⟩ := getOs_some h
    refine ⟨a :: l, by simp [hl], ?_, h⟩
    intro p hp
    simp only [List.zip_cons_cons, List.mem_cons] at hp
    rcases hp with rfl | hp
    · exact ha
    · exact hz p hp
end

/-- The slots that an operation's operands name. -/
def tmpsOf (o : Oper) : List Nat := o.op.operands.toList.filterMap fun | .tmp t => some t | _ => none

/-- The slots hold what the abstract ones say. -/
def Agr (get : Nat → Option AV) (ρ : Nat → Nat) (a : Act) (o : Oper) : Prop := ∀ t ∈ tmpsOf o, ∀ av, get t = some av → a.tmps.getD t undef = conc ρ av

theorem mem_tmpsOf {o : Oper} {t : Nat} (h : .tmp t ∈ o.op.operands.toList) : t ∈ tmpsOf o := List.mem_filterMap.2 ⟨.tmp t, h, rfl⟩

theorem Agr.eval {get : Nat → Option AV} {ρ : Nat → Nat} {a : Act} {o : Oper} (hA : Agr get ρ a o) {x : Operand} {av : AV} (hx : x ∈ o.op.operands.toList) (h : Opd get x av) : a.eval x = conc ρ av := by
  cases x with
  | tmp t => exact hA t (mem_tmpsOf hx) av h
  | const c => obtain ⟨rfl, _⟩ := h; rfl
  | func f => cases h; rfl
  | global g => exact h.elim

/-- A block is as the abstract memory says. -/
def MAgr (mem : Nat → Option Bk) (ρ : Nat → Nat) (w : World) (l : Nat) : Prop :=
  ∀ bk, mem l = some bk → ∃ fr, w.heap[ρ l]? = some (.cells ⟨bk.b.cells⟩ bk.ty fr) ∧ (bk.own = true → fr = (0, 0))

def eLab : Eff → List Nat
  | .val _ a => lab a
  | _ => []

/-- The operation has this effect. -/
def EffOK (P : Program) (get : Nat → Option AV) (mem : Nat → Option Bk) (o : Oper) : Eff → Prop
  | .val ls av => ∀ ρ a w, WI w → Agr get ρ a o → (∀ l ∈ ls, MAgr mem ρ w l) → ∀ K Q, (∀ w', Below w.heap.size w w' → K (a.put o.dst (conc ρ av)) w') → o.wp P a w K Q
  | .wr l b => (∃ bk, mem l = some bk ∧ bk.own = true) ∧ ∀ ρ a w, Agr get ρ a o → MAgr mem ρ w l → ∀ K Q, K (a.put o.dst undef) (w.setRow (ρ l) ⟨b.cells⟩) → o.wp P a w K Q
  | .nw T b sl n => ∀ ρ a w, Agr get ρ a o → ∀ K Q,
      K (a.put o.dst (bif sl then .slice (some ⟨w.heap.size, 0, none⟩) n n else .pointer (some ⟨w.heap.size, 0, none⟩))) (w.alloc (.cells ⟨b.cells⟩ T)) → o.wp P a w K Q

def Eff.wf : Eff → Prop
  | .val _ a => a.wf
  | .wr _ b => ∀ c ∈ b.cells, wf0 c
  | .nw _ b _ n => (∀ c ∈ b.cells, wf0 c) ∧ n ≤ 9223372036854775807

/-- What the evaluation of an operation tells. -/
def Told (P : Program) (get : Nat → Option AV) (mem : Nat → Option Bk) (o : Oper) (e : Eff) : Prop :=
  EffOK P get mem o e ∧ e.wf ∧ ∀ l ∈ Eff.acc (some e) ++ eLab e, ∃ t ∈ tmpsOf o, ∃ av, get t = some av ∧ l ∈ lab av

/-- The types are as the table says. -/
structure TIok (P : Program) (t : TypeId) (i : TI) : Prop where
  und : match i.k with
    | .int k => P.underlying t = some (.int k)
    | .bool => P.underlying t = some .bool
    | .str => P.underlying t = some .string
    | .slice e => P.underlying t = some (.slice e)
    | .arr n e => P.underlying t = some (.array n e)
    | .struct fs => ∃ flds : Array Field, P.underlying t = some (.struct flds) ∧ flds.toList.map (fun f => (f.offset, f.type)) = fs ∧ ∀ f ∈ flds.toList, (P.info? f.type).isSome = true
    | .fn => ∃ d : Array TypeId × Array TypeId × Bool, P.underlying t = some (.func d.1 d.2.1 d.2.2)
    | .other => False
  inf : ∃ inf, P.info? t = some inf ∧ inf.size = i.size ∧ inf.bytes = i.bytes ∧ inf.zero = some (bif i.agg then .agg ⟨i.zero⟩ else (i.zero.headD undef))
  zl : i.zero.length = i.size
  z1 : i.agg = false → i.size = 1
  zw : ∀ c ∈ i.zero, wf0 c

/-- A call keeps what its contract says. -/
structure CTok (P : Program) (g : FuncId) (ct : CT) : Prop where
  enter : ∀ args w, (callFunc g args).run P w = .ok (.enter g args) w
  calls : ∀ (R : Type) args mem (k : Value → Option R) r, ct R args mem k = some r → (∀ a ∈ args, a.wf) → (∀ l bk, mem l = some bk → ∀ c ∈ bk.b.cells, wf0 c) →
    ∃ v, k v = some r ∧ wf2 v ∧ ∀ ρ w, WI w → (∀ a ∈ args, ∀ l ∈ lab a, MAgr mem ρ w l) →
      Calls P g (args.map (conc ρ)).toArray w fun e w' => e = .returned v ∧ Below w.heap.size w w'

structure CfgOk (P : Program) (cfg : Cfg) : Prop where
  T : ∀ t i, lk t cfg.T = some i → TIok P t i
  EQ : ∀ t ks, lk t cfg.EQ = some ks → P.eqGuardType P.depth t = false ∧ ∀ xs ys b, eqCells ks xs ys = some b → ∀ w, (Op.equal t (.agg ⟨xs⟩) (.agg ⟨ys⟩)).run P w = .ok b w
  C : ∀ g ct, lkC g cfg.C = some ct → CTok P g ct

end Go.Proofs.YtnfbcofieobkkaaGreatDoor.Ev
