/- What every row of this seat needs: the laid table, arguments of two words, what is behind a call that only lays new blocks. -/
import Derived.Test.YtnfbcofieobkkaaDoorCards
import Derived.Test.YtnfbcofieobkkaaDoorTie
import Derived.Test.YtnfbcofieobkkaaDoorSh
import Derived.Test.YtnfbcofieobkkaaDoorM8
import Derived.ProofKit
import Derived.OpenShut
import Derived.LaidMore
import Derived.Lay
import Derived.SevenTiedAt
import Derived.Stop.Joined
import Derived.Lib.SmallJoins
import Derived.Carry
namespace Go.Proofs.YtnfbcofieobkkaaDoor
open Go Go.Proofs Ev
open Go.Joins Go.ChangeShapes Go.WideShapes Go.ChangeAt Go.RowKit
set_option linter.unusedVariables false
set_option linter.unusedSimpArgs false
set_option maxRecDepth 100000

theorem row_own : ownKnob Tryd.prog.godebug = none := by kernel_rfl

abbrev laidL : List (String × DataW Unit) := [("math/bits.deBruijn64tab", Rows.laid_math_bits_deBruijn64tab)]
theorem laid_is : (Rows.laid_math_bits_deBruijn64tab : DataW Unit) = .agg (Lib.deBruijn64tab.map fun n : Nat => .lit (.int .u8 (n : Int))) := by kernel_rfl

theorem WI_of_laid {W : World} (h : laidMetH Tryd.prog laidL W) : WI W := by
  intro r hr
  rw [MakeChecks.laidMetH_plain _ _ _ (by kernel_rfl)] at h
  obtain ⟨ps, ⟨g, t, cs, fuel, p, q, hg, ht, hv, hd, _, _⟩, _, _⟩ := h
  obtain rfl := Option.some.inj ((show Tryd.prog.globalNamed "math/bits.deBruijn64tab" = some 0 by kernel_rfl).symm.trans hg)
  obtain rfl := Option.some.inj ((show (Tryd.prog.globals[0]?).map (·.type) = some 170 by kernel_rfl).symm.trans ht)
  obtain ⟨xs, m, _, ex, _, hl, hel⟩ := DataW.trod_array Tryd.underlying170 hd
  have c5 : Tryd.prog.cellsOf 5 = 1 := by kernel_rfl
  have hE := hel r hr
  rw [c5, Nat.mul_one, List.getElem?_eq_getElem (by omega)] at hE
  obtain ⟨z, e1, e2, _⟩ := DataW.trod_int Tryd.underlying5 hE
  have hlen : Lib.deBruijn64tab.length = 64 := by kernel_rfl
  rw [laid_is] at ex
  have e3 : (xs.map (·.1)) = Lib.deBruijn64tab.map fun n : Nat => .lit (.int .u8 (n : Int)) := (DataW.agg.inj (Prod.mk.inj ex).1).symm
  have e4 : (xs.map (·.1))[r]? = (Lib.deBruijn64tab.map fun n : Nat => (DataW.lit (.int .u8 (n : Int)) : DataW Unit))[r]? := by rw [e3]
  rw [List.getElem?_map, List.getElem?_map, List.getElem?_eq_getElem (by omega : r < xs.length), List.getElem?_eq_getElem (by omega : r < Lib.deBruijn64tab.length), e2] at e4
  have hz : z = ((Lib.deBruijn64tab.getD r 0 : Nat) : Int) := by
    simp only [Option.map_some, Option.some.injEq, DataW.lit.injEq, Lit.int.injEq, true_and] at e4
    rw [e4, List.getD, List.getElem?_eq_getElem (by omega : r < Lib.deBruijn64tab.length)]; rfl
  rw [World.var?_cell hg hv r, ← hz]
  have : cs.toList[r]? = some (.int .u8 z) := by
    have h0 : ((cs.toList.drop r).take 1)[0]? = some (.int .u8 z) := by rw [e1]; rfl
    simpa using h0
  simpa using this

theorem laid_door {os : Os} (args : Array Value) : laidMetH Tryd.prog laidL ((World.laidAll Tryd.prog os laidL).forCall (fun _ _ => 0) ⟨#[], args, []⟩).memory := by
  rw [MakeChecks.laidMetH_plain _ _ _ (by kernel_rfl)]; exact laidMet_laidAll _ (by kernel_rfl) (by kernel_rfl)

section
variable {H : Type} {enc : TypeId × Value → H} {P : Program}

theorem post_of_below {f : Func} {s : ChangeSpec} {apart fresh handsOn again : Bool} {W W' : World} {args : Array Value} {v : Value} {ds gs : List (DataW H)} {before pa pv : List MemPlace}
    (hW : DataW.Whole enc P f.params.toList s.vars apart W args.toList ds gs before)
    (hres : ∀ (b : Nat) (sp : Nat → Bool) (hd : Bool), DataW.TrodAll enc P W' b sp hd f.resultTypes.toList (v.resultList f.resultTypes.size) (s.fn H (ds ++ gs)).results [])
    (hargs : ∀ sp : Nat → Bool, (∀ p ∈ before, sp p.block = true) → DataW.TrodAll enc P W' 0 sp true f.params.toList args.toList (s.fn H (ds ++ gs)).args pa)
    (hvars : ∀ sp : Nat → Bool, (∀ p ∈ before, sp p.block = true) → DataW.TrodVars enc P W' sp s.vars (s.fn H (ds ++ gs)).vars pv)
    (hps : before = pa ++ pv) (hb : Below W.heap.size W W')
    (hok : ∀ (j : Nat) (t : TypeId) (r : Value), f.resultTypes[j]? = some t → (v.resultList f.resultTypes.size)[j]? = some r → Value.okWide P W' .any 0 t r) :
    s.post enc P f apart fresh handsOn again W args v W' := by
  have hlt : ∀ p ∈ before, p.block < W.heap.size := fun p hp => by simpa using hW.lt p hp
  have hold : ∀ p ∈ before, (fun b => decide (b < W.heap.size)) p.block = true := fun p hp => by simpa using hW.lt p hp
  refine ⟨ds, gs, before, [], pa, pv, hW, hres _ _ _, hargs _ hold, hvars _ hold, World.keptBut_mono (fun p hp => ⟨hp, ?_⟩) (hb.frame (· ∈ before)), fun _ => ?_⟩
  · rw [hps, List.mem_append] at hp
    exact Or.inr hp
  · obtain ⟨_, _, _, _, _, hz, hn⟩ := hW
    refine ⟨hok, _, _, ([] ++ pa) ++ pv, ⟨[] ++ pa, pv, trodAll_append (hargs _ (fun _ _ => rfl)) (hres _ _ _), hvars _ (fun _ _ => rfl), rfl, ?_, ?_⟩, ?_⟩
    · intro b off hp
      have hp' : (⟨b, off, none⟩ : Addr) = ⟨b, off, none⟩ := rfl
      rw [hb.frozen (hlt (.cell b off) (by rw [hps]; simpa using hp))]
      exact hz b off (by rw [hps]; simpa using hp)
    · intro ha
      have := hn ha
      rw [hps] at this
      simpa using this
    · intro p hp _
      rw [hps]
      simpa using hp

/-- An argument of two words. -/
theorem open_bits {w : World} {base : Nat} {spare : Nat → Bool} {held : Bool} {r : Reach} {b0 : Nat} {v : Value} {d : DataW H} {p : List MemPlace}
    (hv : Value.okWide Tryd.prog w r b0 27 v) (h : DataW.Trod enc Tryd.prog w base spare held 27 v d p) :
    ∃ hi lo : Int, v = .agg #[.int .u64 hi, .int .u64 lo] ∧ d = .agg [.lit (.int .u64 hi), .lit (.int .u64 lo)] ∧ p = [] ∧ (Lit.int .u64 hi).wf = true ∧ (Lit.int .u64 lo).wf = true := by
  obtain ⟨v0, v1, y0, y1, n, rfl, rfl, rfl, h0, h1⟩ := open_agg2 Tryd.underlying27 (by kernel_rfl) (by kernel_rfl) hv h
  obtain ⟨a, e1, rfl, wa⟩ := DataW.trod_int Tryd.underlying25 h0
  obtain ⟨b, e2, rfl, wb⟩ := DataW.trod_int Tryd.underlying25 h1
  cases e1
  cases e2
  exact ⟨a, b, rfl, rfl, rfl, wa, wb⟩
theorem shut_bits {w : World} {base : Nat} {spare : Nat → Bool} {held : Bool} {hi lo : Int} (wa : (Lit.int .u64 hi).wf = true) (wb : (Lit.int .u64 lo).wf = true) :
    DataW.Trod enc Tryd.prog w base spare held 27 (.agg #[.int .u64 hi, .int .u64 lo]) (.agg [.lit (.int .u64 hi), .lit (.int .u64 lo)]) [] := by
  refine ⟨2, ?_⟩
  have c : Tryd.prog.cellsOf 25 = 1 := by kernel_rfl
  have := trod_struct2_mk (enc := enc) (P := Tryd.prog) (w := w) (base := base) (spare := spare) (held := held) (n := 1) (cs := [.int .u64 hi, .int .u64 lo]) (y0 := (.lit (.int .u64 hi), [])) (y1 := (.lit (.int .u64 lo), [])) Tryd.underlying27 (by kernel_rfl)
    (by
      show DataW.trod enc Tryd.prog w base spare held 1 25 (([.int .u64 hi, .int .u64 lo] : List Value).take (Tryd.prog.cellsOf 25)) = _
      rw [c]
      exact trod_int_mk 0 Tryd.underlying25 wa)
    (by
      show DataW.trod enc Tryd.prog w base spare held 1 25 (([.int .u64 lo] : List Value).take (Tryd.prog.cellsOf 25)) = _
      rw [c]
      exact trod_int_mk 0 Tryd.underlying25 wb)
  exact this
end

theorem in_u8 {x : Int} (h : (Lit.int .u8 x).wf = true) : ∃ n : Nat, x = (n : Int) ∧ n < 256 := by
  simp [Lit.wf, IntKind.min, IntKind.max, IntKind.bits, IntKind.signed] at h
  exact ⟨x.toNat, by omega, by omega⟩
theorem in_u64 {x : Int} (h : (Lit.int .u64 x).wf = true) : ∃ n : Nat, x = (n : Int) ∧ n < 18446744073709551616 := by
  simp [Lit.wf, IntKind.min, IntKind.max, IntKind.bits, IntKind.signed] at h
  exact ⟨x.toNat, by omega, by omega⟩
theorem in_bits {hi lo : Int} (ha : (Lit.int .u64 hi).wf = true) (hb : (Lit.int .u64 lo).wf = true) : ∃ b : Nat, (⟨hi, lo⟩ : B2) = B2.of b ∧ b < 2 ^ 128 := by
  obtain ⟨x, rfl, hx⟩ := in_u64 ha
  obtain ⟨y, rfl, hy⟩ := in_u64 hb
  refine ⟨18446744073709551616 * x + y, ?_, by omega⟩
  rw [fits_lo (by omega), show (18446744073709551616 * x + y) / 18446744073709551616 = x by omega, show (18446744073709551616 * x + y) % 18446744073709551616 = y by omega]
theorem av_int {k : IntKind} {x : Int} (h : (Lit.int k x).wf = true) : AV.wf (.v (.int k x)) := by
  simp only [Lit.wf, Bool.and_eq_true, decide_eq_true_eq] at h
  exact h
theorem av_bool {b : Bool} : AV.wf (.v (.bool b)) := trivial
theorem av_bits {hi lo : Int} (ha : (Lit.int .u64 hi).wf = true) (hb : (Lit.int .u64 lo).wf = true) : AV.wf (.v (.agg #[.int .u64 hi, .int .u64 lo])) := by
  simp only [Lit.wf, Bool.and_eq_true, decide_eq_true_eq] at ha hb
  intro c hc
  simp only [List.mem_cons, List.not_mem_nil, or_false] at hc
  rcases hc with rfl | rfl
  · exact ha
  · exact hb

end Go.Proofs.YtnfbcofieobkkaaDoor
