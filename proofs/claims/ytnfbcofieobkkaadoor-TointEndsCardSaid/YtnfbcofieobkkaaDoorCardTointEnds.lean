/- It is proved that for every input the law TointEnds (the ends of the ranges, and whole numbers without one) returns true and leaves its arguments as they were: the tied card, out of the row. Conditions: the card's own (the table of math/bits is laid as the program's text lays it). -/
import Derived.Test.YtnfbcofieobkkaaDoorRowTointEnds
namespace Go.Proofs.YtnfbcofieobkkaaDoor
open Go Go.Proofs Ev
set_option linter.unusedVariables false
set_option linter.unusedSimpArgs false

/-- The tied card. -/
theorem tointEnds_card : Rows.TointEndsCardSaid :=
  Claim7.holds_tied_plain_at .later [] [.data] true (true, "7538b876b738700373a4dbc6cba475f7399fdcb591eca834415d3e9aa9833d2b") false
    tointEnds_holds (fun _ h => by cases h) (by kernel_rfl) (fun _ h => by cases h) tointEnds_row_tie rfl ⟨rfl, rfl⟩ (by kernel_rfl) rfl
    (fun f fn hf hfn => by
      obtain rfl : f = 3 := Option.some.inj ((show Tryd.prog.funcNamed "abacus/abacuslaw19.TointEnds" = some 3 by kernel_rfl).symm.trans hf) |>.symm
      obtain rfl : fn = Tryd.f3 := (Option.some.inj (Tryd.func3.symm.trans hfn)).symm
      exact ⟨by kernel_rfl, fun j t ht => by
        rw [Tryd.params3] at ht
        have hm : t ∈ [22, 23, 24, 27] := by simpa using Array.mem_of_getElem? ht
        have hall : ([22, 23, 24, 27].all fun u => !Tryd.prog.wantsStandIn u) = true := by kernel_rfl
        exact (show Tryd.prog.wantsStandIn t = false by simpa using List.all_eq_true.1 hall t hm)⟩)
    (by kernel_rfl)
#print axioms tointEnds_card
end Go.Proofs.YtnfbcofieobkkaaDoor
