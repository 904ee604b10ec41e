/- It is proved that for every input the law AddSums (the sum and the difference of any bits, by any format and mode) returns true and leaves its arguments as they were: the tied card, out of the row. Conditions: the card's own (the table of math/bits is laid as the program's text lays it). -/
import Derived.Test.YtnfbcofieobkkaaGreatDoorRowAddSums
namespace Go.Proofs.YtnfbcofieobkkaaGreatDoor
open Go Go.Proofs Ev
set_option linter.unusedVariables false
set_option linter.unusedSimpArgs false

/-- The tied card. -/
theorem addSums_card : Rows.AddSumsCardSaid :=
  Claim7.holds_tied_plain_at .later [] [.data] true (true, "2ea1e842a6731150241f92f29044c42f109f0cf7f8a785df9739fa05d4083acc") false
    addSums_holds (fun _ h => by cases h) (by kernel_rfl) (fun _ h => by cases h) addSums_row_tie rfl ⟨rfl, rfl⟩ (by kernel_rfl) rfl
    (fun f fn hf hfn => by
      obtain rfl : f = 11 := Option.some.inj ((show Tryz.prog.funcNamed "abacus/abacuslaw11.AddSums" = some 11 by kernel_rfl).symm.trans hf) |>.symm
      obtain rfl : fn = Tryz.f11 := (Option.some.inj (Tryz.func11.symm.trans hfn)).symm
      exact ⟨by kernel_rfl, fun j t ht => by
        rw [Tryz.params11] at ht
        have hm : t ∈ [23, 24, 27, 27] := by simpa using Array.mem_of_getElem? ht
        have hall : ([23, 24, 27, 27].all fun u => !Tryz.prog.wantsStandIn u) = true := by kernel_rfl
        exact (show Tryz.prog.wantsStandIn t = false by simpa using List.all_eq_true.1 hall t hm)⟩)
    (by kernel_rfl)
#print axioms addSums_card
end Go.Proofs.YtnfbcofieobkkaaGreatDoor
