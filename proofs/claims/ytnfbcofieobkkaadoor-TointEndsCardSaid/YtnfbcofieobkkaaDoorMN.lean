/- The formats' numbers beyond the four. -/
import Derived.Test.YtnfbcofieobkkaaDoorPS
namespace Go.Proofs.YtnfbcofieobkkaaDoor
open Go Go.Proofs Ev
set_option linter.unusedVariables false
set_option linter.unusedSimpArgs false

noncomputable def numsOk (f : Nat) : Bool := match shape_numbers.g (f : Int) with
  | some (a, b, c, _) => (a == 0) && ((b == 0) && (c == 0))
  | none => false
theorem nums_all : ((List.range 252).all fun i => numsOk (i + 4)) = true := by kernel_rfl
theorem nums_over {f : Nat} (h1 : 3 < f) (h2 : f < 256) : ∃ s, shape_numbers.g (f : Int) = some (0, 0, 0, s) := by
  have := List.all_eq_true.1 nums_all (f - 4) (List.mem_range.2 (by omega))
  rw [show f - 4 + 4 = f by omega] at this
  unfold numsOk at this
  split at this
  · rename_i a b c s hs
    simp only [Bool.and_eq_true, beq_iff_eq] at this
    obtain ⟨rfl, rfl, rfl⟩ := this
    exact ⟨s, hs⟩
  · cases this

end Go.Proofs.YtnfbcofieobkkaaDoor
