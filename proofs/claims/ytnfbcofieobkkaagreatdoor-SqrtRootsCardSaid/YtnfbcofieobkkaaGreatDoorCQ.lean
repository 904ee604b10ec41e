/- What sqrt's helpers say. -/
import Derived.Test.YtnfbcofieobkkaaGreatDoorM15
import Derived.Test.YtnfbcofieobkkaaGreatDoorPQ
namespace Go.Proofs.YtnfbcofieobkkaaGreatDoor
open Go Go.Proofs Ev
set_option linter.unusedVariables false
set_option maxRecDepth 100000
set_option linter.unusedSimpArgs false


theorem sqrt_nan_g (f b : Nat) : sqrt_nan.g (ptsF f b) = some (decide (8 ≤ clsF f b)) := by
  unfold sqrt_nan.g
  rw [ptsF_cls]
  exact congrArg some (decide_eq_decide.2 (by omega))
theorem sqrt_below_g (f b : Nat) : sqrt_below.g (ptsF f b) = some (decide (clsF f b < 4)) := by
  unfold sqrt_below.g
  rw [ptsF_cls]
  exact congrArg some (decide_eq_decide.2 (by omega))
theorem sqrt_inf_g (f b : Nat) : sqrt_inf.g (ptsF f b) = some (decide (clsF f b = 0 ∨ clsF f b = 7)) := by
  unfold sqrt_inf.g
  rw [ptsF_cls, show (((clsF f b : Nat) : Int) == 0) = decide (clsF f b = 0) from beqN _ 0, show (((clsF f b : Nat) : Int) == 7) = decide (clsF f b = 7) from beqN _ 7]
  by_cases h : clsF f b = 0 <;> simp [h]
theorem sqrt_nought_g (f b : Nat) : sqrt_nought.g (ptsF f b) = some (decide (clsF f b = 3 ∨ clsF f b = 4)) := by
  unfold sqrt_nought.g
  rw [ptsF_cls, show (((clsF f b : Nat) : Int) == 3) = decide (clsF f b = 3) from beqN _ 3, show (((clsF f b : Nat) : Int) == 4) = decide (clsF f b = 4) from beqN _ 4]
  by_cases h : clsF f b = 3 <;> simp [h]

theorem sqrt_open_1_ok {f m a : Nat} (h : f ≤ 3) (hm : m ≤ 4) (ha : a < 2 ^ wF f) : sqrt_open_1.g (f : Int) (m : Int) (B2.of a) = some (⟨ptsF f a, ⟨0, W6.of 0, 0, W6.of 0⟩, ⟨0, W6.of 0, 0, W6.of 0⟩⟩, true) := by
  unfold sqrt_open_1.g
  simp only [shape_CheckMode_g, if_pos hm, shape_Check_g, if_pos h, kind_Unpack_g h ha, obind, beq_self_eq_true, Bool.not_true, bF, zeroPts]
theorem sqrt_open_1_bad {f m a : Nat} (hf : f < 256) (ha : a < 2 ^ 128) (hg : ¬ ((f ≤ 3 ∧ m ≤ 4) ∧ a < 2 ^ wF f)) : ∃ q, sqrt_open_1.g (f : Int) (m : Int) (B2.of a) = some (q, false) := by
  unfold sqrt_open_1.g
  have z : (!((2 : Int) == 0)) = true := rfl
  by_cases hm : m ≤ 4
  · by_cases h : f ≤ 3
    · by_cases ga : a < 2 ^ wF f
      · exact absurd ⟨⟨h, hm⟩, ga⟩ hg
      · simp only [shape_CheckMode_g, if_pos hm, shape_Check_g, if_pos h, kind_Unpack_no hf ha (show ¬ (f ≤ 3 ∧ a < 2 ^ wF f) from fun q => ga q.2), obind, beq_self_eq_true, Bool.not_true, bF, bT, z]
        exact ⟨_, rfl⟩
    · simp only [shape_CheckMode_g, if_pos hm, shape_Check_g, if_neg h, obind, beq_self_eq_true, Bool.not_true, bF, bT, z]
      exact ⟨_, rfl⟩
  · simp only [shape_CheckMode_g, if_neg hm, obind, bT, z]
    exact ⟨_, rfl⟩
theorem sqrt_canonical_1_g {f : Nat} (a : Nat) (h : f ≤ 3) : sqrt_canonical_1.g (f : Int) (ptsF f a) = some (B2.of (nanN f), if clsF f a = 8 then 16 else 0, 0) := by
  unfold sqrt_canonical_1.g
  have B : ∀ x, (((clsF f x : Nat) : Int) == 8) = decide (clsF f x = 8) := fun x => beqN _ 8
  simp only [ptsF_cls, B, shape_NaN_g h, obind]
  by_cases ga : clsF f a = 8 <;> simp [ga]

end Go.Proofs.YtnfbcofieobkkaaGreatDoor
