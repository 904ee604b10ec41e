/- What add's helpers say. -/
import Derived.Test.YtnfbcofieobkkaaGreatDoorM15
import Derived.Test.YtnfbcofieobkkaaGreatDoorPA
namespace Go.Proofs.YtnfbcofieobkkaaGreatDoor
open Go Go.Proofs Ev
set_option linter.unusedVariables false
set_option maxRecDepth 100000
set_option linter.unusedSimpArgs false


theorem add_nan_g (f b : Nat) : add_nan.g (ptsF f b) = some (decide (8 ≤ clsF f b)) := by
  unfold add_nan.g
  rw [ptsF_cls]
  exact congrArg some (decide_eq_decide.2 (by omega))
theorem add_below_g (f b : Nat) : add_below.g (ptsF f b) = some (decide (clsF f b < 4)) := by
  unfold add_below.g
  rw [ptsF_cls]
  exact congrArg some (decide_eq_decide.2 (by omega))
theorem add_inf_g (f b : Nat) : add_inf.g (ptsF f b) = some (decide (clsF f b = 0 ∨ clsF f b = 7)) := by
  unfold add_inf.g
  rw [ptsF_cls, show (((clsF f b : Nat) : Int) == 0) = decide (clsF f b = 0) from beqN _ 0, show (((clsF f b : Nat) : Int) == 7) = decide (clsF f b = 7) from beqN _ 7]
  by_cases h : clsF f b = 0 <;> simp [h]
theorem add_nought_g (f b : Nat) : add_nought.g (ptsF f b) = some (decide (clsF f b = 3 ∨ clsF f b = 4)) := by
  unfold add_nought.g
  rw [ptsF_cls, show (((clsF f b : Nat) : Int) == 3) = decide (clsF f b = 3) from beqN _ 3, show (((clsF f b : Nat) : Int) == 4) = decide (clsF f b = 4) from beqN _ 4]
  by_cases h : clsF f b = 3 <;> simp [h]

theorem add_open_2_ok {f m a b : Nat} (h : f ≤ 3) (hm : m ≤ 4) (ha : a < 2 ^ wF f) (hb : b < 2 ^ wF f) : add_open_2.g (f : Int) (m : Int) (B2.of a, B2.of b) = some (⟨ptsF f a, ptsF f b, ⟨0, W6.of 0, 0, W6.of 0⟩⟩, true) := by
  unfold add_open_2.g
  simp only [shape_CheckMode_g, if_pos hm, shape_Check_g, if_pos h, kind_Unpack_g h ha, kind_Unpack_g h hb, obind, beq_self_eq_true, Bool.not_true, bF, zeroPts]
theorem add_open_2_bad {f m a b : Nat} (hf : f < 256) (ha : a < 2 ^ 128) (hb : b < 2 ^ 128) (hg : ¬ ((f ≤ 3 ∧ m ≤ 4) ∧ a < 2 ^ wF f ∧ b < 2 ^ wF f)) : ∃ q, add_open_2.g (f : Int) (m : Int) (B2.of a, B2.of b) = some (q, false) := by
  unfold add_open_2.g
  have z : (!((2 : Int) == 0)) = true := rfl
  by_cases hm : m ≤ 4
  · by_cases h : f ≤ 3
    · by_cases ga : a < 2 ^ wF f
      · by_cases gb : b < 2 ^ wF f
        · exact absurd ⟨⟨h, hm⟩, ga, gb⟩ hg
        · simp only [shape_CheckMode_g, if_pos hm, shape_Check_g, if_pos h, kind_Unpack_g h ga, kind_Unpack_no hf hb (show ¬ (f ≤ 3 ∧ b < 2 ^ wF f) from fun q => gb q.2), obind, beq_self_eq_true, Bool.not_true, bF, bT, z]
          exact ⟨_, rfl⟩
      · simp only [shape_CheckMode_g, if_pos hm, shape_Check_g, if_pos h, kind_Unpack_no hf ha (show ¬ (f ≤ 3 ∧ a < 2 ^ wF f) from fun q => ga q.2), obind, beq_self_eq_true, Bool.not_true, bF, bT, z]
        exact ⟨_, rfl⟩
    · simp only [shape_CheckMode_g, if_pos hm, shape_Check_g, if_neg h, obind, beq_self_eq_true, Bool.not_true, bF, bT, z]
      exact ⟨_, rfl⟩
  · simp only [shape_CheckMode_g, if_neg hm, obind, bT, z]
    exact ⟨_, rfl⟩
theorem add_canonical_2_g {f : Nat} (a b : Nat) (h : f ≤ 3) : add_canonical_2.g (f : Int) (ptsF f a, ptsF f b) = some (B2.of (nanN f), if clsF f a = 8 ∨ clsF f b = 8 then 16 else 0, 0) := by
  unfold add_canonical_2.g
  have B : ∀ x, (((clsF f x : Nat) : Int) == 8) = decide (clsF f x = 8) := fun x => beqN _ 8
  simp only [ptsF_cls, B, shape_NaN_g h, obind]
  by_cases ga : clsF f a = 8 <;> by_cases gb : clsF f b = 8 <;> simp [ga, gb]

end Go.Proofs.YtnfbcofieobkkaaGreatDoor
