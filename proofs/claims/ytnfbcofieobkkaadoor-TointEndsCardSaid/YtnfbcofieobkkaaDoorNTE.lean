/- The ends of the ranges, and whole numbers without one. -/
import Derived.Test.YtnfbcofieobkkaaDoorMT
import Derived.Test.YtnfbcofieobkkaaDoorPL19
namespace Go.Proofs.YtnfbcofieobkkaaDoor
open Go Go.Proofs Ev
set_option linter.unusedVariables false
set_option exponentiation.threshold 512
set_option maxRecDepth 100000
set_option linter.unusedSimpArgs false

theorem whole_agree {f m b : Nat} (hf : f < 256) (hb : b < 2 ^ 128) : ∃ v, toint_Whole.g (f : Int) (m : Int) (B2.of b) = some v ∧ ref19_Whole.g (f : Int) (m : Int) (B2.of b) = some v := by
  unfold ref19_Whole.g
  rw [ref07_Fits_g hb, Option.bind_some, ref07_RightMode_g, Option.bind_some, zeroW]
  by_cases hg : f ≤ 3 ∧ b < 2 ^ wF f
  · obtain ⟨h, hbw⟩ := hg
    rw [decide_eq_true ⟨h, hbw⟩]
    by_cases hm : m ≤ 4
    · rw [decide_eq_true hm, toint_Whole_g h hbw hm]
      have hcl := clsF_le f b
      simp only [Bool.not_true, bF, ref08_IsNaN_g h hbw, ref08_IsInf_g h hbw, ref08_Sign_g h hbw, obind]
      by_cases c8 : 8 ≤ clsF f b
      · rw [decide_eq_true c8, bT, if_pos (by omega)]
        exact ⟨_, rfl, rfl⟩
      · rw [decide_eq_false c8, bF]
        by_cases ci : clsF f b = 0 ∨ clsF f b = 7
        · rw [decide_eq_true ci, bT, if_pos (by omega)]
          exact ⟨_, rfl, rfl⟩
        · rw [decide_eq_false ci, bF, if_neg (by omega), ref19_Rounded_g m h hbw (by omega), obind]
          dsimp only
          have hW := whoF_bl (m := m) (b := b) h
          have hWn : nb (whoF f m b) ≤ 16384 := bl_dvd_nb (by omega)
          rw [ref05_Len_g hWn, obind]
          generalize whoF f m b = W at *
          by_cases hbig : 2 ^ 384 ≤ W
          · have := lt_bl_iff.2 hbig
            rw [if_pos hbig, decide_eq_true (by omega : (384 : Int) < ((bl W : Nat) : Int)), bT]
            exact ⟨_, rfl, rfl⟩
          · have hle : bl W ≤ 384 := bl_le_iff.2 (Nat.lt_of_not_le hbig)
            rw [if_neg hbig, decide_eq_false (by omega : ¬ (384 : Int) < ((bl W : Nat) : Int)), bF, ref05_ToWide_g (bl_dvd_nb (by omega)), obind]
            dsimp only
            rw [emptyS, strEq_sOf]
            cases neF f b
            · rw [bF]
              exact ⟨_, rfl, rfl⟩
            · rw [bT]
              refine ⟨_, rfl, ?_⟩
              by_cases h0 : W = 0 <;> simp [h0]
    · rw [decide_eq_false hm, toint_Whole_no hf hb (fun hc => hm hc.2)]
      exact ⟨_, rfl, rfl⟩
  · rw [decide_eq_false hg, toint_Whole_no hf hb (fun hc => hg hc.1)]
    exact ⟨_, rfl, rfl⟩

theorem ends_agree {k : Nat} (hk : k ≤ 3) : ∃ lo hi : Int, toint_Least.g (k : Int) = some (lo, 0) ∧ toint_Greatest.g (k : Int) = some (hi, 0) ∧ ref19_Least.g (k : Int) = some lo ∧ ref19_Greatest.g (k : Int) = some hi := by
  have hk4 : k = 0 ∨ k = 1 ∨ k = 2 ∨ k = 3 := by omega
  rcases hk4 with rfl | rfl | rfl | rfl
  · exact ⟨18446744071562067968, 2147483647, by kernel_rfl, by kernel_rfl, by kernel_rfl, by kernel_rfl⟩
  · exact ⟨0, 18446744073709551615, by kernel_rfl, by kernel_rfl, by kernel_rfl, by kernel_rfl⟩
  · exact ⟨9223372036854775808, 9223372036854775807, by kernel_rfl, by kernel_rfl, by kernel_rfl, by kernel_rfl⟩
  · exact ⟨0, 18446744073709551615, by kernel_rfl, by kernel_rfl, by kernel_rfl, by kernel_rfl⟩
theorem ends_over {k : Nat} (hk : ¬ k ≤ 3) : toint_Least.g (k : Int) = some (0, 2) ∧ toint_Greatest.g (k : Int) = some (0, 2) := by
  unfold toint_Least.g toint_Greatest.g
  rw [decide_eq_true (by omega : (3 : Int) < (k : Int))]
  exact ⟨rfl, rfl⟩

theorem alive19e : law19_alive.g = some true := by kernel_rfl

theorem plain_TointEnds (k f m b : Nat) (_ : k < 256) (hf : f < 256) (_ : m < 256) (hb : b < 2 ^ 128) : law19_TointEnds.g (k : Int) (f : Int) (m : Int) (B2.of b) = some true := by
  obtain ⟨v, h1, h2⟩ := whole_agree (m := m) hf hb
  unfold law19_TointEnds.g
  rw [h1, h2, alive19e]
  by_cases hk : k ≤ 3
  · obtain ⟨lo, hi, e1, e2, e3, e4⟩ := ends_agree hk
    rw [e1, e2, e3, e4, decide_eq_false (by omega : ¬ (3 : Int) < (k : Int))]
    simp only [obind, beq_self_eq_true, Bool.and_self, Bool.not_true, bT, bF]
  · obtain ⟨e1, e2⟩ := ends_over hk
    rw [e1, e2, decide_eq_true (by omega : (3 : Int) < (k : Int))]
    simp only [obind, beq_self_eq_true, Bool.and_self, Bool.not_true, bT, bF]

end Go.Proofs.YtnfbcofieobkkaaDoor
