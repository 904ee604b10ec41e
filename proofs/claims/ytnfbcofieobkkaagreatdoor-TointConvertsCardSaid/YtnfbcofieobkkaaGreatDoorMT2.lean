/- The law of numbers as whole ones. -/
import Derived.Test.YtnfbcofieobkkaaGreatDoorMT
import Derived.Test.YtnfbcofieobkkaaGreatDoorPL19
namespace Go.Proofs.YtnfbcofieobkkaaGreatDoor
open Go Go.Proofs Ev
set_option linter.unusedVariables false
set_option exponentiation.threshold 512
set_option linter.unusedSimpArgs false

theorem cmp_pos (a b : Nat) : decide ((0 : Int) < cmpN a b) = decide (b < a) := by
  unfold cmpN
  rcases Nat.lt_trichotomy a b with h | h | h
  · rw [if_pos h, decide_eq_false (by omega : ¬ b < a)]; rfl
  · subst h; rw [if_neg (Nat.lt_irrefl _), if_neg (Nat.lt_irrefl _), decide_eq_false (Nat.lt_irrefl _)]; rfl
  · rw [if_neg (by omega), if_pos h, decide_eq_true h]; rfl
theorem wd_small {n : Nat} (h : n < 18446744073709551616) : (W6.of n).w0 = ((n : Nat) : Int) := by
  rw [of_w0]
  unfold wd
  rw [Nat.mul_zero, Nat.pow_zero, Nat.div_one, Nat.mod_eq_of_lt h]

/-- One kind: its ends, and its words. -/
theorem conv_kind (k : Nat) (hk : k ≤ 3) {lo hi : Nat} {L G : Int} (hlo : lo < 18446744073709551616) (hhi : hi < 18446744073709551616) (he1 : toint_ends.g (k : Int) = some ((lo : Int), (hi : Int))) (he2 : ref19_ends.g (k : Int) = some ((lo : Int), (hi : Int)))
    (hL1 : toint_told.g (k : Int) true (lo : Int) = some L) (hG1 : toint_told.g (k : Int) false (hi : Int) = some G) (hL2 : ref19_Least.g (k : Int) = some L) (hG2 : ref19_Greatest.g (k : Int) = some G)
    {f m b : Nat} (hf : f < 256) (hb : b < 2 ^ 128) : ∃ v, toint_Convert.g (k : Int) (f : Int) (m : Int) (B2.of b) = some v ∧ ref19_Convert.g (k : Int) (f : Int) (m : Int) (B2.of b) = some v := by
  unfold toint_Convert.g ref19_Convert.g
  rw [decide_eq_false (by omega : ¬ (3 : Int) < (k : Int)), cond_false, cond_false, ref07_Fits_g hb, Option.bind_some]
  by_cases hfit : f ≤ 3 ∧ b < 2 ^ wF f
  · obtain ⟨h, hbw⟩ := hfit
    rw [decide_eq_true ⟨h, hbw⟩, Bool.not_true, cond_false, ref07_RightMode_g, Option.bind_some]
    by_cases hm : m ≤ 4
    · rw [decide_eq_true hm, Bool.not_true, cond_false, ref08_Sign_g h hbw, Option.bind_some, ref08_IsNaN_g h hbw, Option.bind_some, toint_Whole_g h hbw hm, Option.bind_some, he1, Option.bind_some]
      have hc9 := clsF_le f b
      by_cases hnum : clsF f b = 0 ∨ 7 ≤ clsF f b
      · rw [if_pos hnum]
        simp only [kind_Class_g (show f < 256 from hf) hb, if_pos (And.intro h hbw), Option.bind_some, hL1, hG1, hL2, hG2, ref08_IsInf_g h hbw, show ((80 : Int) == 2) = false from rfl, show ((80 : Int) == 0) = false from rfl, cond_false]
        by_cases c8 : 8 ≤ clsF f b
        · rw [decide_eq_true c8, decide_eq_false (by omega : ¬ ((clsF f b : Nat) : Int) < 4)]
          exact ⟨_, rfl, rfl⟩
        · rw [decide_eq_false c8, decide_eq_true (by omega : clsF f b = 0 ∨ clsF f b = 7), neF_cls (by omega)]
          by_cases c4 : clsF f b < 4
          · rw [decide_eq_true c4, decide_eq_true (by omega : ((clsF f b : Nat) : Int) < 4)]
            exact ⟨_, rfl, rfl⟩
          · rw [decide_eq_false c4, decide_eq_false (by omega : ¬ ((clsF f b : Nat) : Int) < 4)]
            exact ⟨_, rfl, rfl⟩
      · rw [if_neg hnum]
        have hcn : clsF f b ≠ 0 ∧ clsF f b < 7 := by omega
        have hW := whoF_bl (m := m) (b := b) h
        have hWn : nb (whoF f m b) ≤ 16384 := bl_dvd_nb (by omega)
        have hlob : bl lo ≤ 64 := bl_le_iff.2 (by simpa using hlo)
        have hhib : bl hi ≤ 64 := bl_le_iff.2 (by simpa using hhi)
        have hlon : nb lo ≤ 1000000 := Nat.le_trans (bl_dvd_nb (k := 8) (by omega)) (by omega)
        have hhin : nb hi ≤ 1000000 := Nat.le_trans (bl_dvd_nb (k := 8) (by omega)) (by omega)
        have hneg := neF_cls (f := f) (b := b) (by omega)
        simp only [kind_Class_g (show f < 256 from hf) hb, if_pos (And.intro h hbw), Option.bind_some, ref08_IsInf_g h hbw, decide_eq_false (show ¬ 8 ≤ clsF f b by omega), decide_eq_false (show ¬ (clsF f b = 0 ∨ clsF f b = 7) by omega), cond_false, ref19_Rounded_g m h hbw hcn, he2, ref05_Of_g hlo, ref05_Of_g hhi, ref05_Cmp_g (show nb (whoF f m b) ≤ 1000000 by omega) hlon, ref05_Cmp_g (show nb (whoF f m b) ≤ 1000000 by omega) hhin, cmp_pos, hL1, hG1, hL2, hG2]
        generalize hWW : whoF f m b = W at *
        generalize whxF f b = X at *
        have hc4 : decide (((clsF f b : Nat) : Int) < 4) = neF f b := by
          rw [hneg]; exact decide_eq_decide.2 (by omega)
        rw [hc4]
        by_cases hbig : 2 ^ 384 ≤ W
        · have b1 : lo < W := Nat.lt_of_lt_of_le (Nat.lt_trans hlo (by decide)) hbig
          have b2 : hi < W := Nat.lt_of_lt_of_le (Nat.lt_trans hhi (by decide)) hbig
          rw [if_pos hbig, decide_eq_true b1, decide_eq_true b2]
          cases neF f b <;> exact ⟨_, rfl, rfl⟩
        · have hW384 : W < 2 ^ 384 := Nat.lt_of_not_le hbig
          have l384 : lo < 2 ^ 384 := Nat.lt_trans hlo (by decide)
          have h384 : hi < 2 ^ 384 := Nat.lt_trans hhi (by decide)
          rw [if_neg hbig]
          simp only [wide_Of_g hlo, wide_Of_g hhi, Option.bind_some, wide_Cmp_g hW384 l384, wide_Cmp_g hW384 h384, cmp_pos, show ((0 : Int) == 2) = false from rfl, show ((0 : Int) == 0) = true from rfl, cond_true, cond_false]
          cases hn : neF f b
          · simp only [Bool.false_and, cond_false, Bool.not_false, cond_true]
            by_cases c : hi < W
            · rw [decide_eq_true c]
              exact ⟨_, rfl, rfl⟩
            · have hW64 : W < 18446744073709551616 := by omega
              have n48 : nb W ≤ 48 := bl_dvd_nb (by have : bl W ≤ 64 := bl_le_iff.2 (by simpa using hW64); omega)
              rw [decide_eq_false c]
              simp only [cond_false, ref05_ToWide_g n48, Option.bind_some, wd_small hW64, ref01_Extend_32 hW64]
              unfold toint_told.g
              simp only [cond_false, tld_eq]
              have hk4 : k = 0 ∨ k = 1 ∨ k = 2 ∨ k = 3 := by omega
              rcases hk4 with rfl | rfl | rfl | rfl <;> cases X <;> exact ⟨_, rfl, rfl⟩
          · by_cases c : lo < W
            · have hWp : W ≠ 0 := by omega
              rw [decide_eq_true c, decide_eq_true hWp]
              exact ⟨_, rfl, rfl⟩
            · have hW64 : W < 18446744073709551616 := by omega
              have n48 : nb W ≤ 48 := bl_dvd_nb (by have : bl W ≤ 64 := bl_le_iff.2 (by simpa using hW64); omega)
              have hneg64 : IntKind.u64.wrap ((0 : Int) - (W : Int)) = (((18446744073709551616 - W) % 18446744073709551616 : Nat) : Int) := by
                rw [wrap_u64_mod]; omega
              have hlt64 : (18446744073709551616 - W) % 18446744073709551616 < 18446744073709551616 := Nat.mod_lt _ (by decide)
              rw [decide_eq_false c]
              simp only [cond_false, cond_true, Bool.not_true, ref05_ToWide_g n48, Option.bind_some, wd_small hW64, hneg64, ref01_Extend_32 hlt64, Bool.true_and]
              by_cases h0 : W = 0
              · subst h0
                have c2 : ¬ hi < 0 := by omega
                rw [decide_eq_false (show ¬ (0 ≠ 0) from fun hc => hc rfl), decide_eq_false c2]
                simp only [cond_false, Bool.not_false, cond_true]
                unfold toint_told.g
                have hk4 : k = 0 ∨ k = 1 ∨ k = 2 ∨ k = 3 := by omega
                rcases hk4 with rfl | rfl | rfl | rfl <;> cases X <;> exact ⟨_, rfl, rfl⟩
              · rw [decide_eq_true (show W ≠ 0 from h0)]
                simp only [cond_true, Bool.not_true, cond_false]
                unfold toint_told.g
                simp only [cond_true, hneg64, tld_eq]
                have hk4 : k = 0 ∨ k = 1 ∨ k = 2 ∨ k = 3 := by omega
                rcases hk4 with rfl | rfl | rfl | rfl <;> cases X <;> exact ⟨_, rfl, rfl⟩
    · rw [decide_eq_false hm, toint_Whole_no hf hb (fun hc => hm hc.2), Option.bind_some, he1, Option.bind_some]
      exact ⟨_, rfl, rfl⟩
  · rw [decide_eq_false hfit, toint_Whole_no hf hb (fun hc => hfit hc.1), Option.bind_some, he1, Option.bind_some]
    exact ⟨_, rfl, rfl⟩

theorem conv_all (k : Nat) {f m b : Nat} (hf : f < 256) (hb : b < 2 ^ 128) : ∃ v, toint_Convert.g (k : Int) (f : Int) (m : Int) (B2.of b) = some v ∧ ref19_Convert.g (k : Int) (f : Int) (m : Int) (B2.of b) = some v := by
  by_cases hk : k ≤ 3
  · have hk4 : k = 0 ∨ k = 1 ∨ k = 2 ∨ k = 3 := by omega
    rcases hk4 with rfl | rfl | rfl | rfl
    · exact conv_kind 0 hk (lo := 2147483648) (hi := 2147483647) (by decide) (by decide) rfl rfl rfl rfl rfl rfl hf hb
    · exact conv_kind 1 hk (lo := 0) (hi := 4294967295) (by decide) (by decide) rfl rfl rfl rfl rfl rfl hf hb
    · exact conv_kind 2 hk (lo := 9223372036854775808) (hi := 9223372036854775807) (by decide) (by decide) rfl rfl rfl rfl rfl rfl hf hb
    · exact conv_kind 3 hk (lo := 0) (hi := 18446744073709551615) (by decide) (by decide) rfl rfl rfl rfl rfl rfl hf hb
  · unfold toint_Convert.g ref19_Convert.g
    rw [decide_eq_true (by omega : (3 : Int) < (k : Int))]
    exact ⟨_, rfl, rfl⟩

theorem alive19 : law19_alive.g = some true := by kernel_rfl

theorem law_TointConverts (k : Nat) {f m b : Nat} (hf : f < 256) (hb : b < 2 ^ 128) : law19_TointConverts.g (k : Int) (f : Int) (m : Int) (B2.of b) = some true := by
  obtain ⟨v, h1, h2⟩ := conv_all k (m := m) hf hb
  unfold law19_TointConverts.g
  rw [h1, h2, alive19]
  simp

theorem plain_TointConverts (k f m b : Nat) (_ : k < 256) (hf : f < 256) (_ : m < 256) (hb : b < 2 ^ 128) : law19_TointConverts.g (k : Int) (f : Int) (m : Int) (B2.of b) = some true := law_TointConverts k hf hb

end Go.Proofs.YtnfbcofieobkkaaGreatDoor
