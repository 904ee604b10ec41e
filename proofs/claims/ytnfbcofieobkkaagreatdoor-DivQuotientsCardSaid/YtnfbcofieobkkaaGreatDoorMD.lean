/- Quotients: the program's answer and the document's. -/
import Derived.Test.YtnfbcofieobkkaaGreatDoorMD0
import Derived.Test.YtnfbcofieobkkaaGreatDoorH1
import Derived.Test.YtnfbcofieobkkaaGreatDoorCD
import Derived.Test.YtnfbcofieobkkaaGreatDoorPL13
namespace Go.Proofs.YtnfbcofieobkkaaGreatDoor
open Go Go.Proofs Ev
set_option linter.unusedVariables false
set_option exponentiation.threshold 512
set_option maxRecDepth 100000
set_option linter.unusedSimpArgs false

theorem div_sort_g (f b : Nat) : div_sort.g (ptsF f b) = some (bif decide (clsF f b = 3 ∨ clsF f b = 4) then 110 else bif decide (clsF f b = 0 ∨ clsF f b = 7) then 105 else 102) := by
  unfold div_sort.g
  rw [div_nought_g, obind, div_inf_g, obind]
  cases decide (clsF f b = 3 ∨ clsF f b = 4) <;> cases decide (clsF f b = 0 ∨ clsF f b = 7) <;> rfl

theorem div_agree {f m a b : Nat} (hf : f < 256) (ha : a < 2 ^ 128) (hb : b < 2 ^ 128) : ∃ v, div_Div.g (f : Int) (m : Int) (B2.of a) (B2.of b) = some v ∧ ref13_Div.g (f : Int) (m : Int) (B2.of a) (B2.of b) = some v := by
  unfold div_Div.g ref13_Div.g
  rw [ref11_Fits_2_g ha hb, obind]
  by_cases hg : (f ≤ 3 ∧ m ≤ 4) ∧ a < 2 ^ wF f ∧ b < 2 ^ wF f
  · rw [decide_eq_true hg]
    obtain ⟨⟨h, hm⟩, ga, gb⟩ := hg
    rw [div_open_2_ok h hm ga gb, obind]
    simp only [Bool.not_true, bF, div_nan_g, div_below_g, div_sort_g, obind, div_canonical_2_g a b h, ref08_IsNaN_g h ga, ref08_IsNaN_g h gb, ref11_Canonical_2_g h ga gb, ref08_Sign_g h ga, ref08_Sign_g h gb, ref08_IsInf_g h ga, ref08_IsInf_g h gb, ref08_IsZero_g h ga, ref08_IsZero_g h gb, shape_NaN_g h, ref07_NaN_g h, shape_Inf_g h, ref07_Inf_g h, shape_Zero_g h, ref07_Zero_g h]
    by_cases na : 8 ≤ clsF f a
    · simp only [decide_eq_true na, bT, obind]
      exact ⟨_, rfl, rfl⟩
    · by_cases nb_ : 8 ≤ clsF f b
      · simp only [decide_eq_false na, decide_eq_true nb_, bT, bF, obind]
        exact ⟨_, rfl, rfl⟩
      · rw [← neF_cls (f := f) (b := a) (by omega), ← neF_cls (f := f) (b := b) (by omega)]
        have k1 : ((105 : Int) == 110) = false := rfl
        have k2 : ((105 : Int) == 102) = false := rfl
        have k3 : ((110 : Int) == 105) = false := rfl
        have k4 : ((110 : Int) == 102) = false := rfl
        have k5 : ((102 : Int) == 105) = false := rfl
        have k6 : ((102 : Int) == 110) = false := rfl
        simp only [decide_eq_false na, decide_eq_false nb_, bF]
        by_cases ia : clsF f a = 0 ∨ clsF f a = 7
        · have za : ¬ (clsF f a = 3 ∨ clsF f a = 4) := by omega
          by_cases zb : clsF f b = 3 ∨ clsF f b = 4
          · have ib : ¬ (clsF f b = 0 ∨ clsF f b = 7) := by omega
            simp only [decide_eq_true ia, decide_eq_false za, decide_eq_true zb, decide_eq_false ib, bT, bF, obind, beq_self_eq_true, Bool.and_true, Bool.and_self, Bool.false_and, Bool.true_and, Bool.and_false, k1, k2, k3, k4, k5, k6]
            exact ⟨_, rfl, rfl⟩
          · by_cases ib : clsF f b = 0 ∨ clsF f b = 7
            · simp only [decide_eq_true ia, decide_eq_false za, decide_eq_false zb, decide_eq_true ib, bT, bF, obind, beq_self_eq_true, Bool.and_true, Bool.and_self, Bool.false_and, Bool.true_and, Bool.and_false, k1, k2, k3, k4, k5, k6]
              exact ⟨_, rfl, rfl⟩
            · simp only [decide_eq_true ia, decide_eq_false za, decide_eq_false zb, decide_eq_false ib, bT, bF, obind, beq_self_eq_true, Bool.and_true, Bool.and_self, Bool.false_and, Bool.true_and, Bool.and_false, k1, k2, k3, k4, k5, k6]
              exact ⟨_, rfl, rfl⟩
        · by_cases za : clsF f a = 3 ∨ clsF f a = 4
          · by_cases ib : clsF f b = 0 ∨ clsF f b = 7
            · have zb : ¬ (clsF f b = 3 ∨ clsF f b = 4) := by omega
              simp only [decide_eq_false ia, decide_eq_true za, decide_eq_true ib, decide_eq_false zb, bT, bF, obind, beq_self_eq_true, Bool.and_true, Bool.and_self, Bool.false_and, Bool.true_and, Bool.and_false, k1, k2, k3, k4, k5, k6]
              exact ⟨_, rfl, rfl⟩
            · by_cases zb : clsF f b = 3 ∨ clsF f b = 4
              · simp only [decide_eq_false ia, decide_eq_true za, decide_eq_false ib, decide_eq_true zb, bT, bF, obind, beq_self_eq_true, Bool.and_true, Bool.and_self, Bool.false_and, Bool.true_and, Bool.and_false, k1, k2, k3, k4, k5, k6]
                exact ⟨_, rfl, rfl⟩
              · simp only [decide_eq_false ia, decide_eq_true za, decide_eq_false ib, decide_eq_false zb, bT, bF, obind, beq_self_eq_true, Bool.and_true, Bool.and_self, Bool.false_and, Bool.true_and, Bool.and_false, k1, k2, k3, k4, k5, k6]
                exact ⟨_, rfl, rfl⟩
          · by_cases ib : clsF f b = 0 ∨ clsF f b = 7
            · have zb : ¬ (clsF f b = 3 ∨ clsF f b = 4) := by omega
              simp only [decide_eq_false ia, decide_eq_false za, decide_eq_true ib, decide_eq_false zb, bT, bF, obind, beq_self_eq_true, Bool.and_true, Bool.and_self, Bool.false_and, Bool.true_and, Bool.and_false, k1, k2, k3, k4, k5, k6]
              exact ⟨_, rfl, rfl⟩
            · by_cases zb : clsF f b = 3 ∨ clsF f b = 4
              · simp only [decide_eq_false ia, decide_eq_false za, decide_eq_false ib, decide_eq_true zb, bT, bF, obind, beq_self_eq_true, Bool.and_true, Bool.and_self, Bool.false_and, Bool.true_and, Bool.and_false, k1, k2, k3, k4, k5, k6]
                exact ⟨_, rfl, rfl⟩
              · have fa : finF f a := by rcases cls_cases f a with c | c | c | c | c <;> first | exact c | (exfalso; omega)
                have fb : finF f b := by rcases cls_cases f b with c | c | c | c | c <;> first | exact c | (exfalso; omega)
                have ca := fin_cls fa
                have cb := fin_cls fb
                have xa := xpF_bounds h fa
                have xb := xpF_bounds h fb
                have hF := factsF h
                have la : bl (sigF f a) ≤ pF f := bl_le_iff.2 (sigF_lt (b := a) h)
                have lb : bl (sigF f b) ≤ pF f := bl_le_iff.2 (sigF_lt (b := b) h)
                have pa := sigF_pos fa
                have pb := sigF_pos fb
                have sa := sigF_384 (b := a) h
                have sb := sigF_384 (b := b) h
                obtain ⟨N, hN⟩ : ∃ N : Nat, N = pF f + 3 + bl (sigF f b) - bl (sigF f a) := ⟨_, rfl⟩
                have hmax : maxI (IntKind.i64.wrap (IntKind.i64.wrap (IntKind.i64.wrap (((pF f : Nat) : Int) + (3 : Int)) + ((bl (sigF f b) : Nat) : Int)) - ((bl (sigF f a) : Nat) : Int))) (0 : Int) = (N : Int) := by
                  rw [wrap_i64 (x := ((pF f : Nat) : Int) + 3) (by omega) (by omega), wrap_i64 (x := ((pF f : Nat) : Int) + 3 + ((bl (sigF f b) : Nat) : Int)) (by omega) (by omega), wrap_i64 (by omega) (by omega), maxI_eq]
                  omega
                obtain ⟨e, hq, hR⟩ := quo_core (xa := xpF f a) (xb := xpF f b) h hm (neF f a) (neF f b) pa pb la lb (by omega) (by omega) (show pF f + 3 + bl (sigF f b) ≤ bl (sigF f a) + N by omega) (by omega)
                have hsh : sigF f a * 2 ^ N < 2 ^ 384 := bl_le_iff.1 (by rw [bl_mul_pow pa]; omega)
                have hb382 : sigF f b < 2 ^ 382 := bl_le_iff.1 (by omega)
                simp only [decide_eq_false ia, decide_eq_false za, decide_eq_false ib, decide_eq_false zb, bT, bF, obind, beq_self_eq_true, Bool.and_true, Bool.and_self, Bool.false_and, Bool.true_and, Bool.and_false, k1, k2, k3, k4, k5, k6, ptsF_fin fa, ptsF_fin fb, shape_Precision_g h, wide_Len_g sa, wide_Len_g sb, hmax, quot_Digits_g sa hb382 pb (show N ≤ 384 by omega) hsh, ref08_Value_g h ga (show clsF f a ≠ 0 ∧ clsF f a < 7 by omega), ref08_Value_g h gb (show clsF f b ≠ 0 ∧ clsF f b < 7 by omega), valF_fin fa, valF_fin fb, hq]
                rw [wrap_i64 (x := xpF f a - xpF f b) (by omega) (by omega), wrap_i64 (x := xpF f a - xpF f b - (N : Int)) (by omega) (by omega), hR]
                have hq2 : 2 ^ (pF f + 2) ≤ sigF f a * 2 ^ N / sigF f b := by
                  rw [Nat.le_div_iff_mul_le (by omega)]
                  have h1 : 2 ^ (bl (sigF f a) - 1) * 2 ^ N ≤ sigF f a * 2 ^ N := Nat.mul_le_mul_right _ (bl_le pa)
                  have h2 : 2 ^ (pF f + 2) * sigF f b ≤ 2 ^ (pF f + 2) * 2 ^ bl (sigF f b) := Nat.mul_le_mul_left _ (Nat.le_of_lt (bl_lt _))
                  rw [← Nat.pow_add] at h1 h2
                  have := bl_pos pa
                  have h3 : (2 : Nat) ^ (pF f + 2 + bl (sigF f b)) ≤ 2 ^ (bl (sigF f a) - 1 + N) := Nat.pow_le_pow_right (by decide) (by omega)
                  omega
                have hbq2 := lt_bl_iff.2 hq2
                have hq0 : sigF f a * 2 ^ N / sigF f b ≠ 0 := fun hc => by rw [hc, bl_zero] at hbq2; omega
                rw [round_Pack_g h hm _ _ hq0 (Nat.lt_of_le_of_lt (Nat.div_le_self _ _) hsh) (by omega) (fun _ => by omega), obind]
                exact ⟨_, rfl, rfl⟩
  · obtain ⟨q, hq⟩ := div_open_2_bad hf ha hb hg
    rw [hq, obind, decide_eq_false hg]
    exact ⟨_, rfl, rfl⟩

theorem alive13 : law13_alive.g = some true := by kernel_rfl

theorem plain_DivQuotients (f m a b : Nat) (hf : f < 256) (hm : m < 256) (ha : a < 2 ^ 128) (hb : b < 2 ^ 128) : law13_DivQuotients.g (f : Int) (m : Int) (B2.of a) (B2.of b) = some true := by
  obtain ⟨v, h1, h2⟩ := div_agree (m := m) hf ha hb
  unfold law13_DivQuotients.g
  rw [h1, h2, alive13]
  simp only [obind, beq_self_eq_true, Bool.and_self, bT]

end Go.Proofs.YtnfbcofieobkkaaGreatDoor
