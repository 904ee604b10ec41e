/- Products: the program's answer and the document's. -/
import Derived.Test.YtnfbcofieobkkaaGreatDoorM16
import Derived.Test.YtnfbcofieobkkaaGreatDoorMW
import Derived.Test.YtnfbcofieobkkaaGreatDoorH1
import Derived.Test.YtnfbcofieobkkaaGreatDoorCM
import Derived.Test.YtnfbcofieobkkaaGreatDoorPL12
namespace Go.Proofs.YtnfbcofieobkkaaGreatDoor
open Go Go.Proofs Ev
set_option linter.unusedVariables false
set_option maxRecDepth 100000
set_option linter.unusedSimpArgs false

theorem mul_agree {f m a b : Nat} (hf : f < 256) (ha : a < 2 ^ 128) (hb : b < 2 ^ 128) : ∃ v, mul_Mul.g (f : Int) (m : Int) (B2.of a) (B2.of b) = some v ∧ ref12_Mul.g (f : Int) (m : Int) (B2.of a) (B2.of b) = some v := by
  unfold mul_Mul.g ref12_Mul.g
  rw [ref11_Fits_2_g ha hb, obind]
  by_cases hg : (f ≤ 3 ∧ m ≤ 4) ∧ a < 2 ^ wF f ∧ b < 2 ^ wF f
  · rw [decide_eq_true hg]
    obtain ⟨⟨h, hm⟩, ga, gb⟩ := hg
    rw [mul_open_2_ok h hm ga gb, obind]
    simp only [Bool.not_true, bF, mul_nan_g, mul_below_g, mul_inf_g, mul_nought_g, obind, mul_canonical_2_g a b h, ref08_IsNaN_g h ga, ref08_IsNaN_g h gb, ref11_Canonical_2_g h ga gb, ref08_Sign_g h ga, ref08_Sign_g h gb, ref08_IsInf_g h ga, ref08_IsInf_g h gb, ref08_IsZero_g h ga, ref08_IsZero_g h gb, shape_NaN_g h, ref07_NaN_g h, shape_Inf_g h, ref07_Inf_g h, shape_Zero_g h, ref07_Zero_g h]
    by_cases na : 8 ≤ clsF f a
    · simp only [decide_eq_true na, bT, obind]
      exact ⟨_, rfl, rfl⟩
    · by_cases nb_ : 8 ≤ clsF f b
      · simp only [decide_eq_false na, decide_eq_true nb_, bT, bF, obind]
        exact ⟨_, rfl, rfl⟩
      · rw [← neF_cls (f := f) (b := a) (by omega), ← neF_cls (f := f) (b := b) (by omega)]
        simp only [decide_eq_false na, decide_eq_false nb_, bF]
        by_cases ia : clsF f a = 0 ∨ clsF f a = 7
        · have za : ¬ (clsF f a = 3 ∨ clsF f a = 4) := by omega
          by_cases zb : clsF f b = 3 ∨ clsF f b = 4
          · simp only [decide_eq_true ia, decide_eq_false za, decide_eq_true zb, bT, bF, obind]
            exact ⟨_, rfl, rfl⟩
          · by_cases ib : clsF f b = 0 ∨ clsF f b = 7
            · simp only [decide_eq_true ia, decide_eq_false za, decide_eq_false zb, decide_eq_true ib, bT, bF, obind]
              exact ⟨_, rfl, rfl⟩
            · simp only [decide_eq_true ia, decide_eq_false za, decide_eq_false zb, decide_eq_false ib, bT, bF, obind]
              exact ⟨_, rfl, rfl⟩
        · by_cases za : clsF f a = 3 ∨ clsF f a = 4
          · by_cases ib : clsF f b = 0 ∨ clsF f b = 7
            · simp only [decide_eq_false ia, decide_eq_true za, decide_eq_true ib, bT, bF, obind]
              exact ⟨_, rfl, rfl⟩
            · simp only [decide_eq_false ia, decide_eq_true za, decide_eq_false ib, bT, bF, obind]
              exact ⟨_, rfl, rfl⟩
          · by_cases ib : clsF f b = 0 ∨ clsF f b = 7
            · have zb : ¬ (clsF f b = 3 ∨ clsF f b = 4) := by omega
              simp only [decide_eq_false ia, decide_eq_false za, decide_eq_true ib, decide_eq_false zb, bT, bF, obind]
              exact ⟨_, rfl, rfl⟩
            · by_cases zb : clsF f b = 3 ∨ clsF f b = 4
              · simp only [decide_eq_false ia, decide_eq_false za, decide_eq_false ib, decide_eq_true zb, bT, bF, obind]
                exact ⟨_, rfl, rfl⟩
              · have fa : finF f a := by rcases cls_cases f a with c | c | c | c | c <;> first | exact c | (exfalso; omega)
                have fb : finF f b := by rcases cls_cases f b with c | c | c | c | c <;> first | exact c | (exfalso; omega)
                have ca := fin_cls fa
                have cb := fin_cls fb
                have xa := xpF_bounds h fa
                have xb := xpF_bounds h fb
                have hF := factsF h
                have hs := sig_mul_lt (a := a) (b := b) h
                have hp : sigF f a * sigF f b ≠ 0 := Nat.mul_ne_zero (sigF_pos fa) (sigF_pos fb)
                obtain ⟨fl, hM⟩ := wide_Mul_g (sigF_384 (b := a) h) (sigF_384 (b := b) h)
                simp only [decide_eq_false ia, decide_eq_false za, decide_eq_false ib, decide_eq_false zb, bT, bF, obind, ptsF_fin fa, ptsF_fin fb, hM, ref08_Value_g h ga (show clsF f a ≠ 0 ∧ clsF f a < 7 by omega), ref08_Value_g h gb (show clsF f b ≠ 0 ∧ clsF f b < 7 by omega), mul_Value h fa fb]
                rw [wrap_i64 (x := xpF f a + xpF f b) (by omega) (by omega), exact_Round h hm _ hp hs.2 (by omega), round_Pack_g h hm _ false hp hs.2 (by omega) (by intro hc; cases hc), obind]
                exact ⟨_, rfl, rfl⟩
  · obtain ⟨q, hq⟩ := mul_open_2_bad hf ha hb hg
    rw [hq, obind, decide_eq_false hg]
    exact ⟨_, rfl, rfl⟩

theorem alive12 : law12_alive.g = some true := by kernel_rfl

theorem plain_MulProducts (f m a b : Nat) (hf : f < 256) (hm : m < 256) (ha : a < 2 ^ 128) (hb : b < 2 ^ 128) : law12_MulProducts.g (f : Int) (m : Int) (B2.of a) (B2.of b) = some true := by
  obtain ⟨v, h1, h2⟩ := mul_agree (m := m) hf ha hb
  unfold law12_MulProducts.g
  rw [h1, h2, alive12]
  simp only [obind, beq_self_eq_true, Bool.and_self, bT]

end Go.Proofs.YtnfbcofieobkkaaGreatDoor
