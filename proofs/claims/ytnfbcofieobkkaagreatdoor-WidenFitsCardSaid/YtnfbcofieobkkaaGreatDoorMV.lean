/- One format into another one: the program's answer and the document's. -/
import Derived.Test.YtnfbcofieobkkaaGreatDoorM15
import Derived.Test.YtnfbcofieobkkaaGreatDoorPL18
namespace Go.Proofs.YtnfbcofieobkkaaGreatDoor
open Go Go.Proofs Ev
set_option linter.unusedVariables false
set_option maxRecDepth 100000
set_option linter.unusedSimpArgs false

theorem widen_agree {t f m b : Nat} (ht : t < 256) (hf : f < 256) (hb : b < 2 ^ 128) : ∃ v, widen_Convert.g (t : Int) (f : Int) (m : Int) (B2.of b) = some v ∧ ref18_Convert.g (t : Int) (f : Int) (m : Int) (B2.of b) = some v := by
  unfold widen_Convert.g ref18_Convert.g
  rw [ref07_Right_g, obind, ref07_Fits_g hb, obind, ref07_RightMode_g, obind]
  by_cases hfit : f ≤ 3 ∧ b < 2 ^ wF f
  · rw [kind_Unpack_g hfit.1 hfit.2, obind, shape_Check_g, obind, shape_CheckMode_g, obind, decide_eq_true hfit]
    by_cases h : t ≤ 3
    · by_cases hm : m ≤ 4
      · obtain ⟨hf3, hbw⟩ := hfit
        have b0 : (((clsF f b : Nat) : Int) == 0) = decide (clsF f b = 0) := beqN _ 0
        have b7 : (((clsF f b : Nat) : Int) == 7) = decide (clsF f b = 7) := beqN _ 7
        have b8 : (((clsF f b : Nat) : Int) == 8) = decide (clsF f b = 8) := beqN _ 8
        have b9 : (((clsF f b : Nat) : Int) == 9) = decide (clsF f b = 9) := beqN _ 9
        rw [if_pos h, decide_eq_true h, if_pos hm, decide_eq_true hm]
        simp only [beq_self_eq_true, Bool.not_true, bF, obind, ptsF_cls, b0, b7, b8, b9, ref08_IsNaN_g hf3 hbw, ref08_IsSignaling_g hf3 hbw, ref08_IsInf_g hf3 hbw, ref08_IsZero_g hf3 hbw, ref08_Sign_g hf3 hbw, shape_NaN_g h, ref07_NaN_g h, shape_Inf_g h, ref07_Inf_g h, ref07_Zero_g h, widen_either_api_Flags.g]
        rcases cls_cases f b with c | c | c | c | c
        · simp only [decide_eq_true c, decide_eq_true (show 8 ≤ clsF f b by omega), bT, obind]
          exact ⟨_, rfl, rfl⟩
        · simp only [decide_eq_true c, decide_eq_false (show ¬ clsF f b = 8 by omega), decide_eq_true (show 8 ≤ clsF f b by omega), bT, bF, obind]
          exact ⟨_, rfl, rfl⟩
        · rw [neg_cls (by omega)]
          simp only [decide_eq_true c, decide_eq_false (show ¬ clsF f b = 8 by omega), decide_eq_false (show ¬ clsF f b = 9 by omega), decide_eq_false (show ¬ 8 ≤ clsF f b by omega), bT, bF, obind]
          rcases c with c | c
          · simp only [decide_eq_true c, bT]
            exact ⟨_, rfl, rfl⟩
          · simp only [decide_eq_true c, decide_eq_false (show ¬ clsF f b = 0 by omega), bT, bF]
            exact ⟨_, rfl, rfl⟩
        · rw [neg_cls (by omega)]
          simp only [decide_eq_true c, decide_eq_false (show ¬ clsF f b = 8 by omega), decide_eq_false (show ¬ clsF f b = 9 by omega), decide_eq_false (show ¬ 8 ≤ clsF f b by omega), decide_eq_false (show ¬ clsF f b = 0 by omega), decide_eq_false (show ¬ clsF f b = 7 by omega), decide_eq_false (show ¬ (clsF f b = 0 ∨ clsF f b = 7) by omega), bT, bF, obind, ptsF_zero c, round_Pack_zero h hm (neF f b) (show (-1048576 : Int) ≤ 0 ∧ (0 : Int) ≤ 1048576 by decide)]
          exact ⟨_, rfl, rfl⟩
        · have hc := fin_cls c
          have hp := sigF_pos c
          have hx := xpF_bounds hf3 c
          have hF := factsF hf3
          rw [neg_cls (by omega)]
          simp only [decide_eq_false (show ¬ clsF f b = 8 by omega), decide_eq_false (show ¬ clsF f b = 9 by omega), decide_eq_false (show ¬ 8 ≤ clsF f b by omega), decide_eq_false (show ¬ clsF f b = 0 by omega), decide_eq_false (show ¬ clsF f b = 7 by omega), decide_eq_false (show ¬ (clsF f b = 0 ∨ clsF f b = 7) by omega), decide_eq_false (show ¬ (clsF f b = 3 ∨ clsF f b = 4) by omega), bT, bF, obind, ptsF_fin c, ref08_Value_g hf3 hbw (show clsF f b ≠ 0 ∧ clsF f b < 7 by omega), valF_fin c, exact_Round h hm (neF f b) hp (sigF_384 (b := b) hf3) (show (-50000 : Int) ≤ xpF f b ∧ xpF f b ≤ 50000 by omega)]
          rw [round_Pack_g h hm (neF f b) false hp (sigF_384 (b := b) hf3) (by omega) (by intro hc; cases hc), obind]
          exact ⟨_, rfl, rfl⟩
      · rw [if_pos h, decide_eq_true h, if_neg hm, decide_eq_false hm]
        exact ⟨_, rfl, rfl⟩
    · rw [if_neg h, decide_eq_false h]
      exact ⟨_, rfl, rfl⟩
  · rw [kind_Unpack_no hf hb hfit, obind, decide_eq_false hfit]
    cases decide (t ≤ 3) <;> exact ⟨_, rfl, rfl⟩

theorem alive18 : law18_alive.g = some true := by kernel_rfl

theorem plain_WidenConverts (t f m b : Nat) (ht : t < 256) (hf : f < 256) (hm : m < 256) (hb : b < 2 ^ 128) : law18_WidenConverts.g (t : Int) (f : Int) (m : Int) (B2.of b) = some true := by
  obtain ⟨v, h1, h2⟩ := widen_agree (m := m) ht hf hb
  unfold law18_WidenConverts.g
  rw [h1, h2, alive18]
  simp only [obind, beq_self_eq_true, Bool.and_self, bT]

end Go.Proofs.YtnfbcofieobkkaaGreatDoor
