/- Which numbers of one format are in another one. -/
import Derived.Test.YtnfbcofieobkkaaGreatDoorMV
namespace Go.Proofs.YtnfbcofieobkkaaGreatDoor
open Go Go.Proofs Ev
set_option linter.unusedVariables false
set_option exponentiation.threshold 512
set_option maxRecDepth 100000
set_option linter.unusedSimpArgs false

theorem oddN_mul_pow {n : Nat} (h : n ≠ 0) (k : Nat) : oddN (n * 2 ^ k) = oddN n := by
  unfold oddN
  rw [tz_mul_pow h, Nat.pow_add, Nat.mul_div_mul_right _ _ (Nat.pow_pos (by decide))]
theorem exq_iff {n : Nat} (h : n ≠ 0) (k : Int) : exq n 1 k = decide (-k ≤ ((tz n : Nat) : Int)) := by
  rcases Int.le_total 0 k with c | c
  · obtain ⟨j, rfl⟩ := Int.eq_ofNat_of_zero_le c
    rw [(flq_up n j).2, decide_eq_true (by omega)]
  · obtain ⟨j, hj⟩ : ∃ j : Nat, k = -(j : Int) := ⟨(-k).toNat, by omega⟩
    rw [hj, (flq_1 n j).2]
    refine decide_eq_decide.2 ?_
    have := tz_lt_iff (n := n) (k := j) h
    by_cases c : n % 2 ^ j = 0
    · have : ¬ tz n < j := fun hc => (this.1 hc) c
      exact ⟨fun _ => by omega, fun _ => c⟩
    · have := this.2 c
      exact ⟨fun hc => absurd hc c, fun hc => by omega⟩
theorem flq_exact {n : Nat} (h : n ≠ 0) {k : Int} (hk : -k ≤ ((tz n : Nat) : Int)) : oddN (flq n 1 k) = oddN n ∧ ((tz (flq n 1 k) : Nat) : Int) = tz n + k ∧ flq n 1 k ≠ 0 := by
  rcases Int.le_total 0 k with c | c
  · obtain ⟨j, rfl⟩ := Int.eq_ofNat_of_zero_le c
    rw [(flq_up n j).1, oddN_mul_pow h, tz_mul_pow h]
    refine ⟨rfl, by omega, ?_⟩
    exact Nat.mul_ne_zero h (Nat.ne_of_gt (Nat.pow_pos (by decide)))
  · obtain ⟨j, hj⟩ : ∃ j : Nat, k = -(j : Int) := ⟨(-k).toNat, by omega⟩
    have hm : n % 2 ^ j = 0 := by
      have := exq_iff h k
      rw [hj, (flq_1 n j).2, decide_eq_true (by omega : - -(j : Int) ≤ ((tz n : Nat) : Int))] at this
      exact of_decide_eq_true this
    have e : n / 2 ^ j * 2 ^ j = n := Nat.div_mul_cancel (Nat.dvd_of_mod_eq_zero hm)
    have h0 : n / 2 ^ j ≠ 0 := fun hc => by rw [hc, Nat.zero_mul] at e; exact h e.symm
    have o := oddN_mul_pow h0 j
    have t := tz_mul_pow h0 j
    rw [e] at o t
    rw [hj, (flq_1 n j).1]
    exact ⟨o.symm, by omega, h0⟩

theorem delS_flags0 {f m : Nat} {neg : Bool} {top : Int} {F : Int → Nat} {X : Int → Bool} (M : Mag F X top) : (delS f m neg top F X).2 = 0 ↔ top ≤ eF f ∧ X (atF f top) = true := by
  unfold delS
  by_cases c : (eF f : Int) < top
  · rw [if_pos c]
    exact ⟨fun h => (by cases h), fun h => (by omega)⟩
  · rw [if_neg c]
    by_cases hx : X (atF f top) = true
    · have hb := M.hb (atF f top)
      have hn := bl_pos (M.hx _ hx)
      have e : tkF m neg F X (atF f top) = F (atF f top) := by unfold tkF; rw [hx, takS_exact]
      rw [e, if_neg (by omega), hx]
      exact ⟨fun _ => ⟨by omega, rfl⟩, fun _ => rfl⟩
    · have hx' : X (atF f top) = false := by simpa using hx
      rw [hx']
      constructor
      · intro h
        exfalso
        revert h
        simp only [Bool.false_eq_true, if_false]
        split
        · intro h; cases h
        · split
          · intro h; cases h
          · intro h; cases h
      · intro h; cases h.2

theorem Of_fits {t : Nat} (h : t ≤ 3) (neg : Bool) {sig : Nat} {exp : Int} (hs0 : sig ≠ 0) (hs : sig < 2 ^ 384) (he : -50000 ≤ exp ∧ exp ≤ 50000) :
    ∃ r, ref08_Of.g (t : Int) ⟨neg, sOf (oddN sig), sOf 1, exp + tz sig⟩ = some (r, decide ((bl sig : Int) - 1 + exp ≤ eF t ∧ atF t ((bl sig : Int) - 1 + exp) ≤ exp + tz sig)) := by
  obtain ⟨h1, h2, h3, h4, h5, h6, h7, h8, h9⟩ := factsF h
  have hb384 : bl sig ≤ 384 := bl_le_iff.2 hs
  have hbp := bl_pos hs0
  have ho := oddN_ne hs0
  have hbo := bl_oddN hs0
  have hlt := tz_lt_bl hs0
  have hnb : nb (oddN sig) ≤ 8192 := bl_dvd_nb (by omega)
  have M := Mag.rough hs0 exp false
  have hT := ref06_Top_g neg (n := oddN sig) (d := 1) (e := exp + tz sig) (by omega) (by rw [nb_one]; omega) ho (by decide) (by omega)
  rw [topQ_1 ho, show ((bl (oddN sig) : Nat) : Int) - 1 + (exp + ((tz sig : Nat) : Int)) = (bl sig : Int) - 1 + exp by omega] at hT
  by_cases hg : (bl sig : Int) - 1 + exp ≤ eF t ∧ atF t ((bl sig : Int) - 1 + exp) ≤ exp + tz sig
  · rw [decide_eq_true hg]
    have hk := flq_exact hs0 (k := exp - atF t ((bl sig : Int) - 1 + exp)) (by omega)
    have hx : XR sig exp false (atF t ((bl sig : Int) - 1 + exp)) = true := by
      unfold XR
      rw [exq_iff hs0, decide_eq_true (by omega)]
      rfl
    have hb := M.hb (atF t ((bl sig : Int) - 1 + exp))
    have hFR : FR sig exp (atF t ((bl sig : Int) - 1 + exp)) = flq sig 1 (exp - atF t ((bl sig : Int) - 1 + exp)) := rfl
    rw [hFR] at hb
    obtain ⟨k1, k2, k3⟩ := hk
    have hbn := bl_pos k3
    have hatd : atF t ((bl sig : Int) - 1 + exp) = max ((bl sig : Int) - 1 + exp) (1 - (eF t : Int)) - pF t + 1 := rfl
    have hemd : emF t = 1 - (eF t : Int) := rfl
    generalize flq sig 1 (exp - atF t ((bl sig : Int) - 1 + exp)) = n at *
    generalize atF t ((bl sig : Int) - 1 + exp) = at_ at *
    have O := ref08_Of_g neg h k3 (at_ := at_) (Nat.le_of_lt (bl_le_iff.1 (by omega))) (by omega) (by
      by_cases c : (bl sig : Int) - 1 + exp ≤ 1 - (eF t : Int)
      · left; omega
      · right; exact lt_bl_iff.1 (by omega)) (by omega)
    rw [if_neg (by omega), k1, show at_ + ((tz n : Nat) : Int) = exp + ((tz sig : Nat) : Int) by omega] at O
    exact ⟨_, O⟩
  · rw [decide_eq_false hg]
    unfold ref08_Of.g
    rw [hT]
    simp only [emptyS, oneS, strEq_sOf, decide_eq_false ho, bF, ref07_Precision_g h, ref07_Emax_g h, ref07_Emin_g h, obind, decide_true, Bool.not_true, zeroB]
    by_cases hov : (eF t : Int) < (bl sig : Int) - 1 + exp
    · rw [decide_eq_true hov, bT]
      exact ⟨_, rfl⟩
    · rw [decide_eq_false hov, bF]
      have hatd : atF t ((bl sig : Int) - 1 + exp) = max ((bl sig : Int) - 1 + exp) (1 - (eF t : Int)) - pF t + 1 := rfl
      rw [hatd] at hg
      by_cases hlow : (bl sig : Int) - 1 + exp < 1 - (eF t : Int)
      · rw [decide_eq_true hlow, bT, wrap_i64 (x := 1 - (eF t : Int) - ((pF t : Nat) : Int)) (by omega) (by omega), wrap_i64 (x := 1 - (eF t : Int) - ((pF t : Nat) : Int) + 1) (by omega) (by omega), decide_eq_true (by omega : exp + ((tz sig : Nat) : Int) < 1 - (eF t : Int) - ((pF t : Nat) : Int) + 1), bT]
        exact ⟨_, rfl⟩
      · rw [decide_eq_false hlow, bF, wrap_i64 (x := (bl sig : Int) - 1 + exp - ((pF t : Nat) : Int)) (by omega) (by omega), wrap_i64 (x := (bl sig : Int) - 1 + exp - ((pF t : Nat) : Int) + 1) (by omega) (by omega), decide_eq_true (by omega : exp + ((tz sig : Nat) : Int) < (bl sig : Int) - 1 + exp - ((pF t : Nat) : Int) + 1), bT]
        exact ⟨_, rfl⟩

theorem Of_null {t : Nat} : ref08_Of.g (t : Int) ⟨false, sOf 0, sOf 1, 0⟩ = some (B2.of 0, true) := by
  unfold ref08_Of.g
  simp only [emptyS, strEq_sOf, decide_true, bT, zeroB]

theorem widen_fits_agree {t f b : Nat} (ht : t < 256) (hf : f < 256) (hb : b < 2 ^ 128) : ∃ v, widen_Fits.g (t : Int) (f : Int) (B2.of b) = some v ∧ ref18_Fits.g (t : Int) (f : Int) (B2.of b) = some v := by
  unfold widen_Fits.g ref18_Fits.g widen_Convert.g
  rw [ref07_Right_g, obind, ref07_Fits_g hb, obind, kind_Class_g hf hb]
  have hm : shape_CheckMode.g (1 : Int) = some 0 := shape_CheckMode_g 1
  by_cases hfit : f ≤ 3 ∧ b < 2 ^ wF f
  · rw [kind_Unpack_g hfit.1 hfit.2, obind, shape_Check_g, obind, hm, obind, decide_eq_true hfit, if_pos hfit]
    by_cases h : t ≤ 3
    · obtain ⟨hf3, hbw⟩ := hfit
      have b0 : (((clsF f b : Nat) : Int) == 0) = decide (clsF f b = 0) := beqN _ 0
      have b7 : (((clsF f b : Nat) : Int) == 7) = decide (clsF f b = 7) := beqN _ 7
      have b8 : (((clsF f b : Nat) : Int) == 8) = decide (clsF f b = 8) := beqN _ 8
      have b9 : (((clsF f b : Nat) : Int) == 9) = decide (clsF f b = 9) := beqN _ 9
      have z1 : ((16 : Int) == 0) = false := rfl
      have z2 : decide (((clsF f b : Nat) : Int) < 8) = decide (clsF f b < 8) := decide_eq_decide.2 (by omega)
      rw [if_pos h, decide_eq_true h]
      simp only [beq_self_eq_true, Bool.not_true, bF, obind, ptsF_cls, b0, b7, b8, b9, z2, ref08_IsNaN_g hf3 hbw, ref08_IsInf_g hf3 hbw, shape_NaN_g h, shape_Inf_g h, widen_either_api_Flags.g, widen_either_bool.g]
      rcases cls_cases f b with c | c | c | c | c
      · simp only [decide_eq_true c, decide_eq_true (show 8 ≤ clsF f b by omega), bT, obind, z1, bF]
        exact ⟨_, rfl, rfl⟩
      · simp only [decide_eq_true c, decide_eq_false (show ¬ clsF f b = 8 by omega), decide_eq_true (show 8 ≤ clsF f b by omega), decide_eq_false (show ¬ clsF f b < 8 by omega), bT, bF, obind, beq_self_eq_true]
        exact ⟨_, rfl, rfl⟩
      · simp only [decide_eq_true c, decide_eq_false (show ¬ clsF f b = 8 by omega), decide_eq_false (show ¬ clsF f b = 9 by omega), decide_eq_false (show ¬ 8 ≤ clsF f b by omega), decide_eq_true (show clsF f b < 8 by omega), bT, bF, obind, beq_self_eq_true]
        rcases c with c | c
        · simp only [decide_eq_true c, bT, obind, beq_self_eq_true]
          exact ⟨_, rfl, rfl⟩
        · simp only [decide_eq_true c, decide_eq_false (show ¬ clsF f b = 0 by omega), bT, bF, obind, beq_self_eq_true]
          exact ⟨_, rfl, rfl⟩
      · have hP := round_Pack_zero h (show (1 : Nat) ≤ 4 by decide) (decide (((clsF f b : Nat) : Int) < 4)) (show (-1048576 : Int) ≤ 0 ∧ (0 : Int) ≤ 1048576 by decide)
        have hv : valF f b = ⟨false, sOf 0, sOf 1, 0⟩ := valF_zero (by unfold finF; omega)
        simp only [decide_eq_false (show ¬ clsF f b = 8 by omega), decide_eq_false (show ¬ clsF f b = 9 by omega), decide_eq_false (show ¬ 8 ≤ clsF f b by omega), decide_eq_false (show ¬ clsF f b = 0 by omega), decide_eq_false (show ¬ clsF f b = 7 by omega), decide_eq_false (show ¬ (clsF f b = 0 ∨ clsF f b = 7) by omega), decide_eq_true (show clsF f b < 8 by omega), bT, bF, obind, ptsF_zero c, ref08_Value_g hf3 hbw (show clsF f b ≠ 0 ∧ clsF f b < 7 by omega), hv, Of_null]
        have hP1 := hP
        rw [show ((1 : Nat) : Int) = (1 : Int) from rfl] at hP1
        rw [hP1, obind]
        simp only [obind, beq_self_eq_true, bT]
        exact ⟨_, rfl, rfl⟩
      · have hc := fin_cls c
        have hp := sigF_pos c
        have hx := xpF_bounds hf3 c
        have hF := factsF hf3
        have hP := round_Pack_g h (show (1 : Nat) ≤ 4 by decide) (decide (((clsF f b : Nat) : Int) < 4)) false hp (sigF_384 (b := b) hf3) (show (-1048576 : Int) ≤ xpF f b ∧ xpF f b ≤ 1048576 by omega) (by intro hc; cases hc)
        obtain ⟨r, hO⟩ := Of_fits h (neF f b) hp (sigF_384 (b := b) hf3) (show (-50000 : Int) ≤ xpF f b ∧ xpF f b ≤ 50000 by omega)
        have M := Mag.rough hp (xpF f b) false
        have hD := delS_flags0 (f := t) (m := 1) (neg := decide (((clsF f b : Nat) : Int) < 4)) M
        simp only [decide_eq_false (show ¬ clsF f b = 8 by omega), decide_eq_false (show ¬ clsF f b = 9 by omega), decide_eq_false (show ¬ 8 ≤ clsF f b by omega), decide_eq_false (show ¬ clsF f b = 0 by omega), decide_eq_false (show ¬ clsF f b = 7 by omega), decide_eq_false (show ¬ (clsF f b = 0 ∨ clsF f b = 7) by omega), decide_eq_true (show clsF f b < 8 by omega), bT, bF, obind, ptsF_fin c, ref08_Value_g hf3 hbw (show clsF f b ≠ 0 ∧ clsF f b < 7 by omega), valF_fin c, hO]
        rw [show ((1 : Nat) : Int) = (1 : Int) from rfl] at hP
        rw [hP, obind]
        generalize delS t 1 (decide (((clsF f b : Nat) : Int) < 4)) ((bl (sigF f b) : Int) - 1 + xpF f b) (FR (sigF f b) (xpF f b)) (XR (sigF f b) (xpF f b) false) = D at *
        have hXe : XR (sigF f b) (xpF f b) false (atF t ((bl (sigF f b) : Int) - 1 + xpF f b)) = decide (atF t ((bl (sigF f b) : Int) - 1 + xpF f b) ≤ xpF f b + tz (sigF f b)) := by
          unfold XR
          rw [exq_iff hp, Bool.not_false, Bool.true_and]
          exact decide_eq_decide.2 (by omega)
        rw [hXe, decide_eq_true_eq] at hD
        dsimp only
        rw [obind]
        dsimp only
        rw [show (((D.2 : Nat) : Int) == 0) = decide (D.2 = 0) from beqN _ 0, decide_eq_decide.2 hD]
        cases decide ((bl (sigF f b) : Int) - 1 + xpF f b ≤ eF t ∧ atF t ((bl (sigF f b) : Int) - 1 + xpF f b) ≤ xpF f b + tz (sigF f b))
        · rw [bF, beq_self_eq_true, bT, obind]
          exact ⟨_, rfl, rfl⟩
        · rw [bT, beq_self_eq_true, bT, obind]
          exact ⟨_, rfl, rfl⟩
    · rw [if_neg h, decide_eq_false h]
      exact ⟨_, rfl, rfl⟩
  · rw [kind_Unpack_no hf hb hfit, obind, decide_eq_false hfit, if_neg hfit]
    cases decide (t ≤ 3) <;> exact ⟨_, rfl, rfl⟩

theorem plain_WidenFits (t f b : Nat) (ht : t < 256) (hf : f < 256) (hb : b < 2 ^ 128) : law18_WidenFits.g (t : Int) (f : Int) (B2.of b) = some true := by
  obtain ⟨v, h1, h2⟩ := widen_fits_agree ht hf hb
  unfold law18_WidenFits.g
  rw [h1, h2, alive18]
  simp only [obind, beq_self_eq_true, bT]

end Go.Proofs.YtnfbcofieobkkaaGreatDoor
