/- Rounding: which neighbour is taken; what is cut off; the value of bits. -/
import Derived.Test.YtnfbcofieobkkaaDoorM10
import Derived.Test.YtnfbcofieobkkaaDoorPR
namespace Go.Proofs.YtnfbcofieobkkaaDoor
open Go Go.Proofs Ev
set_option linter.unusedVariables false
set_option exponentiation.threshold 512
set_option linter.unusedSimpArgs false

/- Three plain steps, told as equations and not as computations: else the kernel may run what stands beside them. -/
theorem obind {α β : Type} (a : α) (f : α → Option β) : (some a).bind f = f a := by rw [Option.bind_some]
theorem bT {α : Type} (a b : α) : (bif true then a else b) = a := by rw [cond_true]
theorem bF {α : Type} (a b : α) : (bif false then a else b) = b := by rw [cond_false]

/-- What is left, against half a step: of the whole part one place beneath, and whether nothing is left at the place and beneath it. -/
def halfS (F1 : Nat) (X0 X1 : Bool) : Int := if X0 then -1 else if F1 % 2 = 1 then (if X1 then 0 else 1) else -1
def upS (m : Nat) (neg odd : Bool) (half : Int) (exact : Bool) : Bool :=
  if exact then false else if m = 0 then (if 0 < half then true else if half = 0 then odd else false) else if m = 4 then decide (0 ≤ half) else if m = 2 then neg else if m = 3 then !neg else false
/-- The multiple that is taken. -/
def takS (m : Nat) (neg : Bool) (F0 F1 : Nat) (X0 X1 : Bool) : Nat := if upS m neg (decide (F0 % 2 = 1)) (halfS F1 X0 X1) X0 then F0 + 1 else F0
theorem takS_le (m : Nat) (neg : Bool) (F0 F1 : Nat) (X0 X1 : Bool) : F0 ≤ takS m neg F0 F1 X0 X1 ∧ takS m neg F0 F1 X0 X1 ≤ F0 + 1 := by
  unfold takS; split <;> omega
theorem takS_exact (m : Nat) (neg : Bool) (F0 F1 : Nat) (X1 : Bool) : takS m neg F0 F1 true X1 = F0 := by
  unfold takS upS; simp

theorem round_Up_g (m : Nat) (neg odd : Bool) (half : Int) (exact : Bool) : round_Up.g (m : Int) neg odd half exact = some (upS m neg odd half exact) := by
  unfold round_Up.g upS
  rw [show ((m : Int) == 0) = decide (m = 0) from beqN m 0, show ((m : Int) == 2) = decide (m = 2) from beqN m 2, show ((m : Int) == 3) = decide (m = 3) from beqN m 3, show ((m : Int) == 4) = decide (m = 4) from beqN m 4]
  have hh : (half == (0 : Int)) = decide (half = 0) := by rw [Bool.eq_iff_iff, beq_iff_eq, decide_eq_true_eq]
  rw [hh]
  cases exact
  · by_cases h0 : m = 0
    · simp only [h0, decide_true, cond_true, cond_false]
      by_cases h1 : 0 < half
      · simp [h1]
      · by_cases h2 : half = 0 <;> simp [h1, h2]
    · by_cases h4 : m = 4
      · subst h4; simp
      · by_cases h2 : m = 2
        · subst h2; cases neg <;> simp
        · by_cases h3 : m = 3
          · subst h3; cases neg <;> simp
          · simp [h0, h4, h2, h3]
  · simp
theorem ref10_Up_g (m : Nat) (neg odd : Bool) (half : Int) (exact : Bool) : ref10_Up.g (m : Int) neg odd half exact = some (upS m neg odd half exact) := by
  unfold ref10_Up.g upS
  rw [show ((m : Int) == 0) = decide (m = 0) from beqN m 0, show ((m : Int) == 2) = decide (m = 2) from beqN m 2, show ((m : Int) == 3) = decide (m = 3) from beqN m 3, show ((m : Int) == 4) = decide (m = 4) from beqN m 4]
  have hh : (half == (0 : Int)) = decide (half = 0) := by rw [Bool.eq_iff_iff, beq_iff_eq, decide_eq_true_eq]
  rw [hh]
  cases exact
  · by_cases h0 : m = 0
    · simp only [h0, decide_true, cond_true, cond_false]
      by_cases h1 : 0 < half
      · simp [h1]
      · by_cases h2 : half = 0 <;> simp [h1, h2]
    · by_cases h4 : m = 4
      · subst h4; simp
      · by_cases h2 : m = 2
        · subst h2; simp
        · by_cases h3 : m = 3
          · subst h3; simp
          · simp [h0, h4, h2, h3]
  · simp

/-! ### what is cut off -/
theorem half_exact {a n : Nat} (hn : 0 < n) (h : a % 2 ^ n = 0) : a / 2 ^ (n - 1) % 2 = 0 ∧ a % 2 ^ (n - 1) = 0 := by
  obtain ⟨m, rfl⟩ : ∃ m, n = m + 1 := ⟨n - 1, by omega⟩
  rw [Nat.pow_succ, Nat.mod_mul] at h
  rw [Nat.add_sub_cancel]
  have hp : 0 < 2 ^ m := Nat.pow_pos (by decide)
  have h1 : 2 ^ m * (a / 2 ^ m % 2) = 0 := by omega
  rcases Nat.mul_eq_zero.1 h1 with h2 | h2
  · omega
  · exact ⟨h2, by omega⟩
theorem jam_Cut_g {a n : Nat} (ha : a < 2 ^ 384) (h1 : 1 ≤ n) (h2 : n ≤ 10000000) : jam_Cut.g (W6.of a) (n : Int) = some (W6.of (a / 2 ^ n), halfS (a / 2 ^ (n - 1)) (decide (a % 2 ^ n = 0)) (decide (a % 2 ^ (n - 1) = 0)), decide (a % 2 ^ n = 0)) := by
  unfold jam_Cut.g
  have hm : minI (maxI (n : Int) 0) 385 = ((min n 385 : Nat) : Int) := by rw [maxI_eq, minI_eq]; omega
  rw [hm, wide_Right_g ha, Option.bind_some, Int.toNat_natCast, show (((min n 385 : Nat) : Int) == 0) = decide (min n 385 = 0) from beqN _ 0, show (((min n 385 : Nat) : Int) == 385) = decide (min n 385 = 385) from beqN _ 385, decide_eq_false (by omega : ¬ min n 385 = 0), cond_false]
  by_cases hbig : 385 ≤ n
  · have hz : ∀ k, 384 ≤ k → a / 2 ^ k = 0 ∧ a % 2 ^ k = a := fun k hk => by
      have : a < 2 ^ k := Nat.lt_of_lt_of_le ha (Nat.pow_le_pow_right (by decide) hk)
      exact ⟨Nat.div_eq_of_lt this, Nat.mod_eq_of_lt this⟩
    rw [Nat.min_eq_right hbig, decide_eq_true rfl, cond_true]
    have e1 := hz 384 (Nat.le_refl _)
    have e2 := hz n (by omega)
    have e3 := hz (n - 1) (by omega)
    rw [show min 385 384 = 384 from rfl, e1.1, e1.2, e2.1, e2.2, e3.1, e3.2]
    congr 1
    refine Prod.ext rfl (Prod.ext ?_ ?_)
    · unfold halfS
      simp
    · simp
  · have hn : min n 385 = n := by omega
    rw [hn, decide_eq_false (by omega : ¬ n = 385), cond_false, Nat.min_eq_left (by omega), wrap_i64 (x := (n : Int) - 1) (by omega) (by omega), wide_Bit_g ha, Option.bind_some, show ((n : Int) - 1).toNat = n - 1 by omega, decide_eq_true (by omega : (0 : Int) ≤ (n : Int) - 1), Bool.true_and, Nat.testBit_eq_decide_div_mod_eq]
    have hexact := half_exact (a := a) (n := n) (by omega)
    unfold halfS
    have hne : (!decide (a % 2 ^ n ≠ 0)) = decide (a % 2 ^ n = 0) := by
      by_cases h : a % 2 ^ n = 0 <;> simp [h]
    dsimp only
    rw [hne]
    by_cases hb : a / 2 ^ (n - 1) % 2 = 1
    · have h0 : a % 2 ^ n ≠ 0 := fun hc => by have := hexact hc; omega
      rw [decide_eq_true hb, Bool.not_true, cond_false, wide_Mask_g, Option.bind_some, wide_And_g, Option.bind_some, show ((n : Int) - 1).toNat = n - 1 by omega, Nat.min_eq_left (by omega), Nat.and_two_pow_sub_one_eq_mod, isz (Nat.lt_of_le_of_lt (Nat.mod_le _ _) ha)]
      rw [decide_eq_false h0]
      by_cases hc : a % 2 ^ (n - 1) = 0 <;> simp [hc, hb]
    · rw [decide_eq_false hb, Bool.not_false, cond_true]
      by_cases h0 : a % 2 ^ n = 0 <;> simp [h0, hb]

theorem bl_succ_le' {n k : Nat} (h : bl n ≤ k) : bl (n + 1) ≤ k + 1 := by
  rw [bl_le_iff] at h ⊢
  rw [Nat.pow_succ]; omega

/-! ### values -/
theorem flq_1 (n k : Nat) : flq n 1 (-(k : Int)) = n / 2 ^ k ∧ exq n 1 (-(k : Int)) = decide (n % 2 ^ k = 0) := by
  unfold flq exq
  rw [show (-(k : Int)).toNat = 0 by omega, show (- -(k : Int)).toNat = k by omega, Nat.pow_zero, Nat.mul_one, Nat.one_mul]
  exact ⟨rfl, rfl⟩
theorem flq_up (n k : Nat) : flq n 1 (k : Int) = n * 2 ^ k ∧ exq n 1 (k : Int) = true := by
  unfold flq exq
  rw [Int.toNat_natCast, show (-(k : Int)).toNat = 0 by omega, Nat.pow_zero, Nat.one_mul, Nat.div_one, Nat.mod_one]
  exact ⟨rfl, rfl⟩

theorem sig_small {f b : Nat} (h : f ≤ 3) : nb (sigF f b) ≤ 15 ∧ bl (sigF f b) ≤ 113 := by
  have h1 := sigF_lt (b := b) h
  have h2 := factsF h
  have : bl (sigF f b) ≤ 113 := by
    have := bl_le_iff.2 h1
    omega
  exact ⟨by rw [nb_bl]; omega, this⟩
/-- The value of what is finite. -/
def valF (f b : Nat) : Exc := if finF f b then ⟨neF f b, sOf (oddN (sigF f b)), sOf 1, xpF f b + tz (sigF f b)⟩ else ⟨false, sOf 0, sOf 1, 0⟩
theorem ref08_Value_g {f b : Nat} (h : f ≤ 3) (hb : b < 2 ^ wF f) (hc : clsF f b ≠ 0 ∧ clsF f b < 7) : ref08_Value.g (f : Int) (B2.of b) = some (valF f b, 0) := by
  have hs := sig_small (b := b) h
  have h384 := sigF_384 (b := b) h
  have hF := factsF h
  unfold ref08_Value.g valF
  rw [ref08_Unpack_g h hb, Option.bind_some]
  unfold ptsF ptsC
  rw [if_neg (by omega)]
  simp only [ref08_Sign_g h hb, Option.bind_some, oneS]
  by_cases hf : finF f b
  · have hx := xpF_bounds h hf
    have hp := sigF_pos hf
    have ht := tz_lt_bl hp
    have hM := ref06_Make_1 (neF f b) (n := sigF f b) (e := xpF f b) (by omega) hp (by omega) (by omega)
    have hf2 := hf
    unfold finF at hf2
    rw [if_pos hf2, if_pos hf]
    simp only [ref05_OfWide_g h384, hM, Option.bind_some]
    rcases hf2 with e | e | e | e <;> rw [e] <;> rfl
  · have hM := ref06_Make_zero (neF f b) (d := 1) (e := 0) (by rw [nb_one]; omega) (by decide) (by decide)
    have hf2 := hf
    unfold finF at hf2
    rw [if_neg hf2, if_neg hf]
    simp only [ref05_OfWide_g (show 0 < 2 ^ 384 from Nat.pow_pos (by decide)), hM, Option.bind_some]
    have : clsF f b = 3 ∨ clsF f b = 4 := by omega
    rcases this with e | e <;> rw [e] <;> rfl

end Go.Proofs.YtnfbcofieobkkaaDoor
