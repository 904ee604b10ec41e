/- The formats: their numbers and encodings; what the bits of a format are. -/
import Derived.Test.YtnfbcofieobkkaaDoorM7
import Derived.Test.YtnfbcofieobkkaaDoorPS
import Derived.Test.YtnfbcofieobkkaaDoorMN
namespace Go.Proofs.YtnfbcofieobkkaaDoor
open Go Go.Proofs Ev
set_option linter.unusedVariables false
set_option exponentiation.threshold 512
set_option linter.unusedSimpArgs false

/-! ### the formats' numbers -/
def pF (f : Nat) : Nat := match f with | 0 => 24 | 1 => 53 | 2 => 11 | _ => 113
def wF (f : Nat) : Nat := match f with | 0 => 32 | 1 => 64 | 2 => 16 | _ => 128
def eF (f : Nat) : Nat := match f with | 0 => 127 | 1 => 1023 | 2 => 15 | _ => 16383

theorem le3 {f : Nat} (h : f ≤ 3) : f = 0 ∨ f = 1 ∨ f = 2 ∨ f = 3 := by omega
theorem factsF {f : Nat} (h : f ≤ 3) : 11 ≤ pF f ∧ pF f ≤ 113 ∧ pF f < wF f ∧ wF f ≤ 128 ∧ 15 ≤ eF f ∧ eF f ≤ 16383 ∧ 2 ^ (wF f - pF f) = 2 * eF f + 2 ∧ wF f - pF f ≤ 15 ∧ pF f < eF f := by
  rcases le3 h with rfl | rfl | rfl | rfl <;> decide

theorem nums0 : shape_numbers.g 0 = some (32, 24, 127, ⟨#[115]⟩) := by kernel_rfl
theorem nums1 : shape_numbers.g 1 = some (64, 53, 1023, ⟨#[100]⟩) := by kernel_rfl
theorem nums2 : shape_numbers.g 2 = some (16, 11, 15, ⟨#[104]⟩) := by kernel_rfl
theorem nums3 : shape_numbers.g 3 = some (128, 113, 16383, ⟨#[113]⟩) := by kernel_rfl

theorem shape_Precision_g {f : Nat} (h : f ≤ 3) : shape_Precision.g (f : Int) = some ((pF f : Nat) : Int) := by
  rcases le3 h with rfl | rfl | rfl | rfl
  · exact congrArg (fun o : Option (Int × Int × Int × ByteArray) => o.bind fun r => some r.snd.fst) nums0
  · exact congrArg (fun o : Option (Int × Int × Int × ByteArray) => o.bind fun r => some r.snd.fst) nums1
  · exact congrArg (fun o : Option (Int × Int × Int × ByteArray) => o.bind fun r => some r.snd.fst) nums2
  · exact congrArg (fun o : Option (Int × Int × Int × ByteArray) => o.bind fun r => some r.snd.fst) nums3
theorem shape_Width_g {f : Nat} (h : f ≤ 3) : shape_Width.g (f : Int) = some ((wF f : Nat) : Int) := by
  rcases le3 h with rfl | rfl | rfl | rfl
  · exact congrArg (fun o : Option (Int × Int × Int × ByteArray) => o.bind fun r => some r.fst) nums0
  · exact congrArg (fun o : Option (Int × Int × Int × ByteArray) => o.bind fun r => some r.fst) nums1
  · exact congrArg (fun o : Option (Int × Int × Int × ByteArray) => o.bind fun r => some r.fst) nums2
  · exact congrArg (fun o : Option (Int × Int × Int × ByteArray) => o.bind fun r => some r.fst) nums3
theorem shape_Emax_g {f : Nat} (h : f ≤ 3) : shape_Emax.g (f : Int) = some ((eF f : Nat) : Int) := by
  rcases le3 h with rfl | rfl | rfl | rfl
  · exact congrArg (fun o : Option (Int × Int × Int × ByteArray) => o.bind fun r => some r.snd.snd.fst) nums0
  · exact congrArg (fun o : Option (Int × Int × Int × ByteArray) => o.bind fun r => some r.snd.snd.fst) nums1
  · exact congrArg (fun o : Option (Int × Int × Int × ByteArray) => o.bind fun r => some r.snd.snd.fst) nums2
  · exact congrArg (fun o : Option (Int × Int × Int × ByteArray) => o.bind fun r => some r.snd.snd.fst) nums3
theorem shape_Precision_over {f : Nat} (h1 : 3 < f) (h2 : f < 256) : shape_Precision.g (f : Int) = some 0 := by
  obtain ⟨s, hs⟩ := nums_over h1 h2
  unfold shape_Precision.g
  rw [hs]; rfl
theorem shape_Check_g (f : Nat) : shape_Check.g (f : Int) = some (if f ≤ 3 then 0 else 2) := by
  unfold shape_Check.g
  by_cases h : f ≤ 3
  · rw [decide_eq_false (by omega : ¬ (3 : Int) < (f : Int)), if_pos h]; rfl
  · rw [decide_eq_true (by omega : (3 : Int) < (f : Int)), if_neg h]; rfl
theorem shape_Check_ok {f : Nat} (h : f ≤ 3) : shape_Check.g (f : Int) = some 0 := by rw [shape_Check_g, if_pos h]
theorem shape_CheckMode_g (m : Nat) : shape_CheckMode.g (m : Int) = some (if m ≤ 4 then 0 else 2) := by
  unfold shape_CheckMode.g
  by_cases h : m ≤ 4
  · rw [decide_eq_false (by omega : ¬ (4 : Int) < (m : Int)), if_pos h]; rfl
  · rw [decide_eq_true (by omega : (4 : Int) < (m : Int)), if_neg h]; rfl
theorem shape_Emin_g {f : Nat} (h : f ≤ 3) : shape_Emin.g (f : Int) = some (1 - ((eF f : Nat) : Int)) := by
  have := (factsF h).2.2.2.2.2.1
  unfold shape_Emin.g
  rw [shape_Check_ok h, Option.bind_some, shape_Emax_g h]
  simp only [beq_self_eq_true, Bool.not_true, cond_false, Option.bind_some]
  rw [wrap_i64 (by omega) (by omega)]
theorem ref07_Precision_g {f : Nat} (h : f ≤ 3) : ref07_Precision.g (f : Int) = some ((pF f : Nat) : Int) := by
  rcases le3 h with rfl | rfl | rfl | rfl <;> rfl
theorem ref07_Width_g {f : Nat} (h : f ≤ 3) : ref07_Width.g (f : Int) = some ((wF f : Nat) : Int) := by
  rcases le3 h with rfl | rfl | rfl | rfl <;> rfl
theorem ref07_Emax_g {f : Nat} (h : f ≤ 3) : ref07_Emax.g (f : Int) = some ((eF f : Nat) : Int) := by
  rcases le3 h with rfl | rfl | rfl | rfl <;> rfl
theorem ref07_Right_g (f : Nat) : ref07_Right.g (f : Int) = some (decide (f ≤ 3)) := by
  unfold ref07_Right.g
  exact congrArg some (decide_eq_decide.2 (by omega))
theorem ref07_RightMode_g (m : Nat) : ref07_RightMode.g (m : Int) = some (decide (m ≤ 4)) := by
  unfold ref07_RightMode.g
  exact congrArg some (decide_eq_decide.2 (by omega))
theorem ref07_Emin_g {f : Nat} (h : f ≤ 3) : ref07_Emin.g (f : Int) = some (1 - ((eF f : Nat) : Int)) := by
  have := (factsF h).2.2.2.2.2.1
  unfold ref07_Emin.g
  rw [ref07_Right_g, Option.bind_some, decide_eq_true h, ref07_Emax_g h]
  simp only [Bool.not_true, cond_false, Option.bind_some]
  rw [wrap_i64 (by omega) (by omega)]
theorem ref07_Ones_g {f : Nat} (h : f ≤ 3) : ref07_Ones.g (f : Int) = some ((2 * eF f + 1 : Nat) : Int) := by
  have := (factsF h).2.2.2.2.2.1
  unfold ref07_Ones.g
  rw [ref07_Emax_g h, Option.bind_some, wrap_i64 (x := 2 * ((eF f : Nat) : Int)) (by omega) (by omega), wrap_i64 (by omega) (by omega)]
  congr 1

/-! ### encodings that are told apart from no number -/
theorem zeroB : ({ hi := (0 : Int), lo := (0 : Int) : B2 }) = B2.of 0 := by simp [B2.of, wd]

/-- The sign bit. -/
def sgF (f : Nat) (neg : Bool) : Nat := if neg then 2 ^ (wF f - 1) else 0
def nanN (f : Nat) : Nat := (2 * eF f + 1) * 2 ^ (pF f - 1) + 2 ^ (pF f - 2)
def infN (f : Nat) (neg : Bool) : Nat := (2 * eF f + 1) * 2 ^ (pF f - 1) + sgF f neg
def greN (f : Nat) (neg : Bool) : Nat := (2 * eF f + 1) * 2 ^ (pF f - 1) - 1 + sgF f neg
def oneN (f : Nat) (neg : Bool) : Nat := eF f * 2 ^ (pF f - 1) + sgF f neg

theorem fits_lo {n : Nat} (h : n < 2 ^ 128) : B2.of n = ⟨((n / 18446744073709551616 : Nat) : Int), ((n % 18446744073709551616 : Nat) : Int)⟩ := by
  simp only [B2.of, wd, Nat.mul_zero, Nat.pow_zero, Nat.div_one]
  congr 2
  omega
theorem shape_NaN_g {f : Nat} (h : f ≤ 3) : shape_NaN.g (f : Int) = some (B2.of (nanN f)) := by
  rcases le3 h with rfl | rfl | rfl | rfl <;> kernel_rfl
theorem shape_Inf_g {f : Nat} (h : f ≤ 3) (neg : Bool) : shape_Inf.g (f : Int) neg = some (B2.of (infN f neg)) := by
  rcases le3 h with rfl | rfl | rfl | rfl <;> cases neg <;> kernel_rfl
theorem shape_Zero_g {f : Nat} (h : f ≤ 3) (neg : Bool) : shape_Zero.g (f : Int) neg = some (B2.of (sgF f neg)) := by
  rcases le3 h with rfl | rfl | rfl | rfl <;> cases neg <;> kernel_rfl
theorem shape_Greatest_g {f : Nat} (h : f ≤ 3) (neg : Bool) : shape_Greatest.g (f : Int) neg = some (B2.of (greN f neg)) := by
  rcases le3 h with rfl | rfl | rfl | rfl <;> cases neg <;> kernel_rfl

theorem sgF_lt {f : Nat} (h : f ≤ 3) (neg : Bool) : sgF f neg < 2 ^ 128 := by
  rcases le3 h with rfl | rfl | rfl | rfl <;> cases neg <;> decide

/-! ### an encoding's three fields -/
theorem top_field {f : Nat} (h : f ≤ 3) {e t : Nat} (he : e ≤ 2 * eF f + 1) (ht : t < 2 ^ (pF f - 1)) : e * 2 ^ (pF f - 1) + t < 2 ^ (wF f - 1) := by
  obtain ⟨h1, h2, h3, h4, h5, h6, h7, h8, h9⟩ := factsF h
  have e2 : (2 : Nat) ^ (wF f - 1) = 2 ^ (wF f - pF f) * 2 ^ (pF f - 1) := by rw [← Nat.pow_add, show wF f - pF f + (pF f - 1) = wF f - 1 by omega]
  rw [e2, h7]
  have : (e + 1) * 2 ^ (pF f - 1) ≤ (2 * eF f + 2) * 2 ^ (pF f - 1) := Nat.mul_le_mul_right _ (by omega)
  rw [Nat.succ_mul] at this
  omega
/-! ### which encodings fit -/
theorem shape_Fits_g {f : Nat} (hf : f < 256) {b : Nat} (hb : b < 2 ^ 128) : shape_Fits.g (f : Int) (B2.of b) = some (decide (f ≤ 3 ∧ b < 2 ^ wF f)) := by
  unfold shape_Fits.g
  rw [fits_lo hb]
  have hq : b / 18446744073709551616 < 18446744073709551616 := by omega
  by_cases h : f ≤ 3
  · rcases le3 h with rfl | rfl | rfl | rfl
    · have hW := shape_Width_g (f := 0) (by decide)
      rw [show ((0 : Nat) : Int) = 0 from rfl] at hW ⊢
      rw [hW]
      simp only [show ((0 : Int) == 3) = false from rfl, show ((0 : Int) == 1) = false from rfl, show ((0 : Int) == 0) = true from rfl, cond_true, cond_false, Option.bind_some]
      rw [show IntKind.u64.wrap ((wF 0 : Nat) : Int) = ((32 : Nat) : Int) from by rw [wrap_u64 (by decide) (by decide)]; rfl, shr_u64]
      simp only [show min 32 64 = 32 from rfl]
      by_cases hz : b / 18446744073709551616 = 0
      · rw [hz, show (((0 : Nat) : Int) == 0) = true from rfl, cond_true]
        refine congrArg some ?_
        rw [Bool.eq_iff_iff]
        simp only [beq_iff_eq, decide_eq_true_eq, wF]
        omega
      · rw [show (((b / 18446744073709551616 : Nat) : Int) == 0) = false by rw [beq_eq_false_iff_ne]; omega, cond_false]
        refine congrArg some ?_
        exact (decide_eq_false (by simp only [wF]; omega)).symm
    · rw [show ((1 : Nat) : Int) = 1 from rfl]
      simp only [show ((1 : Int) == 3) = false from rfl, show ((1 : Int) == 1) = true from rfl, cond_true, cond_false]
      refine congrArg some ?_
      rw [Bool.eq_iff_iff]
      simp only [beq_iff_eq, decide_eq_true_eq, wF]
      omega
    · have hW := shape_Width_g (f := 2) (by decide)
      rw [show ((2 : Nat) : Int) = 2 from rfl] at hW ⊢
      rw [hW]
      simp only [show ((2 : Int) == 3) = false from rfl, show ((2 : Int) == 1) = false from rfl, show ((2 : Int) == 0) = false from rfl, show ((2 : Int) == 2) = true from rfl, cond_true, cond_false, Option.bind_some]
      rw [show IntKind.u64.wrap ((wF 2 : Nat) : Int) = ((16 : Nat) : Int) from by rw [wrap_u64 (by decide) (by decide)]; rfl, shr_u64]
      simp only [show min 16 64 = 16 from rfl]
      by_cases hz : b / 18446744073709551616 = 0
      · rw [hz, show (((0 : Nat) : Int) == 0) = true from rfl, cond_true]
        refine congrArg some ?_
        rw [Bool.eq_iff_iff]
        simp only [beq_iff_eq, decide_eq_true_eq, wF]
        omega
      · rw [show (((b / 18446744073709551616 : Nat) : Int) == 0) = false by rw [beq_eq_false_iff_ne]; omega, cond_false]
        refine congrArg some ?_
        exact (decide_eq_false (by simp only [wF]; omega)).symm
    · rw [show ((3 : Nat) : Int) = 3 from rfl]
      simp only [show ((3 : Int) == 3) = true from rfl, cond_true]
      refine congrArg some ?_
      exact (decide_eq_true ⟨by decide, hb⟩).symm
  · rw [show ((f : Int) == 3) = false by rw [beq_eq_false_iff_ne]; omega, show ((f : Int) == 1) = false by rw [beq_eq_false_iff_ne]; omega, show ((f : Int) == 0) = false by rw [beq_eq_false_iff_ne]; omega, show ((f : Int) == 2) = false by rw [beq_eq_false_iff_ne]; omega]
    simp only [cond_false]
    refine congrArg some ?_
    exact (decide_eq_false (fun hc => h hc.1)).symm
theorem ref07_Fits_g {f : Nat} {b : Nat} (hb : b < 2 ^ 128) : ref07_Fits.g (f : Int) (B2.of b) = some (decide (f ≤ 3 ∧ b < 2 ^ wF f)) := by
  unfold ref07_Fits.g
  rw [ref07_Right_g, Option.bind_some]
  by_cases h : f ≤ 3
  · rw [decide_eq_true h, cond_true, ref02_OfBits_g hb, Option.bind_some, ref02_Len_g (Nat.lt_trans hb (by decide)), Option.bind_some, ref07_Width_g h, Option.bind_some]
    congr 1
    refine decide_eq_decide.2 ?_
    rw [← bl_le_iff]
    omega
  · rw [decide_eq_false h, cond_false]
    refine congrArg some ?_
    exact (decide_eq_false (fun hc => h hc.1)).symm

/-! ### the fields of an encoding -/
def neF (f b : Nat) : Bool := b.testBit (wF f - 1)
def exF (f b : Nat) : Nat := b / 2 ^ (pF f - 1) % 2 ^ (wF f - pF f)
def trF (f b : Nat) : Nat := b % 2 ^ (pF f - 1)

theorem and_mask {x m : Nat} (h : x < 9223372036854775808) (hm : m < 63) : andI .i64 (x : Int) ((2 ^ m - 1 : Nat) : Int) = ((x % 2 ^ m : Nat) : Int) := by
  have : (2 : Nat) ^ m ≤ 2 ^ 62 := Nat.pow_le_pow_right (by decide) (by omega)
  rw [and_i64 h (by omega), Nat.and_two_pow_sub_one_eq_mod]

theorem exF_wd {f b : Nat} (h : f ≤ 3) (hb : b < 2 ^ wF f) : ((W6.of (b / 2 ^ (pF f - 1))).w0) = ((b / 2 ^ (pF f - 1) : Nat) : Int) ∧ b / 2 ^ (pF f - 1) < 65536 := by
  obtain ⟨h1, h2, h3, h4, h5, h6, h7, h8, h9⟩ := factsF h
  have hlt : b / 2 ^ (pF f - 1) < 65536 := by
    rw [Nat.div_lt_iff_lt_mul (Nat.pow_pos (by decide)), show (65536 : Nat) = 2 ^ 16 from rfl, ← Nat.pow_add]
    exact Nat.lt_of_lt_of_le hb (Nat.pow_le_pow_right (by decide) (by omega))
  refine ⟨?_, hlt⟩
  rw [of_w0]
  congr 1
  unfold wd
  rw [Nat.mul_zero, Nat.pow_zero, Nat.div_one, Nat.mod_eq_of_lt (Nat.lt_trans hlt (by decide))]

theorem kind_fields_g {f b : Nat} (h : f ≤ 3) (hb : b < 2 ^ wF f) : kind_fields.g (f : Int) (B2.of b) = some (neF f b, ((exF f b : Nat) : Int), W6.of (trF f b)) := by
  obtain ⟨h1, h2, h3, h4, h5, h6, h7, h8, h9⟩ := factsF h
  have hb128 : b < 2 ^ 128 := Nat.lt_of_lt_of_le hb (Nat.pow_le_pow_right (by decide) h4)
  have hb384 : b < 2 ^ 384 := Nat.lt_trans hb128 (by decide)
  obtain ⟨q1, q2⟩ := exF_wd h hb
  unfold kind_fields.g
  rw [wide_OfBits_g hb128, Option.bind_some, shape_Precision_g h, Option.bind_some, shape_Width_g h, Option.bind_some, wrap_i64 (x := ((pF f : Nat) : Int) - 1) (by omega) (by omega), wide_Mask_g, Option.bind_some, wide_And_g, Option.bind_some, wide_Right_g hb384, Option.bind_some, wrap_i64 (x := ((wF f : Nat) : Int) - 1) (by omega) (by omega), wide_Bit_g hb384, Option.bind_some,
    show (((pF f : Nat) : Int) - 1).toNat = pF f - 1 by omega, show (((wF f : Nat) : Int) - 1).toNat = wF f - 1 by omega, Nat.min_eq_left (by omega)]
  dsimp only
  rw [q1, i64_nat (by omega), show ((wF f : Nat) : Int) - ((pF f : Nat) : Int) = ((wF f - pF f : Nat) : Int) by omega, i64_nat (by omega), wrap_u64 (by omega) (by omega), show (1 : Int) = ((1 : Nat) : Int) from rfl]
  have hp : (2 : Nat) ^ (wF f - pF f) ≤ 2 ^ 15 := Nat.pow_le_pow_right (by decide) h8
  have hp0 : 0 < (2 : Nat) ^ (wF f - pF f) := Nat.pow_pos (by decide)
  rw [shl_i64 _ _ (by omega) (by omega), Nat.one_mul, show ((2 ^ (wF f - pF f) : Nat) : Int) - ((1 : Nat) : Int) = ((2 ^ (wF f - pF f) - 1 : Nat) : Int) by omega, i64_nat (by omega), and_mask (by omega) (by omega), Nat.and_two_pow_sub_one_eq_mod, decide_eq_true (by omega : (0 : Int) ≤ ((wF f : Nat) : Int) - ((1 : Nat) : Int))]
  rfl
theorem ref07_Fields_g {f b : Nat} (h : f ≤ 3) (hb : b < 2 ^ wF f) : ref07_Fields.g (f : Int) (B2.of b) = some (neF f b, ((exF f b : Nat) : Int), W6.of (trF f b)) := by
  obtain ⟨h1, h2, h3, h4, h5, h6, h7, h8, h9⟩ := factsF h
  have hb128 : b < 2 ^ 128 := Nat.lt_of_lt_of_le hb (Nat.pow_le_pow_right (by decide) h4)
  have hb384 : b < 2 ^ 384 := Nat.lt_trans hb128 (by decide)
  obtain ⟨q1, q2⟩ := exF_wd h hb
  unfold ref07_Fields.g
  rw [ref02_OfBits_g hb128, Option.bind_some, ref07_Width_g h, Option.bind_some, wrap_i64 (x := ((wF f : Nat) : Int) - 1) (by omega) (by omega), ref02_Bit_g hb384, Option.bind_some, ref07_Precision_g h, Option.bind_some, wrap_i64 (x := ((pF f : Nat) : Int) - 1) (by omega) (by omega), ref02_Mask_g, Option.bind_some, ref02_And_g, Option.bind_some, Option.bind_some, wrap_i64 (x := ((pF f : Nat) : Int) - 1) (by omega) (by omega), ref02_Right_g hb384, Option.bind_some, ref07_Ones_g h, Option.bind_some,
    show (((pF f : Nat) : Int) - 1).toNat = pF f - 1 by omega, show (((wF f : Nat) : Int) - 1).toNat = wF f - 1 by omega, Nat.min_eq_left (by omega)]
  dsimp only
  rw [q1, i64_nat (by omega), show 2 * eF f + 1 = 2 ^ (wF f - pF f) - 1 by omega, and_mask (by omega) (by omega), Nat.and_two_pow_sub_one_eq_mod, decide_eq_true (by omega : (0 : Int) ≤ ((wF f : Nat) : Int) - 1)]
  rfl

/-! ### what bits are -/
def clsF (f b : Nat) : Nat :=
  if exF f b = 2 * eF f + 1 then (if trF f b ≠ 0 then (if (trF f b).testBit (pF f - 2) then 9 else 8) else if neF f b then 0 else 7)
  else if exF f b ≠ 0 then (if neF f b then 1 else 6)
  else if trF f b ≠ 0 then (if neF f b then 2 else 5)
  else if neF f b then 3 else 4

theorem trF_lt {f b : Nat} (h : f ≤ 3) : trF f b < 2 ^ (pF f - 1) := Nat.mod_lt _ (Nat.pow_pos (by decide))
theorem trF_384 {f b : Nat} (h : f ≤ 3) : trF f b < 2 ^ 384 :=
  Nat.lt_of_lt_of_le (trF_lt h) (Nat.pow_le_pow_right (by decide) (by have := factsF h; omega))

theorem kind_class_g {f b : Nat} (h : f ≤ 3) (hb : b < 2 ^ wF f) : kind_class.g (f : Int) (B2.of b) = some ((clsF f b : Nat) : Int) := by
  obtain ⟨h1, h2, h3, h4, h5, h6, h7, h8, h9⟩ := factsF h
  unfold kind_class.g
  have e1 : IntKind.i64.wrap (IntKind.i64.wrap ((2 : Int) * ((eF f : Nat) : Int)) + (1 : Int)) = ((2 * eF f + 1 : Nat) : Int) := by
    rw [wrap_i64 (x := 2 * ((eF f : Nat) : Int)) (by omega) (by omega), wrap_i64 (by omega) (by omega)]; omega
  have e2 : (((exF f b : Nat) : Int) == ((2 * eF f + 1 : Nat) : Int)) = decide (exF f b = 2 * eF f + 1) := by
    rw [Bool.eq_iff_iff, beq_iff_eq, decide_eq_true_eq]; omega
  rw [kind_fields_g h hb]
  simp only [Option.bind_some, shape_Emax_g h, shape_Precision_g h, e1, e2, isz (trF_384 h), bne0, wrap_i64 (show -9223372036854775808 ≤ ((pF f : Nat) : Int) - 2 by omega) (show ((pF f : Nat) : Int) - 2 < 9223372036854775808 by omega), wide_Bit_g (trF_384 h), show (((pF f : Nat) : Int) - 2).toNat = pF f - 2 by omega, decide_eq_true (show (0 : Int) ≤ ((pF f : Nat) : Int) - 2 by omega), Bool.true_and]
  unfold clsF
  generalize (trF f b).testBit (pF f - 2) = q
  generalize neF f b = s
  by_cases c1 : exF f b = 2 * eF f + 1
  · by_cases c2 : trF f b = 0
    · have c3 : exF f b ≠ 0 := by omega
      cases s <;> simp [c1, c2]
    · cases q <;> simp [c1, c2]
  · by_cases c3 : exF f b = 0
    · by_cases c2 : trF f b = 0 <;> cases s <;> simp [c1, c2, c3]
    · by_cases c2 : trF f b = 0 <;> cases s <;> simp [c1, c2, c3]
theorem ref08_Class_g {f b : Nat} (h : f ≤ 3) (hb : b < 2 ^ wF f) : ref08_Class.g (f : Int) (B2.of b) = some ((clsF f b : Nat) : Int) := by
  obtain ⟨h1, h2, h3, h4, h5, h6, h7, h8, h9⟩ := factsF h
  unfold ref08_Class.g
  have e2 : (((exF f b : Nat) : Int) == ((2 * eF f + 1 : Nat) : Int)) = decide (exF f b = 2 * eF f + 1) := by
    rw [Bool.eq_iff_iff, beq_iff_eq, decide_eq_true_eq]; omega
  rw [ref07_Fields_g h hb]
  simp only [Option.bind_some, ref07_Ones_g h, ref07_Precision_g h, e2, isz (trF_384 h), bne0, wrap_i64 (show -9223372036854775808 ≤ ((pF f : Nat) : Int) - 2 by omega) (show ((pF f : Nat) : Int) - 2 < 9223372036854775808 by omega), ref02_Bit_g (trF_384 h), show (((pF f : Nat) : Int) - 2).toNat = pF f - 2 by omega, decide_eq_true (show (0 : Int) ≤ ((pF f : Nat) : Int) - 2 by omega), Bool.true_and]
  unfold clsF
  generalize (trF f b).testBit (pF f - 2) = q
  generalize neF f b = s
  by_cases c1 : exF f b = 2 * eF f + 1
  · by_cases c2 : trF f b = 0
    · cases s <;> simp [c1, c2]
    · cases q <;> simp [c1, c2]
  · by_cases c3 : exF f b = 0
    · by_cases c2 : trF f b = 0 <;> cases s <;> simp [c1, c2, c3]
    · by_cases c2 : trF f b = 0 <;> cases s <;> simp [c1, c2, c3]

theorem clsF_le (f b : Nat) : clsF f b ≤ 9 := by
  unfold clsF
  repeat' split
  all_goals omega

theorem beqN (x y : Nat) : (((x : Nat) : Int) == ((y : Nat) : Int)) = decide (x = y) := by
  rw [Bool.eq_iff_iff, beq_iff_eq, decide_eq_true_eq]; omega

theorem ref08_IsNaN_g {f b : Nat} (h : f ≤ 3) (hb : b < 2 ^ wF f) : ref08_IsNaN.g (f : Int) (B2.of b) = some (decide (8 ≤ clsF f b)) := by
  unfold ref08_IsNaN.g
  rw [ref08_Class_g h hb, Option.bind_some]
  exact congrArg some (decide_eq_decide.2 (by omega))
theorem ref08_IsInf_g {f b : Nat} (h : f ≤ 3) (hb : b < 2 ^ wF f) : ref08_IsInf.g (f : Int) (B2.of b) = some (decide (clsF f b = 0 ∨ clsF f b = 7)) := by
  unfold ref08_IsInf.g
  rw [ref08_Class_g h hb, Option.bind_some, show (((clsF f b : Nat) : Int) == (0 : Int)) = decide (clsF f b = 0) from beqN _ 0, show (((clsF f b : Nat) : Int) == (7 : Int)) = decide (clsF f b = 7) from beqN _ 7]
  by_cases c : clsF f b = 0 <;> simp [c]
theorem ref08_IsZero_g {f b : Nat} (h : f ≤ 3) (hb : b < 2 ^ wF f) : ref08_IsZero.g (f : Int) (B2.of b) = some (decide (clsF f b = 3 ∨ clsF f b = 4)) := by
  unfold ref08_IsZero.g
  rw [ref08_Class_g h hb, Option.bind_some, show (((clsF f b : Nat) : Int) == (3 : Int)) = decide (clsF f b = 3) from beqN _ 3, show (((clsF f b : Nat) : Int) == (4 : Int)) = decide (clsF f b = 4) from beqN _ 4]
  by_cases c : clsF f b = 3 <;> simp [c]
theorem ref08_Sign_g {f b : Nat} (h : f ≤ 3) (hb : b < 2 ^ wF f) : ref08_Sign.g (f : Int) (B2.of b) = some (neF f b) := by
  unfold ref08_Sign.g
  have hb128 : b < 2 ^ 128 := Nat.lt_of_lt_of_le hb (Nat.pow_le_pow_right (by decide) (by have := factsF h; omega))
  rw [ref07_Fits_g hb128, Option.bind_some, decide_eq_true ⟨h, hb⟩, Bool.not_true, cond_false, ref07_Fields_g h hb]
  rfl
theorem neF_cls {f b : Nat} (h : clsF f b < 8) : neF f b = decide (clsF f b < 4) := by
  unfold clsF at h ⊢
  repeat' split
  all_goals simp_all

/-- The parts. -/
def sigF (f b : Nat) : Nat := if exF f b ≠ 0 then 2 ^ (pF f - 1) + trF f b else trF f b
def xpF (f b : Nat) : Int := if exF f b ≠ 0 then (exF f b : Int) - eF f - pF f + 1 else 2 - (eF f : Int) - pF f
def finF (f b : Nat) : Prop := clsF f b = 1 ∨ clsF f b = 2 ∨ clsF f b = 5 ∨ clsF f b = 6
instance (f b : Nat) : Decidable (finF f b) := inferInstanceAs (Decidable (_ ∨ _ ∨ _ ∨ _))
def ptsC (c sg : Nat) (x : Int) (t : Nat) : Pts :=
  if 8 ≤ c then ⟨(c : Int), W6.of 0, 0, W6.of t⟩
  else if c = 1 ∨ c = 2 ∨ c = 5 ∨ c = 6 then ⟨(c : Int), W6.of sg, x, W6.of 0⟩
  else ⟨(c : Int), W6.of 0, 0, W6.of 0⟩
def ptsF (f b : Nat) : Pts := ptsC (clsF f b) (sigF f b) (xpF f b) (trF f b)

theorem cls_norm {f b : Nat} (h : clsF f b = 1 ∨ clsF f b = 6) : exF f b ≠ 0 ∧ exF f b ≠ 2 * eF f + 1 := by
  unfold clsF at h
  repeat' split at h
  all_goals simp_all
theorem cls_sub {f b : Nat} (h : clsF f b = 2 ∨ clsF f b = 5) : exF f b = 0 ∧ trF f b ≠ 0 := by
  unfold clsF at h
  repeat' split at h
  all_goals simp_all
theorem cls_zero {f b : Nat} (h : clsF f b = 3 ∨ clsF f b = 4) : exF f b = 0 ∧ trF f b = 0 := by
  unfold clsF at h
  repeat' split at h
  all_goals simp_all

end Go.Proofs.YtnfbcofieobkkaaDoor
