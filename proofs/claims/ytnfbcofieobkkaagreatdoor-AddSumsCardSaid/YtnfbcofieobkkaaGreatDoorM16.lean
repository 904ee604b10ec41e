/- Exact products. -/
import Derived.Test.YtnfbcofieobkkaaGreatDoorM15
namespace Go.Proofs.YtnfbcofieobkkaaGreatDoor
open Go Go.Proofs Ev
set_option linter.unusedVariables false
set_option exponentiation.threshold 512
set_option maxRecDepth 100000
set_option linter.unusedSimpArgs false

theorem odd_mul_pow {n : Nat} (h : n ≠ 0) (k : Nat) : oddN (n * 2 ^ k) = oddN n := by
  unfold oddN
  rw [tz_mul_pow h, Nat.pow_add, Nat.mul_div_mul_right _ _ (Nat.pow_pos (by decide))]
theorem odd_odd {a b : Nat} (ha : a % 2 = 1) (hb : b % 2 = 1) : a * b % 2 = 1 := by
  rw [Nat.mul_mod, ha, hb]
theorem odd_mul {a b : Nat} (ha : a ≠ 0) (hb : b ≠ 0) : oddN (a * b) = oddN a * oddN b ∧ tz (a * b) = tz a + tz b := by
  have ho := odd_odd (oddN_odd ha) (oddN_odd hb)
  have hne : oddN a * oddN b ≠ 0 := fun hc => by rw [hc] at ho; cases ho
  have e : a * b = oddN a * oddN b * 2 ^ (tz a + tz b) := by
    rw (occs := .pos [1]) [← oddN_mul ha, ← oddN_mul hb]
    rw [Nat.pow_add, Nat.mul_assoc, Nat.mul_assoc, Nat.mul_left_comm (2 ^ tz a)]
  rw [e, odd_mul_pow hne, tz_mul_pow hne, oddN_self ho, tz_odd ho]
  exact ⟨rfl, by omega⟩
theorem bl_mul_le (a b : Nat) : bl (a * b) ≤ bl a + bl b := by
  rw [bl_le_iff, Nat.pow_add]
  by_cases h : b = 0
  · subst h; rw [Nat.mul_zero]; exact Nat.mul_pos (Nat.pow_pos (by decide)) (Nat.pow_pos (by decide))
  · exact Nat.mul_lt_mul_of_lt_of_le (bl_lt a) (Nat.le_of_lt (bl_lt b)) (Nat.pow_pos (by decide))
theorem nb_mul_le {a b k : Nat} (h : bl a + bl b ≤ 8 * k) : nb (a * b) ≤ k := bl_dvd_nb (Nat.le_trans (bl_mul_le a b) h)

theorem ref06_Mul_g (na nb_ : Bool) {a b : Nat} {ea eb : Int} (ha : a % 2 = 1) (hb : b % 2 = 1) (la : bl a ≤ 1000) (lb : bl b ≤ 1000) (h1 : -500000 ≤ ea ∧ ea ≤ 500000) (h2 : -500000 ≤ eb ∧ eb ≤ 500000) :
    ref06_Mul.g ⟨na, sOf a, sOf 1, ea⟩ ⟨nb_, sOf b, sOf 1, eb⟩ = some (⟨!(na == nb_), sOf (a * b), sOf 1, ea + eb⟩, 0) := by
  have ho := odd_odd ha hb
  have n1 : nb a ≤ 125 := bl_dvd_nb (by omega)
  have n2 : nb b ≤ 125 := bl_dvd_nb (by omega)
  have n3 : nb (a * b) ≤ 250 := nb_mul_le (by omega)
  have hM := ref06_Make_1 (!(na == nb_)) (n := a * b) (e := ea + eb) (by omega) (by omega) (by omega) (by rw [tz_odd ho]; omega)
  rw [oddN_self ho, tz_odd ho] at hM
  have h11 : ref05_Mul.g (sOf 1) (sOf 1) = some (sOf 1, 0) := ref05_Mul_g (a := 1) (b := 1) (by rw [nb_one]; omega) (by rw [Nat.mul_one, nb_one]; omega)
  unfold ref06_Mul.g
  dsimp only
  rw [emptyS, strEq_sOf, decide_eq_false (by omega), bF, strEq_sOf, decide_eq_false (by omega), bF, ref05_Mul_g (by omega) (by omega), obind, h11, obind]
  dsimp only
  rw [wrap_i64 (x := ea + eb) (by omega) (by omega), decide_eq_false (by omega : ¬ ea + eb < -1048576), decide_eq_false (by omega : ¬ 1048576 < ea + eb), show (!((0 : Int) == 0)) = false from rfl, bF, bF, bF, bF, hM, obind]
  simp

/-- The product of two numbers, exactly. -/
theorem mul_Value {f a b : Nat} (h : f ≤ 3) (fa : finF f a) (fb : finF f b) : ref06_Mul.g (valF f a) (valF f b) = some (⟨!(neF f a == neF f b), sOf (oddN (sigF f a * sigF f b)), sOf 1, xpF f a + xpF f b + tz (sigF f a * sigF f b)⟩, 0) := by
  have pa := sigF_pos fa
  have pb := sigF_pos fb
  have sa := sig_small (b := a) h
  have sb := sig_small (b := b) h
  have xa := xpF_bounds h fa
  have xb := xpF_bounds h fb
  have hF := factsF h
  have ta := tz_lt_bl pa
  have tb := tz_lt_bl pb
  have ba := bl_oddN pa
  have bb := bl_oddN pb
  rw [valF_fin fa, valF_fin fb, ref06_Mul_g _ _ (oddN_odd pa) (oddN_odd pb) (by omega) (by omega) (by omega) (by omega), (odd_mul pa pb).1, (odd_mul pa pb).2, show xpF f a + ((tz (sigF f a) : Nat) : Int) + (xpF f b + ((tz (sigF f b) : Nat) : Int)) = xpF f a + xpF f b + ((tz (sigF f a) + tz (sigF f b) : Nat) : Int) by omega]
theorem sig_mul_lt {f a b : Nat} (h : f ≤ 3) : bl (sigF f a * sigF f b) ≤ 226 ∧ sigF f a * sigF f b < 2 ^ 384 := by
  have sa := sig_small (b := a) h
  have sb := sig_small (b := b) h
  have := bl_mul_le (sigF f a) (sigF f b)
  exact ⟨by omega, bl_le_iff.1 (by omega)⟩

end Go.Proofs.YtnfbcofieobkkaaGreatDoor
