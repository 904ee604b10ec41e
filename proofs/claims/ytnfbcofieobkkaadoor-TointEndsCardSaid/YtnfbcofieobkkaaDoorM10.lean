/- The document's exact numbers. -/
import Derived.Test.YtnfbcofieobkkaaDoorM9
namespace Go.Proofs.YtnfbcofieobkkaaDoor
open Go Go.Proofs Ev
set_option linter.unusedVariables false
set_option linter.unusedSimpArgs false

/-- A fraction's whole part, moved by k places; whether nothing is left. -/
def flq (n d : Nat) (k : Int) : Nat := n * 2 ^ k.toNat / (d * 2 ^ (-k).toNat)
def exq (n d : Nat) (k : Int) : Bool := decide (n * 2 ^ k.toNat % (d * 2 ^ (-k).toNat) = 0)
/-- The place of a fraction's highest bit. -/
def topQ (n d : Nat) : Int :=
  if bl d ≤ bl n then (if d * 2 ^ (bl n - bl d) ≤ n then (bl n : Int) - bl d else (bl n : Int) - bl d - 1)
  else (if d ≤ n * 2 ^ (bl d - bl n) then (bl n : Int) - bl d else (bl n : Int) - bl d - 1)

theorem bl_dvd_nb {n k : Nat} (h : bl n ≤ 8 * k) : nb n ≤ k := by rw [nb_bl]; omega
theorem nb_8 {n k : Nat} (h : nb n ≤ k) : bl n ≤ 8 * k := by rw [nb_bl] at h; omega

theorem topQ_spec {n d : Nat} (hn : n ≠ 0) (hd : d ≠ 0) : (∀ j : Nat, (j : Int) ≤ topQ n d ↔ d * 2 ^ j ≤ n) ∧ (∀ j : Nat, -(j : Int) ≤ topQ n d ↔ d ≤ n * 2 ^ j) := by
  have hn1 := bl_pos hn
  have hd1 := bl_pos hd
  have A : ∀ j : Nat, d * 2 ^ j ≤ n → bl d + j ≤ bl n := fun j h => by
    have := bl_mono h; rwa [bl_mul_pow hd] at this
  have B : ∀ j : Nat, bl d + j < bl n → d * 2 ^ j ≤ n := fun j h => by
    apply Nat.le_of_lt
    apply Nat.lt_of_not_le
    intro hc
    have := bl_mono hc; rw [bl_mul_pow hd] at this; omega
  have C : ∀ j : Nat, d ≤ n * 2 ^ j → bl d ≤ bl n + j := fun j h => by
    have := bl_mono h; rwa [bl_mul_pow hn] at this
  have D : ∀ j : Nat, bl d < bl n + j → d ≤ n * 2 ^ j := fun j h => by
    apply Nat.le_of_lt
    apply Nat.lt_of_not_le
    intro hc
    have := bl_mono hc; rw [bl_mul_pow hn] at this; omega
  unfold topQ
  constructor
  · intro j
    split
    · rename_i h1
      split
      · rename_i h2
        constructor
        · intro hj
          by_cases e : bl d + j = bl n
          · rw [show j = bl n - bl d by omega]; exact h2
          · exact B j (by omega)
        · intro hj; have := A j hj; omega
      · rename_i h2
        constructor
        · intro hj; exact B j (by omega)
        · intro hj
          have := A j hj
          by_cases e : bl d + j = bl n
          · rw [show j = bl n - bl d by omega] at hj; exact absurd hj h2
          · omega
    · rename_i h1
      have : ¬ d * 2 ^ j ≤ n := fun hc => by have := A j hc; omega
      split
      · exact ⟨fun hj => by omega, fun hj => absurd hj this⟩
      · exact ⟨fun hj => by omega, fun hj => absurd hj this⟩
  · intro j
    split
    · rename_i h1
      split
      · rename_i h2
        constructor
        · intro _
          have : d * 2 ^ 0 ≤ d * 2 ^ (bl n - bl d) := Nat.mul_le_mul_left _ (Nat.pow_le_pow_right (by decide) (by omega))
          have h3 : n * 1 ≤ n * 2 ^ j := Nat.mul_le_mul_left _ (Nat.pow_pos (by decide))
          omega
        · intro _; omega
      · rename_i h2
        constructor
        · intro hj; exact D j (by omega)
        · intro hj
          have := C j hj
          by_cases e : bl d = bl n + j
          · have : j = 0 := by omega
            subst this
            exfalso
            apply h2
            rw [show bl n - bl d = 0 by omega]
            simpa using hj
          · omega
    · rename_i h1
      split
      · rename_i h2
        constructor
        · intro hj
          by_cases e : bl d = bl n + j
          · rw [show j = bl d - bl n by omega]; exact h2
          · exact D j (by omega)
        · intro hj; have := C j hj; omega
      · rename_i h2
        constructor
        · intro hj; exact D j (by omega)
        · intro hj
          have := C j hj
          by_cases e : bl d = bl n + j
          · rw [show j = bl d - bl n by omega] at hj; exact absurd hj h2
          · omega

theorem bl_flq {n d : Nat} (hn : n ≠ 0) (hd : d ≠ 0) (k : Int) : ((bl (flq n d k) : Nat) : Int) = max 0 (topQ n d + k + 1) := by
  obtain ⟨A, B⟩ := topQ_spec hn hd
  have key : ∀ j : Nat, 2 ^ j ≤ flq n d k ↔ (j : Int) ≤ topQ n d + k := by
    intro j
    unfold flq
    rw [Nat.le_div_iff_mul_le (Nat.mul_pos (by omega) (Nat.pow_pos (by decide)))]
    rcases Int.le_total 0 k with h | h
    · obtain ⟨m, rfl⟩ := Int.eq_ofNat_of_zero_le h
      rw [show (-(m : Int)).toNat = 0 by omega, Int.toNat_natCast, Nat.pow_zero, Nat.mul_one]
      by_cases hj : m ≤ j
      · have a := A (j - m)
        rw [show ((j - m : Nat) : Int) = (j : Int) - m by omega] at a
        rw [show (j : Int) ≤ topQ n d + m ↔ (j : Int) - m ≤ topQ n d by omega, a, show (2 : Nat) ^ j = 2 ^ (j - m) * 2 ^ m by rw [← Nat.pow_add, show j - m + m = j by omega], Nat.mul_assoc, Nat.mul_comm (2 ^ m), ← Nat.mul_assoc, Nat.mul_comm (2 ^ (j - m))]
        exact Nat.mul_le_mul_right_iff (Nat.pow_pos (by decide))
      · have b := B (m - j)
        rw [show -((m - j : Nat) : Int) = (j : Int) - m by omega] at b
        rw [show (j : Int) ≤ topQ n d + m ↔ (j : Int) - m ≤ topQ n d by omega, b, show (2 : Nat) ^ m = 2 ^ (m - j) * 2 ^ j by rw [← Nat.pow_add, show m - j + j = m by omega], ← Nat.mul_assoc, Nat.mul_comm (2 ^ j)]
        exact Nat.mul_le_mul_right_iff (Nat.pow_pos (by decide))
    · obtain ⟨m, hm⟩ : ∃ m : Nat, k = -(m : Int) := ⟨(-k).toNat, by omega⟩
      subst hm
      rw [show (- -(m : Int)).toNat = m by omega, show (-(m : Int)).toNat = 0 by omega, Nat.pow_zero, Nat.mul_one]
      have a := A (j + m)
      rw [show ((j + m : Nat) : Int) = (j : Int) + m by omega] at a
      rw [show (j : Int) ≤ topQ n d + -(m : Int) ↔ (j : Int) + m ≤ topQ n d by omega, a, Nat.pow_add, Nat.mul_comm (2 ^ j), Nat.mul_assoc, Nat.mul_comm (2 ^ m)]
  have h1 := fun j => (lt_bl_iff (n := flq n d k) (k := j)).trans (key j)
  by_cases hb : bl (flq n d k) = 0
  · have := mt (h1 0).2 (by omega)
    omega
  · have a := (h1 (bl (flq n d k) - 1)).1 (by omega)
    have b := mt (h1 (bl (flq n d k))).2 (by omega)
    omega

theorem exq_ne {n d : Nat} (hn : n ≠ 0) (hd : d ≠ 0) {k : Int} (h : exq n d k = true) : flq n d k ≠ 0 := by
  unfold exq at h
  unfold flq
  have h := of_decide_eq_true h
  intro hc
  have e := Nat.mod_add_div (n * 2 ^ k.toNat) (d * 2 ^ (-k).toNat)
  rw [h, hc, Nat.mul_zero] at e
  have : 0 < n * 2 ^ k.toNat := Nat.mul_pos (by omega) (Nat.pow_pos (by decide))
  omega

theorem flq_scale (n d t : Nat) (k : Int) : flq (n * 2 ^ t) d k = flq n d (k + t) ∧ exq (n * 2 ^ t) d k = exq n d (k + t) := by
  unfold flq exq
  rcases Int.le_total 0 k with h | h
  · obtain ⟨m, rfl⟩ := Int.eq_ofNat_of_zero_le h
    rw [show (-(m : Int)).toNat = 0 by omega, show (-((m : Int) + t)).toNat = 0 by omega, show ((m : Int) + t).toNat = t + m by omega, Int.toNat_natCast, Nat.mul_assoc, ← Nat.pow_add]
    exact ⟨rfl, rfl⟩
  · obtain ⟨m, hm⟩ : ∃ m : Nat, k = -(m : Int) := ⟨(-k).toNat, by omega⟩
    subst hm
    rw [show (- -(m : Int)).toNat = m by omega, show (-(m : Int)).toNat = 0 by omega, Nat.pow_zero, Nat.mul_one]
    by_cases c : t ≤ m
    · rw [show (-(m : Int) + t).toNat = 0 by omega, show (-(-(m : Int) + t)).toNat = m - t by omega, Nat.pow_zero, Nat.mul_one, show (2 : Nat) ^ m = 2 ^ (m - t) * 2 ^ t by rw [← Nat.pow_add, show m - t + t = m by omega], ← Nat.mul_assoc]
      refine ⟨Nat.mul_div_mul_right _ _ (Nat.pow_pos (by decide)), ?_⟩
      rw [Nat.mul_mod_mul_right]
      refine decide_eq_decide.2 ?_
      have : 0 < 2 ^ t := Nat.pow_pos (by decide)
      constructor
      · intro h
        rcases Nat.mul_eq_zero.1 h with h | h
        · exact h
        · omega
      · intro h; rw [h, Nat.zero_mul]
    · rw [show (-(m : Int) + t).toNat = t - m by omega, show (-(-(m : Int) + t)).toNat = 0 by omega, Nat.pow_zero, Nat.mul_one, show (2 : Nat) ^ t = 2 ^ (t - m) * 2 ^ m by rw [← Nat.pow_add, show t - m + m = t by omega], ← Nat.mul_assoc]
      refine ⟨Nat.mul_div_mul_right _ _ (Nat.pow_pos (by decide)), ?_⟩
      rw [Nat.mul_mod_mul_right]
      refine decide_eq_decide.2 ?_
      have : 0 < 2 ^ m := Nat.pow_pos (by decide)
      constructor
      · intro h
        rcases Nat.mul_eq_zero.1 h with h | h
        · exact h
        · omega
      · intro h; rw [h, Nat.zero_mul]

/-! ### Make -/
theorem ref06_Null_g : ref06_Null.g = some ⟨false, sOf 0, sOf 1, 0⟩ := by
  unfold ref06_Null.g; rw [emptyS, oneS]
/-- A number without its twos. -/
def oddN (n : Nat) : Nat := n / 2 ^ tz n
theorem oddN_mul {n : Nat} (h : n ≠ 0) : oddN n * 2 ^ tz n = n := by
  have := Nat.div_add_mod n (2 ^ tz n)
  rw [(tz_spec n h).1, Nat.add_zero, Nat.mul_comm] at this
  exact this
theorem oddN_odd {n : Nat} (h : n ≠ 0) : oddN n % 2 = 1 := (tz_spec n h).2
theorem oddN_le (n : Nat) : oddN n ≤ n := Nat.div_le_self _ _
theorem oddN_ne {n : Nat} (h : n ≠ 0) : oddN n ≠ 0 := fun hc => by have := oddN_odd h; omega
theorem oddN_self {n : Nat} (h : n % 2 = 1) : oddN n = n := by unfold oddN; rw [tz_odd h]; simp
theorem tz_le_bl (n : Nat) : tz n ≤ bl n := by
  by_cases h : n = 0
  · subst h; rw [tz_zero]; omega
  · have := tz_lt_bl h; omega

theorem ref06_Make_zero (neg : Bool) {d : Nat} {e : Int} (hd : nb d ≤ 16384) (h0 : d ≠ 0) (he : -1048576 ≤ e ∧ e ≤ 1048576) : ref06_Make.g neg (sOf 0) (sOf d) e = some (⟨false, sOf 0, sOf 1, 0⟩, 0) := by
  unfold ref06_Make.g
  rw [emptyS, oneS]
  simp only [strEq_sOf, ref05_May_g (show nb 0 ≤ 1000000 by rw [nb_zero]; omega), ref05_May_g (show nb d ≤ 1000000 by omega), Option.bind_some, decide_eq_true (show nb 0 ≤ 16384 by rw [nb_zero]; omega), decide_eq_true hd, Bool.not_true, cond_false, decide_eq_false h0, decide_eq_false (show ¬ e < -1048576 by omega), decide_eq_false (show ¬ 1048576 < e by omega), decide_true, cond_true, ref06_Null_g]

theorem ref06_Make_g (neg : Bool) {n d : Nat} {e : Int} (hn : nb n ≤ 16384) (hd : nb d ≤ 16384) (hn0 : n ≠ 0) (h0 : d ≠ 0) (he : -1048576 ≤ e ∧ e ≤ 1048576) (hx : -1048576 ≤ e + tz n - tz d ∧ e + tz n - tz d ≤ 1048576) :
    ref06_Make.g neg (sOf n) (sOf d) e = some (⟨neg, sOf (oddN n / Nat.gcd (oddN n) (oddN d)), sOf (oddN d / Nat.gcd (oddN n) (oddN d)), e + tz n - tz d⟩, 0) := by
  have a1 : nb (oddN n) ≤ 16384 := Nat.le_trans (nb_mono (oddN_le n)) hn
  have a2 : nb (oddN d) ≤ 16384 := Nat.le_trans (nb_mono (oddN_le d)) hd
  have b1 := nb_8 hn
  have b2 := nb_8 hd
  have t1 := tz_le_bl n
  have t2 := tz_le_bl d
  have g0 : Nat.gcd (oddN n) (oddN d) ≠ 0 := fun hc => oddN_ne hn0 (Nat.gcd_eq_zero_iff.1 hc).1
  have g1 : nb (Nat.gcd (oddN n) (oddN d)) ≤ 16384 := Nat.le_trans (nb_mono (Nat.gcd_le_left _ (by have := oddN_ne hn0; omega))) a1
  have r1 := ref05_Right_g (a := n) (k := tz n) hn (by omega)
  have r2 := ref05_Right_g (a := d) (k := tz d) hd (by omega)
  have e1 : IntKind.i64.wrap (IntKind.i64.wrap (e + ((tz n : Nat) : Int)) - ((tz d : Nat) : Int)) = e + tz n - tz d := by
    rw [wrap_i64 (x := e + ((tz n : Nat) : Int)) (by omega) (by omega), wrap_i64 (by omega) (by omega)]
  unfold ref06_Make.g
  rw [emptyS, oneS]
  simp only [strEq_sOf, ref05_May_g (show nb n ≤ 1000000 by omega), ref05_May_g (show nb d ≤ 1000000 by omega), Option.bind_some, decide_eq_true hn, decide_eq_true hd, Bool.not_true, cond_false, decide_eq_false h0, decide_eq_false hn0, decide_eq_false (show ¬ e < -1048576 by omega), decide_eq_false (show ¬ 1048576 < e by omega), ref05_Low_g hn, ref05_Low_g hd, r1, r2, e1, decide_eq_false (show ¬ e + tz n - tz d < -1048576 by omega), decide_eq_false (show ¬ 1048576 < e + tz n - tz d by omega)]
  have hG : ref05_Gcd.g (sOf (n / 2 ^ tz n)) (sOf (d / 2 ^ tz d)) = some (sOf (Nat.gcd (oddN n) (oddN d))) := ref05_Gcd_g a1 a2
  rw [hG, Option.bind_some, strEq_sOf]
  by_cases hg : Nat.gcd (oddN n) (oddN d) = 1
  · rw [hg]
    simp only [decide_true, Bool.not_true, cond_false, Nat.div_one]
    rfl
  · have d1 : ref05_Div.g (sOf (n / 2 ^ tz n)) (sOf (Nat.gcd (oddN n) (oddN d))) = _ := ref05_Div_g a1 g1 g0
    have d2 : ref05_Div.g (sOf (d / 2 ^ tz d)) (sOf (Nat.gcd (oddN n) (oddN d))) = _ := ref05_Div_g a2 g1 g0
    rw [decide_eq_false hg, Bool.not_false, cond_true, d1, Option.bind_some, d2, Option.bind_some]
    rfl

theorem nb_one : nb 1 = 1 := by
  have := nb_pos (show (1 : Nat) ≠ 0 by decide)
  rw [this, show 1 / 256 = 0 from rfl, nb_zero]
theorem tz_one : tz 1 = 0 := tz_odd rfl
theorem oddN_one : oddN 1 = 1 := oddN_self rfl
theorem ref06_Make_1 (neg : Bool) {n : Nat} {e : Int} (hn : nb n ≤ 16384) (hn0 : n ≠ 0) (he : -1048576 ≤ e ∧ e ≤ 1048576) (hx : e + tz n ≤ 1048576) :
    ref06_Make.g neg (sOf n) (sOf 1) e = some (⟨neg, sOf (oddN n), sOf 1, e + tz n⟩, 0) := by
  rw [ref06_Make_g neg hn (by rw [nb_one]; omega) hn0 (by decide) he (by rw [tz_one]; omega), oddN_one, Nat.gcd_one_right, Nat.div_one, Nat.div_one, tz_one]
  congr 3
  omega

/-! ### Top, Floor -/
theorem ref06_Top_g (neg : Bool) {n d : Nat} {e : Int} (hn : nb n ≤ 16384) (hd : nb d ≤ 16384) (hn0 : n ≠ 0) (hd0 : d ≠ 0) (he : -10000000 ≤ e ∧ e ≤ 10000000) :
    ref06_Top.g ⟨neg, sOf n, sOf d, e⟩ = some (topQ n d + e, 0) := by
  have b1 := nb_8 hn
  have b2 := nb_8 hd
  unfold ref06_Top.g topQ
  simp only [emptyS, strEq_sOf, decide_eq_false hn0, cond_false, ref05_Len_g hn, ref05_Len_g hd, Option.bind_some]
  rw [wrap_i64 (x := ((bl n : Nat) : Int) - ((bl d : Nat) : Int)) (by omega) (by omega)]
  have w1 : IntKind.i64.wrap (((bl n : Nat) : Int) - ((bl d : Nat) : Int) - 1) = ((bl n : Nat) : Int) - ((bl d : Nat) : Int) - 1 := wrap_i64 (by omega) (by omega)
  have w2 : IntKind.i64.wrap (((bl n : Nat) : Int) - ((bl d : Nat) : Int) - 1 + e) = ((bl n : Nat) : Int) - ((bl d : Nat) : Int) - 1 + e := wrap_i64 (by omega) (by omega)
  have w3 : IntKind.i64.wrap (((bl n : Nat) : Int) - ((bl d : Nat) : Int) + e) = ((bl n : Nat) : Int) - ((bl d : Nat) : Int) + e := wrap_i64 (by omega) (by omega)
  rw [w1, w2, w3]
  by_cases h : bl d ≤ bl n
  · rw [decide_eq_true (by omega : (0 : Int) ≤ ((bl n : Nat) : Int) - ((bl d : Nat) : Int)), cond_true, if_pos h, show ((bl n : Nat) : Int) - ((bl d : Nat) : Int) = ((bl n - bl d : Nat) : Int) by omega]
    unfold ref06_shifted.g
    have hbl := bl_mul_pow hd0 (bl n - bl d)
    rw [ref05_Left_g hd (by intro _; omega)]
    simp only [Option.bind_some]
    rw [ref05_Cmp_g (by omega) (Nat.le_trans (bl_dvd_nb (k := 16384) (by omega)) (by omega))]
    simp only [Option.bind_some]
    by_cases hc : d * 2 ^ (bl n - bl d) ≤ n
    · have : (0 : Int) ≤ cmpN n (d * 2 ^ (bl n - bl d)) := by unfold cmpN; rw [if_neg (by omega)]; split <;> decide
      rw [decide_eq_true this, Bool.not_true, cond_false, if_pos hc]
    · have : ¬ (0 : Int) ≤ cmpN n (d * 2 ^ (bl n - bl d)) := by unfold cmpN; rw [if_pos (by omega)]; decide
      rw [decide_eq_false this, Bool.not_false, cond_true, if_neg hc]
  · rw [decide_eq_false (by omega : ¬ (0 : Int) ≤ ((bl n : Nat) : Int) - ((bl d : Nat) : Int)), cond_false, if_neg h, wrap_i64 (x := 0 - (((bl n : Nat) : Int) - ((bl d : Nat) : Int))) (by omega) (by omega), show 0 - (((bl n : Nat) : Int) - ((bl d : Nat) : Int)) = ((bl d - bl n : Nat) : Int) by omega]
    unfold ref06_shifted.g
    have hbl := bl_mul_pow hn0 (bl d - bl n)
    rw [ref05_Left_g hn (by intro _; omega)]
    simp only [Option.bind_some]
    rw [ref05_Cmp_g (Nat.le_trans (bl_dvd_nb (k := 16384) (by omega)) (by omega)) (by omega)]
    simp only [Option.bind_some]
    by_cases hc : d ≤ n * 2 ^ (bl d - bl n)
    · have : (0 : Int) ≤ cmpN (n * 2 ^ (bl d - bl n)) d := by unfold cmpN; rw [if_neg (by omega)]; split <;> decide
      rw [decide_eq_true this, Bool.not_true, cond_false, if_pos hc]
    · have : ¬ (0 : Int) ≤ cmpN (n * 2 ^ (bl d - bl n)) d := by unfold cmpN; rw [if_pos (by omega)]; decide
      rw [decide_eq_false this, Bool.not_false, cond_true, if_neg hc]

theorem ref06_Floor_g (neg : Bool) {n d : Nat} {e at_ : Int} (hn : nb n ≤ 16384) (hd : nb d ≤ 16384) (hn0 : n ≠ 0) (hd0 : d ≠ 0) (he : -10000000 ≤ e ∧ e ≤ 10000000) (hat : -2097152 ≤ at_ ∧ at_ ≤ 2097152) (hb : at_ ≤ e → (bl n : Int) + (e - at_) ≤ 131072) :
    ref06_Floor.g ⟨neg, sOf n, sOf d, e⟩ at_ = some (sOf (flq n d (e - at_)), exq n d (e - at_), 0) := by
  unfold ref06_Floor.g
  rw [ref06_Top_g neg hn hd hn0 hd0 he]
  simp only [emptyS, strEq_sOf, decide_eq_false hn0, cond_false, Option.bind_some, decide_eq_false (show ¬ at_ < -2097152 by omega), decide_eq_false (show ¬ 2097152 < at_ by omega)]
  have T := bl_flq hn0 hd0 (e - at_)
  by_cases h : at_ ≤ e
  · have hb := hb h
    obtain ⟨k, hk⟩ : ∃ k : Nat, e - at_ = (k : Int) := ⟨(e - at_).toNat, by omega⟩
    rw [decide_eq_true h, cond_true, hk, i64_nat (by omega), ref05_Left_g hn (by intro _; omega)]
    simp only [Option.bind_some, beq_self_eq_true, Bool.not_true, cond_false]
    have hbl := bl_mul_pow hn0 k
    rw [ref05_Div_g (bl_dvd_nb (by omega)) hd hd0]
    simp only [Option.bind_some, strEq_sOf]
    unfold flq exq
    rw [Int.toNat_natCast, show (-(k : Int)).toNat = 0 by omega, Nat.pow_zero, Nat.mul_one]
  · rw [decide_eq_false h, cond_false]
    obtain ⟨k, hk⟩ : ∃ k : Nat, at_ - e = (k : Int) := ⟨(at_ - e).toNat, by omega⟩
    have hk2 : e - at_ = -(k : Int) := by omega
    have hz : (-(k : Int)).toNat = 0 := by omega
    have hz2 : (- -(k : Int)).toNat = k := by omega
    rw [hk2] at T ⊢
    by_cases ht : topQ n d + e < at_
    · rw [decide_eq_true ht, cond_true]
      have h0 : flq n d (-(k : Int)) = 0 := bl_eq_zero.1 (by omega)
      have hx : exq n d (-(k : Int)) = false := by
        cases hc : exq n d (-(k : Int))
        · rfl
        · exact absurd h0 (exq_ne hn0 hd0 hc)
      rw [h0, hx]
    · rw [decide_eq_false ht, cond_false, hk]
      have hdn : d * 2 ^ k ≤ n := by
        have := (topQ_spec hn0 hd0).1 k
        exact this.1 (by omega)
      have hbl := bl_mono hdn
      rw [bl_mul_pow hd0] at hbl
      have b1 := nb_8 hn
      rw [i64_nat (by omega), ref05_Left_g hd (by intro _; omega)]
      simp only [Option.bind_some]
      have hp : d * 2 ^ k ≠ 0 := Nat.mul_ne_zero hd0 (Nat.ne_of_gt (Nat.pow_pos (by decide)))
      rw [ref05_Div_g hn (Nat.le_trans (nb_mono hdn) hn) hp]
      simp only [Option.bind_some, strEq_sOf]
      unfold flq exq
      rw [hz, hz2, Nat.pow_zero, Nat.mul_one]

/-! ### may it be? -/
end Go.Proofs.YtnfbcofieobkkaaDoor
