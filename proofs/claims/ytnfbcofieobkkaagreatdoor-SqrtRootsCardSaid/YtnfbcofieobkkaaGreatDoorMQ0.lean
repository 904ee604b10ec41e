/- Roots as magnitudes: the document's and the program's. -/
import Derived.Test.YtnfbcofieobkkaaGreatDoorME
namespace Go.Proofs.YtnfbcofieobkkaaGreatDoor
open Go Go.Proofs Ev
set_option linter.unusedVariables false
set_option exponentiation.threshold 512
set_option maxRecDepth 100000
set_option linter.unusedSimpArgs false

theorem and_one_i64 (x : Int) : andI .i64 x (1 : Int) = x % 2 := by
  unfold andI
  rw [show BitVec.ofInt IntKind.i64.bits (1 : Int) = BitVec.ofNat IntKind.i64.bits 1 from ofInt_nat _ 1]
  rw [BitVec.toNat_and, BitVec.toNat_ofNat, BitVec.toNat_ofInt]
  simp only [IntKind.bits]
  rw [show (1 : Nat) % 2 ^ 64 = 1 from rfl, Nat.and_one_is_mod, wrap_i64 (by omega) (by omega)]
  omega
theorem shr_one_i64 (x : Int) : shrI .i64 x (1 : Int) = x / 2 := by
  unfold shrI
  rw [Int.fdiv_eq_ediv_of_nonneg _ (by exact Int.le_of_lt (Int.pow_pos (by decide)))]
  rfl

theorem bl_isq (a : Nat) : bl (isq a) = (bl a + 1) / 2 := by
  obtain ⟨h1, h2⟩ := isq_spec a
  by_cases h0 : isq a = 0
  · rw [h0] at h1 h2 ⊢
    have : a = 0 := by omega
    subst this
    rfl
  · have b1 := bl_le h0
    have b2 := bl_lt (isq a)
    have b3 := bl_pos h0
    obtain ⟨k, hk⟩ : ∃ k, bl (isq a) = k + 1 := ⟨bl (isq a) - 1, by omega⟩
    rw [hk] at b1 b2 ⊢
    rw [Nat.add_sub_cancel] at b1
    generalize isq a = r at *
    have c1 : 2 ^ k * 2 ^ k ≤ a := Nat.le_trans (Nat.mul_le_mul b1 b1) h1
    have c2 : a < 2 ^ (k + 1) * 2 ^ (k + 1) := by
      have : (r + 1) * (r + 1) ≤ 2 ^ (k + 1) * 2 ^ (k + 1) := Nat.mul_le_mul b2 b2
      rw [Nat.add_mul, Nat.mul_add] at this
      omega
    rw [← Nat.pow_add] at c1 c2
    have d1 := lt_bl_iff.2 c1
    have d2 := bl_le_iff.2 c2
    omega
theorem isq_zero {a : Nat} : isq a = 0 ↔ a = 0 := by
  obtain ⟨h1, h2⟩ := isq_spec a
  constructor
  · intro h; rw [h] at h1 h2; omega
  · intro h; subst h; unfold isq; rfl
theorem isq_sq (t : Nat) : isq (t * t) = t := (isq_eq (a := t * t) (r := t) (s := 0) (by omega) (by omega)).1.symm

/-- The root of a part is the root's part. -/
theorem isq_div (a k : Nat) : isq (a / 2 ^ (2 * k)) = isq a / 2 ^ k := by
  obtain ⟨h1, h2⟩ := isq_spec a
  have hp : 0 < 2 ^ k := Nat.pow_pos (by decide)
  have e : (2 : Nat) ^ (2 * k) = 2 ^ k * 2 ^ k := by rw [← Nat.pow_add, show k + k = 2 * k by omega]
  have hq := Nat.div_add_mod (isq a) (2 ^ k)
  have hm := Nat.mod_lt (isq a) hp
  rw [e]
  generalize 2 ^ k = P at *
  generalize isq a = r at *
  generalize r / P = q at *
  generalize r % P = m at *
  have l1 : q * q ≤ a / (P * P) := by
    rw [Nat.le_div_iff_mul_le (Nat.mul_pos hp hp)]
    have : (P * q) * (P * q) ≤ r * r := Nat.mul_le_mul (by omega) (by omega)
    have e2 : q * q * (P * P) = (P * q) * (P * q) := by
      rw [Nat.mul_mul_mul_comm, Nat.mul_comm q P]
    omega
  have l2 : a / (P * P) < (q + 1) * (q + 1) := by
    rw [Nat.div_lt_iff_lt_mul (Nat.mul_pos hp hp)]
    have hr1 : r + 1 ≤ P * (q + 1) := by rw [Nat.mul_add]; omega
    have : (r + 1) * (r + 1) ≤ P * (q + 1) * (P * (q + 1)) := Nat.mul_le_mul hr1 hr1
    have e2 : (q + 1) * (q + 1) * (P * P) = P * (q + 1) * (P * (q + 1)) := by
      rw [Nat.mul_mul_mul_comm, Nat.mul_comm (q + 1) P]
    rw [e2]
    rw [Nat.add_mul, Nat.mul_add] at this
    omega
  rw [Nat.add_mul, Nat.mul_add] at l2
  exact (isq_eq (a := a / (P * P)) (r := q) (s := a / (P * P) - q * q) (by omega) (by omega)).1.symm

/-- A part is whole and a square where the root is whole and ends there. -/
theorem isq_exact (a k : Nat) : (decide (a % 2 ^ (2 * k) = 0) && decide (a / 2 ^ (2 * k) - isq (a / 2 ^ (2 * k)) * isq (a / 2 ^ (2 * k)) = 0)) = (!decide (a - isq a * isq a ≠ 0) && decide (isq a % 2 ^ k = 0)) := by
  obtain ⟨h1, h2⟩ := isq_spec a
  have hd := isq_div a k
  obtain ⟨g1, g2⟩ := isq_spec (a / 2 ^ (2 * k))
  have e : (2 : Nat) ^ (2 * k) = 2 ^ k * 2 ^ k := by rw [← Nat.pow_add, show k + k = 2 * k by omega]
  have hp : 0 < 2 ^ k := Nat.pow_pos (by decide)
  rw [Bool.eq_iff_iff]
  simp only [Bool.and_eq_true, decide_eq_true_eq, Bool.not_eq_true', decide_eq_false_iff_not, ne_eq, Decidable.not_not]
  constructor
  · rintro ⟨c1, c2⟩
    have e1 : a / 2 ^ (2 * k) = isq (a / 2 ^ (2 * k)) * isq (a / 2 ^ (2 * k)) := by omega
    have e2 : a = a / 2 ^ (2 * k) * 2 ^ (2 * k) := (Nat.div_mul_cancel (Nat.dvd_of_mod_eq_zero c1)).symm
    rw [e1, e] at e2
    generalize isq (a / (2 ^ k * 2 ^ k)) = t at *
    have e3 : a = t * 2 ^ k * (t * 2 ^ k) := by rw [e2, Nat.mul_mul_mul_comm]
    have e4 : isq a = t * 2 ^ k := by rw [e3, isq_sq]
    rw [e4]
    exact ⟨by omega, Nat.mul_mod_left _ _⟩
  · rintro ⟨c1, c2⟩
    have e1 : a = isq a * isq a := by omega
    obtain ⟨q, e2⟩ : ∃ q, isq a = q * 2 ^ k := ⟨isq a / 2 ^ k, (Nat.div_mul_cancel (Nat.dvd_of_mod_eq_zero c2)).symm⟩
    have e3 : a = q * q * 2 ^ (2 * k) := by
      rw [e1, e2, e, Nat.mul_mul_mul_comm]
    have e4 : a % 2 ^ (2 * k) = 0 := by rw [e3]; exact Nat.mul_mod_left _ _
    have e5 : a / 2 ^ (2 * k) = q * q := by
      rw [e3, Nat.mul_div_cancel _ (Nat.pow_pos (by decide))]
    refine ⟨e4, ?_⟩
    rw [e5, isq_sq]
    omega

/-! ### the document's root -/
def FS (n : Nat) (e : Int) (at_ : Int) : Nat := isq (flq n 1 (e - 2 * at_))
def XS (n : Nat) (e : Int) (at_ : Int) : Bool := exq n 1 (e - 2 * at_) && decide (flq n 1 (e - 2 * at_) - isq (flq n 1 (e - 2 * at_)) * isq (flq n 1 (e - 2 * at_)) = 0)
theorem Mag.root {n : Nat} (hn : n ≠ 0) (e : Int) : Mag (FS n e) (XS n e) (((bl n : Int) - 1 + e) / 2) := by
  refine ⟨fun at_ => ?_, fun at_ h => ?_⟩
  · unfold FS
    rw [bl_isq]
    have := bl_flq hn (show (1 : Nat) ≠ 0 by decide) (e - 2 * at_)
    rw [topQ_1 hn] at this
    omega
  · unfold XS at h
    rw [Bool.and_eq_true] at h
    have := exq_ne hn (show (1 : Nat) ≠ 0 by decide) h.1
    unfold FS
    rw [Ne, isq_zero]
    exact this

theorem half_tdiv (t : Int) : (bif decide (t < (0 : Int)) then bif !t.tmod (2 : Int) == (0 : Int) then some (IntKind.i64.wrap (IntKind.i64.wrap (t.tdiv (2 : Int)) - (1 : Int))) else some (IntKind.i64.wrap (t.tdiv (2 : Int))) else some (IntKind.i64.wrap (t.tdiv (2 : Int)))) = some (IntKind.i64.wrap (t / 2)) ∨ ¬ (-1000000 ≤ t ∧ t ≤ 1000000) := by
  by_cases hb : -1000000 ≤ t ∧ t ≤ 1000000
  · left
    rcases Int.lt_or_le t 0 with h | h
    · obtain ⟨k, hk⟩ : ∃ k : Nat, t = -(k : Int) := ⟨(-t).toNat, by omega⟩
      have e1 : t.tdiv 2 = -((k / 2 : Nat) : Int) := by rw [hk, Int.neg_tdiv]; rfl
      have e2 : t.tmod 2 = -((k % 2 : Nat) : Int) := by rw [hk, Int.neg_tmod]; rfl
      rw [decide_eq_true h, bT, e1, e2]
      by_cases ho : k % 2 = 0
      · rw [ho, show (!(-((0 : Nat) : Int) == (0 : Int))) = false from rfl, bF]
        congr 2
        omega
      · rw [show (!(-((k % 2 : Nat) : Int) == (0 : Int))) = true by rw [show k % 2 = 1 by omega]; rfl, bT, wrap_i64 (x := -((k / 2 : Nat) : Int)) (by omega) (by omega)]
        congr 2
        omega
    · obtain ⟨k, rfl⟩ := Int.eq_ofNat_of_zero_le h
      rw [decide_eq_false (by omega), bF, show ((k : Int)).tdiv 2 = ((k / 2 : Nat) : Int) from div_nat k 2]
      congr 2
  · exact Or.inr hb

theorem root_top (neg : Bool) {n : Nat} {e : Int} (hn : nb n ≤ 8192) (hn0 : n ≠ 0) (he : -200000 ≤ e ∧ e ≤ 200000) : ref09_top.g ⟨neg, sOf n, sOf 1, e⟩ true = some (((bl n : Int) - 1 + e) / 2) := by
  have hb := nb_8 hn
  unfold ref09_top.g
  rw [ref06_Top_g neg (by omega) (by rw [nb_one]; omega) hn0 (by decide) (by omega), obind, topQ_1 hn0, bT]
  dsimp only
  rcases half_tdiv ((bl n : Int) - 1 + e) with h | h
  · rw [h, wrap_i64 (by omega) (by omega)]
  · exact absurd ⟨by omega, by omega⟩ h

theorem root_finds (neg : Bool) {n : Nat} {e lo hi : Int} (hn : nb n ≤ 8192) (hn0 : n ≠ 0) (he : -200000 ≤ e ∧ e ≤ 200000) (hlo : -200000 ≤ lo) (hhi : hi ≤ 200000) (hb : (bl n : Int) + (e - 2 * lo) + 2 ≤ 131072) :
    Finds ⟨neg, sOf n, sOf 1, e⟩ true (FS n e) (XS n e) lo hi := by
  intro at_ h1 h2
  have hbl := nb_8 hn
  have hF := ref06_Floor_g neg (n := n) (d := 1) (e := e) (at_ := 2 * at_) (by omega) (by rw [nb_one]; omega) hn0 (by decide) (by omega) (by omega) (by intro _; omega)
  have hF1 := ref06_Floor_g neg (n := n) (d := 1) (e := e) (at_ := 2 * at_ - 2) (by omega) (by rw [nb_one]; omega) hn0 (by decide) (by omega) (by omega) (by intro _; omega)
  have b0 := bl_flq hn0 (show (1 : Nat) ≠ 0 by decide) (e - 2 * at_)
  have b1 := bl_flq hn0 (show (1 : Nat) ≠ 0 by decide) (e - (2 * at_ - 2))
  rw [topQ_1 hn0] at b0 b1
  have n0 : nb (flq n 1 (e - 2 * at_)) ≤ 16384 := bl_dvd_nb (by omega)
  have n1 : nb (flq n 1 (e - (2 * at_ - 2))) ≤ 16384 := bl_dvd_nb (by omega)
  have bi := bl_isq (flq n 1 (e - (2 * at_ - 2)))
  have n2 : nb (isq (flq n 1 (e - (2 * at_ - 2)))) ≤ 16384 := bl_dvd_nb (by omega)
  unfold ref09_find.g
  rw [Bool.not_true, bF, wrap_i64 (x := 2 * at_) (by omega) (by omega), wrap_i64 (x := 2 * at_ - 2) (by omega) (by omega), hF, obind, hF1]
  simp only [ref05_Sqrt_isq n0, obind, ref05_Sqrt_isq n1, ref09_last_g n2, emptyS, strEq_sOf]
  unfold FS XS halfS
  rw [show e - 2 * (at_ - 1) = e - (2 * at_ - 2) by omega]
  generalize flq n 1 (e - 2 * at_) = F0 at *
  generalize flq n 1 (e - (2 * at_ - 2)) = F1 at *
  generalize exq n 1 (e - 2 * at_) = E0 at *
  generalize exq n 1 (e - (2 * at_ - 2)) = E1 at *
  generalize decide (F0 - isq F0 * isq F0 = 0) = S0
  generalize decide (F1 - isq F1 * isq F1 = 0) = S1
  by_cases ho : isq F1 % 2 = 1
  · rw [decide_eq_true ho]
    cases E0 <;> cases S0 <;> cases E1 <;> cases S1 <;> simp [ho]
  · rw [decide_eq_false ho]
    cases E0 <;> cases S0 <;> cases E1 <;> cases S1 <;> simp [ho]

theorem ref09_Root_g {f m : Nat} (h : f ≤ 3) (hm : m ≤ 4) {n : Nat} {e : Int} (hn : bl n ≤ 1000) (ho : n % 2 = 1) (he : -40000 ≤ e ∧ e ≤ 40000) :
    ref09_Root.g (f : Int) (m : Int) ⟨false, sOf n, sOf 1, e⟩ = some (B2.of (delS f m false (((bl n : Int) - 1 + e) / 2) (FS n e) (XS n e)).1, (((delS f m false (((bl n : Int) - 1 + e) / 2) (FS n e) (XS n e)).2 : Nat) : Int), 0) := by
  have hF := factsF h
  have hn0 : n ≠ 0 := by omega
  have hnb : nb n ≤ 125 := bl_dvd_nb (by omega)
  unfold ref09_Root.g
  rw [ref09_Fault_g h hm false (by omega) (by rw [nb_one]; omega) ho (by decide) (Nat.gcd_one_right _) (by omega), obind]
  dsimp only
  rw [bF, show (!((0 : Int) == 0)) = false from rfl, bF, emptyS, strEq_sOf, decide_eq_false hn0, bF, bF]
  have D := ref09_deliver_g h m (Mag.root hn0 e) (root_top false (by omega) hn0 (by omega)) (root_finds false (lo := ((bl n : Int) - 1 + e) / 2 - pF f + 1) (hi := atF f (((bl n : Int) - 1 + e) / 2)) (by omega) hn0 (by omega) (by omega) (by unfold atF emF; omega) (by omega)) (by omega)
  rw [D, obind]

end Go.Proofs.YtnfbcofieobkkaaGreatDoor
