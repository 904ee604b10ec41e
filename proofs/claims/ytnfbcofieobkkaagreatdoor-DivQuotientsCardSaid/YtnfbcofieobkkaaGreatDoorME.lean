/- Roots, bit by bit. -/
import Derived.Test.YtnfbcofieobkkaaGreatDoorM15
import Derived.Test.YtnfbcofieobkkaaGreatDoorPE
namespace Go.Proofs.YtnfbcofieobkkaaGreatDoor
open Go Go.Proofs Ev
set_option linter.unusedVariables false
set_option exponentiation.threshold 512
set_option maxRecDepth 100000
set_option linter.unusedSimpArgs false

/-- The whole root. -/
def isq (a : Nat) : Nat := if h : a = 0 then 0 else if (2 * isq (a / 4) + 1) * (2 * isq (a / 4) + 1) ≤ a then 2 * isq (a / 4) + 1 else 2 * isq (a / 4)
termination_by a
decreasing_by all_goals omega
theorem isq_spec (a : Nat) : isq a * isq a ≤ a ∧ a ≤ isq a * isq a + 2 * isq a := by
  induction a using Nat.strongRecOn with
  | _ a ih =>
    unfold isq
    by_cases h : a = 0
    · subst h; simp
    · rw [dif_neg h]
      obtain ⟨h1, h2⟩ := ih (a / 4) (by omega)
      generalize isq (a / 4) = r at *
      have e : (2 * r + 1) * (2 * r + 1) = 4 * (r * r) + 4 * r + 1 := by
        rw [Nat.mul_add, Nat.add_mul, Nat.mul_assoc, Nat.mul_left_comm r 2 r]; omega
      have e2 : 2 * r * (2 * r) = 4 * (r * r) := by
        rw [Nat.mul_assoc, Nat.mul_left_comm r 2 r]; omega
      split
      · rw [e] at *
        exact ⟨by assumption, by omega⟩
      · rename_i hc
        rw [e] at hc
        rw [e2]
        exact ⟨by omega, by omega⟩
theorem isq_eq {a r s : Nat} (h1 : a = r * r + s) (h2 : s ≤ 2 * r) : r = isq a ∧ s = a - isq a * isq a := by
  obtain ⟨k1, k2⟩ := isq_spec a
  have := sqrt_unique h1 h2 (show a = isq a * isq a + (a - isq a * isq a) by omega) (by omega)
  exact ⟨this.1, this.2⟩
theorem ref05_Sqrt_isq {a : Nat} (ha : nb a ≤ 16384) : ref05_Sqrt.g (sOf a) = some (sOf (isq a), sOf (a - isq a * isq a)) := by
  obtain ⟨r, s, h1, h2, h3⟩ := ref05_Sqrt_g ha
  obtain ⟨k1, k2⟩ := isq_eq h1 h2
  rw [h3, k1, k2]

theorem W6.or_low (n : Nat) {t : Nat} (ht : t < 18446744073709551616) : (⟨orI IntKind.u64 (W6.of n).w0 (t : Int), (W6.of n).w1, (W6.of n).w2, (W6.of n).w3, (W6.of n).w4, (W6.of n).w5⟩ : W6) = W6.of (n ||| t) := by
  have ht2 : t < 2 ^ 64 := ht
  simp only [of_w0, of_w1, of_w2, of_w3, of_w4, of_w5]
  rw [or_u64 (wd_lt _ _) ht]
  simp only [W6.of, wd_or, wd_of_lt ht2 (show 0 < 1 by decide), wd_of_lt ht2 (show 0 < 2 by decide), wd_of_lt ht2 (show 0 < 3 by decide), wd_of_lt ht2 (show 0 < 4 by decide), wd_of_lt ht2 (show 0 < 5 by decide), Nat.or_zero]
  have : wd t 0 = t := by unfold wd; rw [Nat.mul_zero, Nat.pow_zero, Nat.div_one, Nat.mod_eq_of_lt ht]
  rw [this]
theorem or_add {n t k : Nat} (ht : t < 2 ^ k) : n * 2 ^ k ||| t = n * 2 ^ k + t := by
  rw [Nat.mul_comm, Nat.two_pow_add_eq_or_of_lt ht]
theorem W6.add_low (n : Nat) {t k : Nat} (hk : k ≤ 63) (ht : t < 2 ^ k) : (⟨orI IntKind.u64 (W6.of (n * 2 ^ k)).w0 (t : Int), (W6.of (n * 2 ^ k)).w1, (W6.of (n * 2 ^ k)).w2, (W6.of (n * 2 ^ k)).w3, (W6.of (n * 2 ^ k)).w4, (W6.of (n * 2 ^ k)).w5⟩ : W6) = W6.of (n * 2 ^ k + t) := by
  have : t < 18446744073709551616 := Nat.lt_trans ht (Nat.lt_of_le_of_lt (Nat.pow_le_pow_right (by decide) hk) (by decide))
  rw [W6.or_low _ this, or_add ht]

theorem two_bits (a : Nat) {q : Nat} (hq : q % 2 = 0) : andI IntKind.u64 (shrI IntKind.u64 ((wd a (q / 64) : Nat) : Int) ((q % 64 : Nat) : Int)) (3 : Int) = ((a / 2 ^ q % 4 : Nat) : Int) := by
  rw [shr_u64, Nat.min_eq_left (by omega), show (3 : Int) = ((3 : Nat) : Int) from rfl, and_u64 (Nat.lt_of_le_of_lt (Nat.div_le_self _ _) (wd_lt _ _)) (by decide), show (3 : Nat) = 2 ^ 2 - 1 from rfl, Nat.and_two_pow_sub_one_eq_mod]
  unfold wd
  rw [show (18446744073709551616 : Nat) = 2 ^ 64 from rfl, mid_bits _ (by omega), Nat.div_div_eq_div_mul, ← Nat.pow_add, show 64 * (q / 64) + q % 64 = q by omega]

theorem quot_Sqrt_loop {R : Type} (N : Nat) {a : Nat} (ha : a < 2 ^ 384) (k0 : Int → W6 → W6 → Option R) : ∀ (j n r s : Nat), j < n → j ≤ 192 → a / 4 ^ j = r * r + s → s ≤ 2 * r →
    ∃ r' s', a = r' * r' + s' ∧ s' ≤ 2 * r' ∧ quot_Sqrt.l0 N (W6.of a) k0 n ((2 * j : Nat) : Int) (W6.of s) (W6.of r) = k0 0 (W6.of s') (W6.of r')
  | 0, n + 1, r, s, _, _, hQ, hs => by
    refine ⟨r, s, ?_, hs, ?_⟩
    · rw [← hQ, Nat.pow_zero, Nat.div_one]
    · unfold quot_Sqrt.l0 quot_Sqrt.b0
      rw [decide_eq_false (by decide : ¬ ((0 : Int) < ((2 * 0 : Nat) : Int))), bF]
      rfl
  | j + 1, n + 1, r, s, hn, hj, hQ, hs => by
    have hr : r < 2 ^ 192 := by
      have h1 : r * r ≤ a := by
        have : a / 4 ^ (j + 1) ≤ a := Nat.div_le_self _ _
        omega
      refine Nat.lt_of_not_le fun hc => ?_
      have h2 : 2 ^ 192 * 2 ^ 192 ≤ r * r := Nat.mul_le_mul hc hc
      rw [← Nat.pow_add] at h2
      omega
    have p1 : (2 : Nat) ^ 192 * 16 ≤ 2 ^ 384 := by decide
    have h4 : a / 4 ^ j = 4 * (a / 4 ^ (j + 1)) + a / 4 ^ j % 4 := by
      rw [Nat.pow_succ, ← Nat.div_div_eq_div_mul]; omega
    obtain ⟨t, ht⟩ : ∃ t, a / 4 ^ j % 4 = t := ⟨_, rfl⟩
    have ht4 : t < 4 := by rw [← ht]; exact Nat.mod_lt _ (by decide)
    rw [hQ, ht] at h4
    have p4 : (4 : Nat) ^ j = 2 ^ (2 * j) := by rw [Nat.pow_mul]
    have hb : andI IntKind.u64 (shrI IntKind.u64 ((W6.of a).get (2 * j / 64)) ((2 * j % 64 : Nat) : Int)) (3 : Int) = (t : Int) := by
      rw [W6.get_of a (by omega), two_bits a (by omega), ← p4, ht]
    have e1 : s * 2 ^ 2 + t = 4 * s + t := by omega
    have e2 : r * 2 ^ 2 + 1 = 4 * r + 1 := by omega
    have e3 : r * 2 ^ 1 + 1 = 2 * r + 1 := by omega
    have e4 : r * 2 ^ 1 = 2 * r := by omega
    have q1 : (2 * r + 1) * (2 * r + 1) = 4 * (r * r) + 4 * r + 1 := by
      rw [Nat.mul_add, Nat.add_mul, Nat.mul_assoc, Nat.mul_left_comm r 2 r]; omega
    have q2 : 2 * r * (2 * r) = 4 * (r * r) := by
      rw [Nat.mul_assoc, Nat.mul_left_comm r 2 r]; omega
    have L2 : ∀ x, x < 2 ^ 384 → wide_Left.g (W6.of x) (2 : Int) = some (W6.of (x * 2 ^ 2), decide (2 ^ 384 ≤ x * 2 ^ 2)) := fun x hx => wide_Left_g hx 2
    have L1 : ∀ x, x < 2 ^ 384 → wide_Left.g (W6.of x) (1 : Int) = some (W6.of (x * 2 ^ 1), decide (2 ^ 384 ≤ x * 2 ^ 1)) := fun x hx => wide_Left_g hx 1
    have body : quot_Sqrt.l0 N (W6.of a) k0 (n + 1) ((2 * (j + 1) : Nat) : Int) (W6.of s) (W6.of r) = bif decide (cmpN (4 * s + t) (4 * r + 1) < 0) then quot_Sqrt.l0 N (W6.of a) k0 n ((2 * j : Nat) : Int) (W6.of (4 * s + t)) (W6.of (2 * r)) else quot_Sqrt.l0 N (W6.of a) k0 n ((2 * j : Nat) : Int) (W6.of ((4 * s + t + 2 ^ 384 - (4 * r + 1)) % 2 ^ 384)) (W6.of (2 * r + 1)) := by
      rw (occs := .pos [1]) [quot_Sqrt.l0]
      unfold quot_Sqrt.b0
      dsimp only
      have a1 := W6.add_low s (t := t) (k := 2) (by decide) ht4
      have a2 := W6.add_low r (t := 1) (k := 2) (by decide) (by decide)
      have a3 := W6.add_low r (t := 1) (k := 1) (by decide) (by decide)
      rw [show ((1 : Nat) : Int) = (1 : Int) from rfl] at a2 a3
      rw [decide_eq_true (by omega : (0 : Int) < ((2 * (j + 1) : Nat) : Int)), bT, L2 s (by omega), obind, show ((2 * (j + 1) : Nat) : Int) - 2 = ((2 * j : Nat) : Int) by omega, wrap_i64 (x := ((2 * j : Nat) : Int)) (by omega) (by omega), divI (2 * j) (by omega), modU (2 * j) (by omega), decide_eq_true (by omega : (0 : Int) ≤ ((2 * j / 64 : Nat) : Int)), decide_eq_true (by omega : ((2 * j / 64 : Nat) : Int) < (6 : Int)), Bool.and_self, bT, Int.toNat_natCast, nblt, decide_eq_true (by omega : 2 * j / 64 < 6), bT, L2 r (by omega), obind, L1 r (by omega), obind, hb]
      dsimp only
      rw [a1, a2, a3, e1, e2, e3, e4, wide_Cmp_g (by omega) (by omega), obind, wide_Sub_g (by omega) (by omega), obind]
    rw [body]
    unfold cmpN
    by_cases hc : 4 * s + t < 4 * r + 1
    · rw [if_pos hc, decide_eq_true (by decide : (-1 : Int) < 0), bT]
      exact quot_Sqrt_loop N ha k0 j n (2 * r) (4 * s + t) (by omega) (by omega) (by rw [h4, q2]; omega) (by omega)
    · rw [if_neg hc, decide_eq_false (by split <;> decide), bF, show (4 * s + t + 2 ^ 384 - (4 * r + 1)) % 2 ^ 384 = 4 * s + t - (4 * r + 1) by
        rw [show 4 * s + t + 2 ^ 384 - (4 * r + 1) = 4 * s + t - (4 * r + 1) + 2 ^ 384 by omega, Nat.add_mod_right, Nat.mod_eq_of_lt (by omega)]]
      exact quot_Sqrt_loop N ha k0 j n (2 * r + 1) (4 * s + t - (4 * r + 1)) (by omega) (by omega) (by rw [h4, q1]; omega) (by omega)

theorem quot_Sqrt_g {a : Nat} (ha : a < 2 ^ 384) : quot_Sqrt.g (W6.of a) = some (W6.of (isq a), W6.of (a - isq a * isq a)) := by
  have hb : bl a ≤ 384 := bl_le_iff.2 ha
  have h0 : a / 4 ^ ((bl a + 1) / 2) = 0 := by
    refine Nat.div_eq_of_lt (Nat.lt_of_lt_of_le (bl_lt a) ?_)
    rw [show (4 : Nat) = 2 ^ 2 from rfl, ← Nat.pow_mul]
    exact Nat.pow_le_pow_right (by decide) (by omega)
  obtain ⟨r, s, h1, h2, h3⟩ := quot_Sqrt_loop fuel ha (fun (x4 : Int) (m2 m1 : W6) => some (m1, m2)) ((bl a + 1) / 2) fuel 0 0 (by unfold fuel; omega) (by omega) (by rw [h0]) (by omega)
  obtain ⟨k1, k2⟩ := isq_eq h1 h2
  unfold quot_Sqrt.g quot_Sqrt.f
  rw [wide_Len_g ha, obind, zeroW, wrap_i64 (x := ((bl a : Nat) : Int) + 1) (by omega) (by omega), show ((bl a : Nat) : Int) + 1 = ((bl a + 1 : Nat) : Int) by omega, show (2 : Int) = ((2 : Nat) : Int) from rfl, div_nat, wrap_i64 (x := (((bl a + 1) / 2 : Nat) : Int)) (by omega) (by omega), wrap_i64 (by omega) (by omega), show (((bl a + 1) / 2 : Nat) : Int) * ((2 : Nat) : Int) = ((2 * ((bl a + 1) / 2) : Nat) : Int) by omega, h3, k1, k2]

end Go.Proofs.YtnfbcofieobkkaaGreatDoor
