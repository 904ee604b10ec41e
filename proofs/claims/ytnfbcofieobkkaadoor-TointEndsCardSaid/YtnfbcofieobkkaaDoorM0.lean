/- Numbers of 64 and of 384 bits as natural numbers: words, shifts, bits. -/
import Derived.Test.YtnfbcofieobkkaaDoorK
import Derived.Lib.BitFns
import Derived.Lib.ItoaNum
import Derived.Lib.TrailingZeros
namespace Go.Proofs.YtnfbcofieobkkaaDoor
open Go Go.Proofs Ev
set_option linter.unusedVariables false
set_option linter.unusedSimpArgs false
set_option exponentiation.threshold 512

/-! ### wraps -/
theorem wrap_i64 {x : Int} (h1 : -9223372036854775808 ≤ x) (h2 : x < 9223372036854775808) : IntKind.i64.wrap x = x := by
  unfold IntKind.wrap
  simp only [IntKind.bits, IntKind.signed, Bool.true_and, Nat.reduceSub, Int.reducePow]
  split
  · rename_i h
    have h := of_decide_eq_true h
    omega
  · rename_i h
    have h := mt decide_eq_true h
    omega
theorem wrap_u64 {x : Int} (h1 : 0 ≤ x) (h2 : x < 18446744073709551616) : IntKind.u64.wrap x = x := by
  unfold IntKind.wrap
  simp only [IntKind.bits, IntKind.signed, Bool.false_and, Bool.false_eq_true, if_false, Int.reducePow]
  omega
theorem wrap_u64_mod (x : Int) : IntKind.u64.wrap x = x % 18446744073709551616 := by
  unfold IntKind.wrap
  simp only [IntKind.bits, IntKind.signed, Bool.false_and, Bool.false_eq_true, if_false, Int.reducePow]
theorem wrap_u8_mod (x : Int) : IntKind.u8.wrap x = x % 256 := by
  unfold IntKind.wrap
  simp only [IntKind.bits, IntKind.signed, Bool.false_and, Bool.false_eq_true, if_false, Int.reducePow]
theorem wrap_u32_mod (x : Int) : IntKind.u32.wrap x = x % 4294967296 := by
  unfold IntKind.wrap
  simp only [IntKind.bits, IntKind.signed, Bool.false_and, Bool.false_eq_true, if_false, Int.reducePow]
theorem wrap_i32_eq (x : Int) : IntKind.i32.wrap x = (x + 2147483648) % 4294967296 - 2147483648 := by
  unfold IntKind.wrap
  simp only [IntKind.bits, IntKind.signed, Bool.true_and, Nat.reduceSub, Int.reducePow]
  split
  · rename_i h
    have h := of_decide_eq_true h
    omega
  · rename_i h
    have h := mt decide_eq_true h
    omega
theorem wrap_i64_eq (x : Int) : IntKind.i64.wrap x = (x + 9223372036854775808) % 18446744073709551616 - 9223372036854775808 := by
  unfold IntKind.wrap
  simp only [IntKind.bits, IntKind.signed, Bool.true_and, Nat.reduceSub, Int.reducePow]
  split
  · rename_i h
    have h := of_decide_eq_true h
    omega
  · rename_i h
    have h := mt decide_eq_true h
    omega

theorem ofInt_nat (w n : Nat) : BitVec.ofInt w (n : Int) = BitVec.ofNat w n := by
  apply BitVec.eq_of_toNat_eq
  simp

theorem and_u64 {a b : Nat} (ha : a < 18446744073709551616) (hb : b < 18446744073709551616) : andI .u64 (a : Int) (b : Int) = ((a &&& b : Nat) : Int) := by
  unfold andI
  simp only [ofInt_nat, BitVec.toNat_and, BitVec.toNat_ofNat]
  simp only [IntKind.bits]
  rw [Nat.mod_eq_of_lt (by simpa using ha), Nat.mod_eq_of_lt (by simpa using hb)]
  have : a &&& b < 2 ^ 64 := Nat.and_lt_two_pow a (by simpa using hb)
  exact wrap_u64 (by omega) (by omega)
theorem or_u64 {a b : Nat} (ha : a < 18446744073709551616) (hb : b < 18446744073709551616) : orI .u64 (a : Int) (b : Int) = ((a ||| b : Nat) : Int) := by
  unfold orI
  simp only [ofInt_nat, BitVec.toNat_or, BitVec.toNat_ofNat]
  simp only [IntKind.bits]
  rw [Nat.mod_eq_of_lt (by simpa using ha), Nat.mod_eq_of_lt (by simpa using hb)]
  have : a ||| b < 2 ^ 64 := Nat.or_lt_two_pow (by simpa using ha) (by simpa using hb)
  exact wrap_u64 (by omega) (by omega)
theorem xor_u64 {a b : Nat} (ha : a < 18446744073709551616) (hb : b < 18446744073709551616) : xorI .u64 (a : Int) (b : Int) = ((a ^^^ b : Nat) : Int) := by
  unfold xorI
  simp only [ofInt_nat, BitVec.toNat_xor, BitVec.toNat_ofNat]
  simp only [IntKind.bits]
  rw [Nat.mod_eq_of_lt (by simpa using ha), Nat.mod_eq_of_lt (by simpa using hb)]
  have : a ^^^ b < 2 ^ 64 := Nat.xor_lt_two_pow (by simpa using ha) (by simpa using hb)
  exact wrap_u64 (by omega) (by omega)
theorem and_u8 {a b : Nat} (ha : a < 256) (hb : b < 256) : andI .u8 (a : Int) (b : Int) = ((a &&& b : Nat) : Int) := by
  unfold andI
  simp only [ofInt_nat, BitVec.toNat_and, BitVec.toNat_ofNat]
  simp only [IntKind.bits]
  rw [Nat.mod_eq_of_lt (by simpa using ha), Nat.mod_eq_of_lt (by simpa using hb)]
  have : a &&& b < 2 ^ 8 := Nat.and_lt_two_pow a (by simpa using hb)
  rw [wrap_u8_mod]; omega
theorem or_u8 {a b : Nat} (ha : a < 256) (hb : b < 256) : orI .u8 (a : Int) (b : Int) = ((a ||| b : Nat) : Int) := by
  unfold orI
  simp only [ofInt_nat, BitVec.toNat_or, BitVec.toNat_ofNat]
  simp only [IntKind.bits]
  rw [Nat.mod_eq_of_lt (by simpa using ha), Nat.mod_eq_of_lt (by simpa using hb)]
  have : a ||| b < 2 ^ 8 := Nat.or_lt_two_pow (by simpa using ha) (by simpa using hb)
  rw [wrap_u8_mod]; omega
theorem and_i64 {a b : Nat} (ha : a < 9223372036854775808) (hb : b < 9223372036854775808) : andI .i64 (a : Int) (b : Int) = ((a &&& b : Nat) : Int) := by
  unfold andI
  simp only [ofInt_nat, BitVec.toNat_and, BitVec.toNat_ofNat]
  simp only [IntKind.bits]
  rw [Nat.mod_eq_of_lt (by simp; omega), Nat.mod_eq_of_lt (by simp; omega)]
  have : a &&& b < 2 ^ 63 := Nat.and_lt_two_pow a (by simpa using hb)
  exact wrap_i64 (by omega) (by omega)
theorem or_i64 {a b : Nat} (ha : a < 9223372036854775808) (hb : b < 9223372036854775808) : orI .i64 (a : Int) (b : Int) = ((a ||| b : Nat) : Int) := by
  unfold orI
  simp only [ofInt_nat, BitVec.toNat_or, BitVec.toNat_ofNat]
  simp only [IntKind.bits]
  rw [Nat.mod_eq_of_lt (by simp; omega), Nat.mod_eq_of_lt (by simp; omega)]
  have : a ||| b < 2 ^ 63 := Nat.or_lt_two_pow (by simpa using ha) (by simpa using hb)
  exact wrap_i64 (by omega) (by omega)

theorem shl_u64 (a s : Nat) : shlI .u64 (a : Int) (s : Int) = ((a * 2 ^ (min s 64) % 18446744073709551616 : Nat) : Int) := by
  unfold shlI
  rw [wrap_u64_mod]
  simp only [IntKind.bits, Int.toNat_natCast]
  simp
theorem shr_u64 (a s : Nat) : shrI .u64 (a : Int) (s : Int) = ((a / 2 ^ (min s 64) : Nat) : Int) := by
  unfold shrI
  simp only [IntKind.bits, Int.toNat_natCast]
  rw [Int.fdiv_eq_ediv_of_nonneg _ (by exact Int.le_of_lt (Int.pow_pos (by decide)))]
  simp
theorem shr_i64 (a s : Nat) : shrI .i64 (a : Int) (s : Int) = ((a / 2 ^ (min s 64) : Nat) : Int) := by
  unfold shrI
  simp only [IntKind.bits, Int.toNat_natCast]
  rw [Int.fdiv_eq_ediv_of_nonneg _ (by exact Int.le_of_lt (Int.pow_pos (by decide)))]
  simp
theorem shl_u8 (a s : Nat) (hs : s ≤ 8) : shlI .u8 (a : Int) (s : Int) = ((a * 2 ^ s % 256 : Nat) : Int) := by
  unfold shlI
  rw [wrap_u8_mod]
  simp only [IntKind.bits, Int.toNat_natCast, Nat.min_eq_left hs]
  simp
theorem shl_i64 (a s : Nat) (hs : s ≤ 63) (h : a * 2 ^ s < 9223372036854775808) : shlI .i64 (a : Int) (s : Int) = ((a * 2 ^ s : Nat) : Int) := by
  unfold shlI
  simp only [IntKind.bits, Int.toNat_natCast, Nat.min_eq_left (show s ≤ 64 by omega)]
  rw [wrap_i64]
  · simp
  · have : (0 : Int) ≤ ((a * 2 ^ s : Nat) : Int) := by omega
    simp at this; omega
  · have : ((a * 2 ^ s : Nat) : Int) < 9223372036854775808 := by omega
    simpa using this

theorem div_nat (a b : Nat) : ((a : Int)).tdiv (b : Int) = ((a / b : Nat) : Int) := by
  exact (Int.ofNat_tdiv a b).symm
theorem mod_nat (a b : Nat) : ((a : Int)).tmod (b : Int) = ((a % b : Nat) : Int) := by
  exact (Int.ofNat_tmod a b).symm

/-! ### words -/
/-- A word of a number. -/
def wd (n i : Nat) : Nat := n / 2 ^ (64 * i) % 18446744073709551616

theorem wd_lt (n i : Nat) : wd n i < 18446744073709551616 := Nat.mod_lt _ (by decide)

theorem testBit_wd (n i j : Nat) : (wd n i).testBit j = (decide (j < 64) && n.testBit (j + 64 * i)) := by
  unfold wd
  rw [show (18446744073709551616 : Nat) = 2 ^ 64 by rfl, Nat.testBit_mod_two_pow, Nat.testBit_div_two_pow]

theorem wd_ext {a b : Nat} (h : ∀ j, j < 64 → a.testBit j = b.testBit j) (ha : a < 18446744073709551616) (hb : b < 18446744073709551616) : a = b := by
  apply Nat.eq_of_testBit_eq
  intro j
  by_cases hj : j < 64
  · exact h j hj
  · rw [Nat.testBit_lt_two_pow (i := j) (Nat.lt_of_lt_of_le (show a < 2 ^ 64 by simpa using ha) (Nat.pow_le_pow_right (by decide) (by omega))),
      Nat.testBit_lt_two_pow (i := j) (Nat.lt_of_lt_of_le (show b < 2 ^ 64 by simpa using hb) (Nat.pow_le_pow_right (by decide) (by omega)))]

theorem testBit_big {a k j : Nat} (ha : a < 2 ^ k) (h : k ≤ j) : a.testBit j = false :=
  Nat.testBit_lt_two_pow (Nat.lt_of_lt_of_le ha (Nat.pow_le_pow_right (by decide) h))

namespace Ev
/-- A number's words. -/
def W6.of (n : Nat) : W6 := ⟨(wd n 0 : Nat), (wd n 1 : Nat), (wd n 2 : Nat), (wd n 3 : Nat), (wd n 4 : Nat), (wd n 5 : Nat)⟩
def B2.of (n : Nat) : B2 := ⟨(wd n 1 : Nat), (wd n 0 : Nat)⟩
end Ev

theorem W6.get_of (n : Nat) {i : Nat} (h : i < 6) : (W6.of n).get i = ((wd n i : Nat) : Int) := by
  match i, h with
  | 0, _ => rfl
  | 1, _ => rfl
  | 2, _ => rfl
  | 3, _ => rfl
  | 4, _ => rfl
  | 5, _ => rfl

theorem W6.of_congr {n m : Nat} (h : ∀ i, i < 6 → wd n i = wd m i) : W6.of n = W6.of m := by
  simp only [W6.of, h 0 (by decide), h 1 (by decide), h 2 (by decide), h 3 (by decide), h 4 (by decide), h 5 (by decide)]

theorem W6.set_of {n m k x : Nat} (hk : k < 6) (h1 : wd m k = x) (h2 : ∀ i, i < 6 → i ≠ k → wd m i = wd n i) : (W6.of n).set k (x : Int) = W6.of m := by
  subst h1
  match k, hk with
  | 0, _ => simp [W6.set, W6.of, h2, nbeq]
  | 1, _ => simp [W6.set, W6.of, h2, nbeq]
  | 2, _ => simp [W6.set, W6.of, h2, nbeq]
  | 3, _ => simp [W6.set, W6.of, h2, nbeq]
  | 4, _ => simp [W6.set, W6.of, h2, nbeq]
  | 5, _ => simp [W6.set, W6.of, h2, nbeq]

/-- A number below 2^384, word by word. -/
theorem words (n : Nat) : n % 2 ^ 384 = wd n 0 + 2 ^ 64 * wd n 1 + 2 ^ 128 * wd n 2 + 2 ^ 192 * wd n 3 + 2 ^ 256 * wd n 4 + 2 ^ 320 * wd n 5 := by
  simp only [wd, Nat.mul_zero, Nat.pow_zero, Nat.div_one]
  omega

theorem words_lt {n : Nat} (h : n < 2 ^ 384) : n = wd n 0 + 2 ^ 64 * wd n 1 + 2 ^ 128 * wd n 2 + 2 ^ 192 * wd n 3 + 2 ^ 256 * wd n 4 + 2 ^ 320 * wd n 5 := by
  rw [← words, Nat.mod_eq_of_lt h]

theorem words2 {n : Nat} (h : n < 2 ^ 128) : n = wd n 0 + 2 ^ 64 * wd n 1 := by
  simp only [wd, Nat.mul_zero, Nat.pow_zero, Nat.div_one]
  omega

theorem of_words {r0 r1 r2 r3 r4 r5 c : Nat} (h0 : r0 < 18446744073709551616) (h1 : r1 < 18446744073709551616) (h2 : r2 < 18446744073709551616) (h3 : r3 < 18446744073709551616) (h4 : r4 < 18446744073709551616) (h5 : r5 < 18446744073709551616) {n : Nat}
    (hn : n = r0 + 2 ^ 64 * r1 + 2 ^ 128 * r2 + 2 ^ 192 * r3 + 2 ^ 256 * r4 + 2 ^ 320 * r5 + 2 ^ 384 * c) : W6.of n = ⟨(r0 : Nat), (r1 : Nat), (r2 : Nat), (r3 : Nat), (r4 : Nat), (r5 : Nat)⟩ := by
  subst hn
  simp only [W6.of, wd, Nat.mul_zero, Nat.pow_zero, Nat.div_one]
  congr <;> omega

theorem W6.of_inj {a b : Nat} (ha : a < 2 ^ 384) (hb : b < 2 ^ 384) : W6.of a = W6.of b ↔ a = b := by
  constructor
  · intro h
    simp only [W6.of, W6.mk.injEq, Int.natCast_inj] at h
    obtain ⟨h0, h1, h2, h3, h4, h5⟩ := h
    rw [words_lt ha, words_lt hb, h0, h1, h2, h3, h4, h5]
  · rintro rfl; rfl

theorem isz {n : Nat} (h : n < 2 ^ 384) : ((W6.of n).w0 == (0 : Int) && ((W6.of n).w1 == (0 : Int) && ((W6.of n).w2 == (0 : Int) && ((W6.of n).w3 == (0 : Int) && ((W6.of n).w4 == (0 : Int) && ((W6.of n).w5 == (0 : Int) && true)))))) = decide (n = 0) := by
  rw [Bool.eq_iff_iff]
  simp only [W6.of, Bool.and_eq_true, beq_iff_eq, decide_eq_true_eq, and_true]
  constructor
  · rintro ⟨h0, h1, h2, h3, h4, h5⟩
    have := words_lt h
    omega
  · rintro rfl
    simp [wd]

theorem wd_of_lt {n : Nat} (h : n < 2 ^ 64) {i : Nat} (hi : 0 < i) : wd n i = 0 := by
  unfold wd
  rw [Nat.div_eq_of_lt (Nat.lt_of_lt_of_le h (Nat.pow_le_pow_right (by decide) (by omega)))]

theorem W6.of_small {x : Nat} (h : x < 18446744073709551616) : W6.of x = ⟨(x : Nat), 0, 0, 0, 0, 0⟩ := by
  have h' : x < 2 ^ 64 := by simpa using h
  simp only [W6.of, wd_of_lt h' (show 0 < 1 by decide), wd_of_lt h' (show 0 < 2 by decide), wd_of_lt h' (show 0 < 3 by decide), wd_of_lt h' (show 0 < 4 by decide), wd_of_lt h' (show 0 < 5 by decide)]
  simp [wd, Nat.mod_eq_of_lt h]

/-! ### bits set, shifts -/
theorem wd_or_pow (m k i : Nat) : wd (m ||| 2 ^ k) i = if k / 64 = i then wd m i ||| 2 ^ (k % 64) else wd m i := by
  have hp : (2 : Nat) ^ (k % 64) < 2 ^ 64 := Nat.pow_lt_pow_right (by decide) (by omega)
  split
  · rename_i h
    refine wd_ext (fun j hj => ?_) (wd_lt _ _) (by simpa using Nat.or_lt_two_pow (n := 64) (by simpa using wd_lt m i) hp)
    simp only [testBit_wd, Nat.testBit_or, Nat.testBit_two_pow, hj, decide_true, Bool.true_and]
    congr 1
    exact decide_eq_decide.2 (by omega)
  · rename_i h
    refine wd_ext (fun j hj => ?_) (wd_lt _ _) (wd_lt _ _)
    simp only [testBit_wd, Nat.testBit_or, Nat.testBit_two_pow, hj, decide_true, Bool.true_and]
    rw [show decide (k = j + 64 * i) = false from decide_eq_false (by omega), Bool.or_false]

/-- A bit is set. -/
theorem setbit (m : Nat) {k : Nat} (hk : k < 384) : (W6.of m).set (k / 64) (orI .u64 ((W6.of m).get (k / 64)) (shlI .u64 1 ((k % 64 : Nat) : Int))) = W6.of (m ||| 2 ^ k) := by
  have hk6 : k / 64 < 6 := by omega
  have hp : (2 : Nat) ^ (k % 64) < 2 ^ 64 := Nat.pow_lt_pow_right (by decide) (by omega)
  rw [W6.get_of m hk6, show (1 : Int) = ((1 : Nat) : Int) from rfl, shl_u64, Nat.one_mul, Nat.min_eq_left (by omega), Nat.mod_eq_of_lt (by simpa using hp), or_u64 (wd_lt _ _) (by simpa using hp)]
  refine W6.set_of hk6 ?_ ?_
  · rw [wd_or_pow, if_pos rfl]
  · intro i _ hne
    rw [wd_or_pow, if_neg (Ne.symm hne)]

theorem wd_shl (a : Nat) {w s i : Nat} (hs : s < 64) : wd (a * 2 ^ (64 * w + s)) i = if i < w then 0 else if i = w then wd a 0 * 2 ^ s % 18446744073709551616 else (wd a (i - w) * 2 ^ s % 18446744073709551616) ||| (wd a (i - w - 1) / 2 ^ (64 - s)) := by
  split
  · rename_i h
    refine wd_ext (fun j hj => ?_) (wd_lt _ _) (by decide)
    simp only [testBit_wd, Nat.testBit_mul_two_pow, Nat.zero_testBit]
    rw [show decide (64 * w + s ≤ j + 64 * i) = false from decide_eq_false (by omega)]
    simp
  · split
    · rename_i h1 h
      subst h
      refine wd_ext (fun j hj => ?_) (wd_lt _ _) (Nat.mod_lt _ (by decide))
      rw [show (18446744073709551616 : Nat) = 2 ^ 64 by rfl]
      simp only [testBit_wd, Nat.testBit_mod_two_pow, Nat.testBit_mul_two_pow, hj, decide_true, Bool.true_and, Nat.mul_zero, Nat.add_zero]
      by_cases hc : s ≤ j
      · rw [show decide (64 * i + s ≤ j + 64 * i) = true from decide_eq_true (by omega), show decide (s ≤ j) = true from decide_eq_true hc, show decide (j - s < 64) = true from decide_eq_true (by omega)]
        simp only [Bool.true_and]
        congr 1
        omega
      · rw [show decide (64 * i + s ≤ j + 64 * i) = false from decide_eq_false (by omega), show decide (s ≤ j) = false from decide_eq_false hc]
        simp
    · rename_i h1 h2
      have hlt : wd a (i - w - 1) / 2 ^ (64 - s) < 2 ^ 64 := Nat.lt_of_le_of_lt (Nat.div_le_self _ _) (by simpa using wd_lt a (i - w - 1))
      refine wd_ext (fun j hj => ?_) (wd_lt _ _) (by simpa using Nat.or_lt_two_pow (n := 64) (by simpa using Nat.mod_lt (wd a (i - w) * 2 ^ s) (by decide : (18446744073709551616 : Nat) > 0)) hlt)
      rw [show (18446744073709551616 : Nat) = 2 ^ 64 by rfl]
      simp only [testBit_wd, Nat.testBit_or, Nat.testBit_mod_two_pow, Nat.testBit_mul_two_pow, Nat.testBit_div_two_pow, hj, decide_true, Bool.true_and]
      rw [show decide (64 * w + s ≤ j + 64 * i) = true from decide_eq_true (by omega)]
      by_cases hc : s ≤ j
      · rw [show decide (s ≤ j) = true from decide_eq_true hc, show decide (j - s < 64) = true from decide_eq_true (by omega), show decide (j + (64 - s) < 64) = false from decide_eq_false (by omega)]
        simp only [Bool.true_and, Bool.false_and, Bool.or_false]
        congr 1
        omega
      · rw [show decide (s ≤ j) = false from decide_eq_false hc, show decide (j + (64 - s) < 64) = true from decide_eq_true (by omega)]
        simp only [Bool.true_and, Bool.false_and, Bool.false_or]
        congr 1
        omega

theorem wd_shr (a : Nat) {w s i : Nat} (hs : s < 64) : wd (a / 2 ^ (64 * w + s)) i = (wd a (i + w) / 2 ^ s) ||| (wd a (i + w + 1) * 2 ^ (64 - s) % 18446744073709551616) := by
  have hlt : wd a (i + w) / 2 ^ s < 2 ^ 64 := Nat.lt_of_le_of_lt (Nat.div_le_self _ _) (by simpa using wd_lt a (i + w))
  refine wd_ext (fun j hj => ?_) (wd_lt _ _) (by simpa using Nat.or_lt_two_pow (n := 64) hlt (by simpa using Nat.mod_lt (wd a (i + w + 1) * 2 ^ (64 - s)) (by decide : (18446744073709551616 : Nat) > 0)))
  rw [show (18446744073709551616 : Nat) = 2 ^ 64 by rfl]
  simp only [testBit_wd, Nat.testBit_or, Nat.testBit_mod_two_pow, Nat.testBit_mul_two_pow, Nat.testBit_div_two_pow, hj, decide_true, Bool.true_and]
  by_cases hc : j + s < 64
  · rw [show decide (j + s < 64) = true from decide_eq_true hc, show decide (64 - s ≤ j) = false from decide_eq_false (by omega)]
    simp only [Bool.true_and, Bool.false_and, Bool.or_false]
    congr 1
    omega
  · rw [show decide (j + s < 64) = false from decide_eq_false hc, show decide (64 - s ≤ j) = true from decide_eq_true (by omega), show decide (j - (64 - s) < 64) = true from decide_eq_true (by omega)]
    simp only [Bool.true_and, Bool.false_and, Bool.false_or]
    congr 1
    omega

theorem wd_and (a b i : Nat) : wd (a &&& b) i = wd a i &&& wd b i := by
  refine wd_ext (fun j hj => ?_) (wd_lt _ _) (by simpa using Nat.and_lt_two_pow (n := 64) (wd a i) (by simpa using wd_lt b i))
  simp [testBit_wd, Nat.testBit_and, hj]
theorem wd_or (a b i : Nat) : wd (a ||| b) i = wd a i ||| wd b i := by
  refine wd_ext (fun j hj => ?_) (wd_lt _ _) (by simpa using Nat.or_lt_two_pow (n := 64) (by simpa using wd_lt a i) (by simpa using wd_lt b i))
  simp [testBit_wd, Nat.testBit_or, hj]
theorem wd_mask {k i : Nat} : wd (2 ^ k - 1) i = 2 ^ (min (k - 64 * i) 64) - 1 := by
  have hp : (2 : Nat) ^ (min (k - 64 * i) 64) - 1 < 2 ^ 64 := by
    have : (2 : Nat) ^ (min (k - 64 * i) 64) ≤ 2 ^ 64 := Nat.pow_le_pow_right (by decide) (by omega)
    have : 0 < (2 : Nat) ^ (min (k - 64 * i) 64) := Nat.pow_pos (by decide)
    omega
  refine wd_ext (fun j hj => ?_) (wd_lt _ _) (by simpa using hp)
  simp only [testBit_wd, Nat.testBit_two_pow_sub_one, hj, decide_true, Bool.true_and]
  exact decide_eq_decide.2 (by omega)
theorem wd_high {a i : Nat} (h : a < 2 ^ (64 * i)) : wd a i = 0 := by
  unfold wd
  rw [Nat.div_eq_of_lt h]

/-! ### how long a number is, and its lowest bit -/
/-- How many bits. -/
def bl (n : Nat) : Nat := if n = 0 then 0 else n.log2 + 1

theorem bl_zero : bl 0 = 0 := rfl
theorem bl_spec (n : Nat) : n < 2 ^ bl n ∧ (n ≠ 0 → 0 < bl n ∧ 2 ^ (bl n - 1) ≤ n) := by
  unfold bl
  split
  · rename_i h; subst h; simp
  · rename_i h
    exact ⟨Nat.lt_log2_self, fun _ => ⟨by omega, by simpa using Nat.log2_self_le h⟩⟩
theorem bl_lt (n : Nat) : n < 2 ^ bl n := (bl_spec n).1
theorem bl_pos {n : Nat} (h : n ≠ 0) : 0 < bl n := ((bl_spec n).2 h).1
theorem bl_le {n : Nat} (h : n ≠ 0) : 2 ^ (bl n - 1) ≤ n := ((bl_spec n).2 h).2
theorem bl_le_iff {n k : Nat} : bl n ≤ k ↔ n < 2 ^ k := by
  constructor
  · exact fun h => Nat.lt_of_lt_of_le (bl_lt n) (Nat.pow_le_pow_right (by decide) h)
  · intro h
    by_cases h0 : n = 0
    · subst h0; simp [bl]
    · have h2 := Nat.lt_of_le_of_lt (bl_le h0) h
      have := (Nat.pow_lt_pow_iff_right (by decide : 1 < 2)).1 h2
      omega
theorem lt_bl_iff {n k : Nat} : k < bl n ↔ 2 ^ k ≤ n := by
  have := bl_le_iff (n := n) (k := k)
  omega
theorem bl_unique {n k : Nat} (h1 : 2 ^ k ≤ n) (h2 : n < 2 ^ (k + 1)) : bl n = k + 1 := by
  have a := lt_bl_iff.2 h1
  have b := bl_le_iff.2 h2
  omega
theorem bl_eq_zero {n : Nat} : bl n = 0 ↔ n = 0 := by
  constructor
  · intro h
    by_cases h0 : n = 0
    · exact h0
    · have := bl_pos h0; omega
  · rintro rfl; rfl
theorem bl_mul_pow {n : Nat} (h : n ≠ 0) (k : Nat) : bl (n * 2 ^ k) = bl n + k := by
  obtain ⟨m, hm⟩ : ∃ m, bl n = m + 1 := ⟨bl n - 1, by have := bl_pos h; omega⟩
  rw [hm, show m + 1 + k = (m + k) + 1 by omega]
  have a := bl_le h
  have b := bl_lt n
  rw [hm] at a b
  refine bl_unique ?_ ?_
  · rw [Nat.pow_add]; exact Nat.mul_le_mul_right _ (by simpa using a)
  · rw [show m + k + 1 = (m + 1) + k by omega, Nat.pow_add]; exact Nat.mul_lt_mul_of_pos_right b (Nat.pow_pos (by decide))
theorem bl_div_pow (n k : Nat) : bl (n / 2 ^ k) = bl n - k := by
  by_cases h : bl n ≤ k
  · rw [Nat.div_eq_of_lt (bl_le_iff.1 h)]
    rw [bl_zero]; omega
  · obtain ⟨m, hm⟩ : ∃ m, bl n = m + k + 1 := ⟨bl n - k - 1, by omega⟩
    have h0 : n ≠ 0 := by rintro rfl; simp [bl] at hm
    have a := bl_le h0
    have b := bl_lt n
    rw [hm] at a b
    rw [hm, show m + k + 1 - k = m + 1 by omega]
    refine bl_unique ?_ ?_
    · rw [Nat.le_div_iff_mul_le (Nat.pow_pos (by decide)), ← Nat.pow_add]; simpa using a
    · rw [Nat.div_lt_iff_lt_mul (Nat.pow_pos (by decide)), ← Nat.pow_add]; rwa [show m + 1 + k = m + k + 1 by omega]
theorem bl_mono {a b : Nat} (h : a ≤ b) : bl a ≤ bl b := bl_le_iff.2 (Nat.lt_of_le_of_lt h (bl_lt b))

theorem bitLen_bl {x : Nat} (h : x < 18446744073709551616) : Lib.bitLen x = bl x := by
  by_cases h0 : x = 0
  · subst h0; rfl
  · obtain ⟨a, b, c⟩ := Lib.bitLenAux_bounds 64 x (by simpa using h) h0
    have e : Lib.bitLen x = Lib.bitLenAux 64 x := rfl
    rw [e]
    generalize Lib.bitLenAux 64 x = L at a b c ⊢
    obtain ⟨k, rfl⟩ : ∃ k, L = k + 1 := ⟨L - 1, by omega⟩
    exact (bl_unique (by simpa using b) c).symm

/-- How many zeros a number ends in. -/
def tz (n : Nat) : Nat := if h : n = 0 then 0 else if n % 2 = 1 then 0 else tz (n / 2) + 1
termination_by n
decreasing_by omega

theorem tz_spec (n : Nat) : n ≠ 0 → n % 2 ^ tz n = 0 ∧ n / 2 ^ tz n % 2 = 1 := by
  induction n using Nat.strongRecOn with
  | _ n ih =>
    intro h0
    unfold tz
    rw [dif_neg h0]
    split
    · rename_i h1
      simp [h1, Nat.mod_one]
    · rename_i h1
      obtain ⟨a, b⟩ := ih (n / 2) (by omega) (by omega)
      refine ⟨?_, ?_⟩
      · rw [Nat.pow_succ, Nat.mul_comm, Nat.mod_mul, a]; omega
      · rw [Nat.pow_succ, Nat.mul_comm, ← Nat.div_div_eq_div_mul]; exact b

theorem tz_odd {n : Nat} (h : n % 2 = 1) : tz n = 0 := by
  unfold tz
  rw [dif_neg (by omega), if_pos h]

theorem tz_unique {n k : Nat} (h1 : n % 2 ^ k = 0) (h2 : n / 2 ^ k % 2 = 1) : tz n = k := by
  have h0 : n ≠ 0 := by rintro rfl; simp at h2
  obtain ⟨a, b⟩ := tz_spec n h0
  have key : ∀ i j : Nat, i < j → n % 2 ^ j = 0 → n / 2 ^ i % 2 = 1 → False := by
    intro i j hij hj hi
    obtain ⟨d, rfl⟩ : ∃ d, j = i + 1 + d := ⟨j - i - 1, by omega⟩
    have : n % 2 ^ (i + 1) = 0 := by
      rw [Nat.pow_add] at hj
      have := Nat.mod_mul (x := n) (a := 2 ^ (i + 1)) (b := 2 ^ d)
      omega
    rw [Nat.pow_succ, Nat.mod_mul] at this
    have h3 : 0 < 2 ^ i := Nat.pow_pos (by decide)
    rw [hi] at this
    omega
  rcases Nat.lt_trichotomy (tz n) k with h | h | h
  · exact (key _ _ h h1 b).elim
  · exact h
  · exact (key _ _ h a h2).elim

theorem tz_lt_iff {n k : Nat} (h0 : n ≠ 0) : tz n < k ↔ n % 2 ^ k ≠ 0 := by
  obtain ⟨a, b⟩ := tz_spec n h0
  have h3 : 0 < 2 ^ tz n := Nat.pow_pos (by decide)
  constructor
  · intro h hc
    obtain ⟨d, rfl⟩ : ∃ d, k = tz n + 1 + d := ⟨k - tz n - 1, by omega⟩
    have : n % 2 ^ (tz n + 1) = 0 := by
      rw [Nat.pow_add] at hc
      have := Nat.mod_mul (x := n) (a := 2 ^ (tz n + 1)) (b := 2 ^ d)
      omega
    rw [Nat.pow_succ, Nat.mod_mul, b] at this
    omega
  · intro h
    apply Nat.lt_of_not_le
    intro hc
    obtain ⟨d, hd⟩ : ∃ d, tz n = k + d := ⟨tz n - k, by omega⟩
    rw [hd, Nat.pow_add] at a
    have := Nat.mod_mul (x := n) (a := 2 ^ k) (b := 2 ^ d)
    omega

theorem tz_mul_pow {n : Nat} (h : n ≠ 0) (k : Nat) : tz (n * 2 ^ k) = tz n + k := by
  obtain ⟨a, b⟩ := tz_spec n h
  refine tz_unique ?_ ?_
  · rw [Nat.pow_add, Nat.mul_mod_mul_right, a, Nat.zero_mul]
  · rw [Nat.pow_add, Nat.mul_div_mul_right _ _ (Nat.pow_pos (by decide))]; exact b

theorem tz_lt_bl {n : Nat} (h : n ≠ 0) : tz n < bl n := by
  obtain ⟨a, b⟩ := tz_spec n h
  refine lt_bl_iff.2 (Nat.le_of_dvd (by omega) (Nat.dvd_of_mod_eq_zero a))

theorem ctz_tz {x : Nat} (h0 : x ≠ 0) (h : x < 18446744073709551616) : Lib.ctz 64 x = tz x := by
  obtain ⟨m, hm, _⟩ := Lib.ctzFrom_spec 64 x (by omega) (by simpa using h)
  have e : Lib.ctz 64 x = Lib.ctzFrom 64 x := by simp [Lib.ctz, h0]
  rw [e]
  refine (tz_unique ?_ ?_).symm
  · rw (occs := .pos [1]) [hm]; simp
  · rw (occs := .pos [1]) [hm]
    rw [Nat.mul_comm, Nat.mul_div_cancel _ (Nat.pow_pos (by decide))]
    omega

end Go.Proofs.YtnfbcofieobkkaaDoor
