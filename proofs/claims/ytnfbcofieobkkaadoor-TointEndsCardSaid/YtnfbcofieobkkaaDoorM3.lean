/- The document's words and numbers of 384 bits, bit by bit. -/
import Derived.Test.YtnfbcofieobkkaaDoorM2
namespace Go.Proofs.YtnfbcofieobkkaaDoor
open Go Go.Proofs Ev
set_option linter.unusedVariables false
set_option exponentiation.threshold 512
set_option linter.unusedSimpArgs false

theorem i64_succ (i : Nat) (h : i < 1000000000000) : IntKind.i64.wrap ((i : Int) + 1) = ((i + 1 : Nat) : Int) := by
  rw [wrap_i64 (by omega) (by omega)]; omega
theorem div_bit (x i : Nat) : x / 2 ^ i = 2 * (x / 2 ^ (i + 1)) + (x.testBit i).toNat := by
  rw [Nat.testBit_eq_decide_div_mod_eq, Nat.pow_succ, ← Nat.div_div_eq_div_mul]
  by_cases h : x / 2 ^ i % 2 = 1
  · rw [decide_eq_true h]; simp only [Bool.toNat_true]; omega
  · rw [decide_eq_false h]; simp only [Bool.toNat_false]; omega
theorem mod_bit (x i : Nat) : x % 2 ^ (i + 1) = x % 2 ^ i + 2 ^ i * (x.testBit i).toNat := by
  rw [Nat.pow_succ, Nat.mod_mul, Nat.testBit_eq_decide_div_mod_eq]
  by_cases h : x / 2 ^ i % 2 = 1
  · rw [decide_eq_true h, h]; rfl
  · rw [decide_eq_false h, show x / 2 ^ i % 2 = 0 by omega]; rfl
theorem or_pow {v k : Nat} (h : v < 2 ^ k) : v ||| 2 ^ k = v + 2 ^ k := Nat.or_two_pow_eq_add_of_lt h

theorem ref01_Bit_g {x : Nat} (hx : x < 18446744073709551616) (i : Int) : ref01_Bit.g (x : Int) i = some (decide (0 ≤ i) && x.testBit i.toNat) := by
  unfold ref01_Bit.g
  simp only [Bool.cond_decide]
  split
  · rename_i h
    obtain ⟨k, rfl⟩ := Int.eq_ofNat_of_zero_le h
    rw [Int.toNat_natCast, decide_eq_true h, Bool.true_and]
    split
    · rename_i h2
      rw [wrap_u64 (by omega) (by omega), shr_u64, Nat.min_eq_left (by omega), show (1 : Int) = ((1 : Nat) : Int) from rfl, and_u64 (Nat.lt_of_le_of_lt (Nat.div_le_self _ _) hx) (by decide), Nat.and_one_is_mod, Nat.testBit_eq_decide_div_mod_eq]
      congr 1
      rw [Bool.eq_iff_iff]
      simp only [beq_iff_eq, decide_eq_true_eq]
      omega
    · rw [testBit_big (k := 64) (by simpa using hx) (by omega)]
  · rename_i h
    rw [decide_eq_false h]; rfl
theorem ref01_Bit_n {x : Nat} (hx : x < 18446744073709551616) (i : Nat) : ref01_Bit.g (x : Int) (i : Int) = some (x.testBit i) := by
  rw [ref01_Bit_g hx, decide_eq_true (by omega), Bool.true_and, Int.toNat_natCast]

theorem pow_lt64 {i : Nat} (h : i < 64) : 2 ^ i < 18446744073709551616 := by
  have := Nat.pow_lt_pow_right (a := 2) (by decide) h
  simpa using this

theorem or_bit64 {r i : Nat} (hr : r < 2 ^ i) (hi : i < 64) : orI IntKind.u64 (r : Int) (shlI IntKind.u64 (1 : Int) (IntKind.u64.wrap (i : Int))) = ((r + 2 ^ i : Nat) : Int) := by
  have h64 := pow_lt64 hi
  rw [wrap_u64 (by omega) (by omega), show (1 : Int) = ((1 : Nat) : Int) from rfl, shl_u64, Nat.one_mul, Nat.min_eq_left (by omega), Nat.mod_eq_of_lt h64, or_u64 (by omega) h64, or_pow hr]

theorem ref01_Add_loop {R : Type} (N : Nat) (x6 : Int) (x7 : Bool) {a b : Nat} (ha : a < 18446744073709551616) (hb : b < 18446744073709551616) (k0 : Bool → Int → Int → Option R) : ∀ (d i n r : Nat) (c : Bool), d + i = 64 → d < n → r < 2 ^ i →
    ref01_Add.l0 N (a : Int) (b : Int) x6 x7 k0 n c (r : Int) (i : Int) = k0 (decide (18446744073709551616 ≤ r + 2 ^ i * (c.toNat + a / 2 ^ i + b / 2 ^ i))) (((r + 2 ^ i * (c.toNat + a / 2 ^ i + b / 2 ^ i)) % 18446744073709551616 : Nat) : Int) 64
  | 0, i, n + 1, r, c, hd, _, hr => by
    obtain rfl : i = 64 := by omega
    unfold ref01_Add.l0 ref01_Add.b0
    dsimp only
    rw [decide_eq_false (by decide), cond_false]
    have hr' : r < 18446744073709551616 := by simpa using hr
    rw [Nat.div_eq_of_lt (show a < 2 ^ 64 by simpa using ha), Nat.div_eq_of_lt (show b < 2 ^ 64 by simpa using hb)]
    have : r + 2 ^ 64 * (c.toNat + 0 + 0) = r + 18446744073709551616 * c.toNat := by omega
    rw [this]
    cases c
    · rw [decide_eq_false (by simp only [Bool.toNat_false]; omega), show (r + 18446744073709551616 * false.toNat) % 18446744073709551616 = r by simp only [Bool.toNat_false]; omega]; rfl
    · rw [decide_eq_true (by simp only [Bool.toNat_true]; omega), show (r + 18446744073709551616 * true.toNat) % 18446744073709551616 = r by simp only [Bool.toNat_true]; omega]; rfl
  | d + 1, i, n + 1, r, c, hd, hn, hr => by
    have hi : i < 64 := by omega
    have ih := fun r' c' (h : r' < 2 ^ (i + 1)) => ref01_Add_loop N x6 x7 ha hb k0 d (i + 1) n r' c' (by omega) (by omega) h
    unfold ref01_Add.l0 ref01_Add.b0
    dsimp only
    rw [decide_eq_true (by omega), cond_true, ref01_Bit_n ha, Option.bind_some, ref01_Bit_n hb, Option.bind_some, or_bit64 hr hi, i64_succ i (by omega), div_bit a i, div_bit b i]
    have hr1 : r < 2 ^ (i + 1) := by rw [Nat.pow_succ]; omega
    have hr2 : r + 2 ^ i < 2 ^ (i + 1) := by rw [Nat.pow_succ]; omega
    have e : ∀ (r' : Nat) (p q c c' : Bool), r + 2 ^ i * (c.toNat + p.toNat + q.toNat) = r' + 2 ^ (i + 1) * c'.toNat → r + 2 ^ i * (c.toNat + (2 * (a / 2 ^ (i + 1)) + p.toNat) + (2 * (b / 2 ^ (i + 1)) + q.toNat)) = r' + 2 ^ (i + 1) * (c'.toNat + a / 2 ^ (i + 1) + b / 2 ^ (i + 1)) := by
      intro r' p q c c' h
      generalize a / 2 ^ (i + 1) = A
      generalize b / 2 ^ (i + 1) = B
      rw [Nat.pow_succ] at h ⊢
      simp only [Nat.mul_add, Nat.add_mul] at h ⊢
      have k1 : 2 ^ i * (2 * A) = 2 ^ i * 2 * A := by rw [Nat.mul_assoc]
      have k2 : 2 ^ i * (2 * B) = 2 ^ i * 2 * B := by rw [Nat.mul_assoc]
      omega
    cases a.testBit i <;> cases b.testBit i <;> cases c <;> simp only [cond_true, cond_false, Bool.not_true, Bool.not_false, beq_self_eq_true, Bool.true_beq, Bool.false_beq]
    · rw [ih _ _ hr1, e r false false false false (by simp)]
    · rw [ih _ _ hr2, e (r + 2 ^ i) false false true false (by simp)]
    · rw [ih _ _ hr2, e (r + 2 ^ i) false true false false (by simp)]
    · rw [ih _ _ hr1, e r false true true true (by simp [Nat.pow_succ])]
    · rw [ih _ _ hr2, e (r + 2 ^ i) true false false false (by simp)]
    · rw [ih _ _ hr1, e r true false true true (by simp [Nat.pow_succ])]
    · rw [ih _ _ hr1, e r true true false true (by simp [Nat.pow_succ])]
    · rw [ih _ _ hr2, e (r + 2 ^ i) true true true true (by simp [Nat.pow_succ]; omega)]

theorem ref01_Add_g {a b : Nat} (ha : a < 18446744073709551616) (hb : b < 18446744073709551616) (c : Bool) : ref01_Add.g (a : Int) (b : Int) c = some ((((a + b + c.toNat) % 18446744073709551616 : Nat) : Int), decide (18446744073709551616 ≤ a + b + c.toNat)) := by
  unfold ref01_Add.g ref01_Add.f
  have := ref01_Add_loop fuel 0 false ha hb (fun (x2 : Bool) (x8 x9 : Int) => some (x8, x2)) 64 0 fuel 0 c rfl (by decide) (by decide)
  simp only [Nat.pow_zero, Nat.div_one, Nat.one_mul, Nat.zero_add] at this
  rw [show c.toNat + a + b = a + b + c.toNat by omega] at this
  exact this

theorem ref02_Add_g {a b : Nat} (ha : a < 2 ^ 384) (hb : b < 2 ^ 384) : ref02_Add.g (W6.of a) (W6.of b) = some (W6.of (a + b), decide (2 ^ 384 ≤ a + b)) :=
  add_chain ref01_Add.g (fun _ _ ha hb c => ref01_Add_g ha hb c) ha hb

theorem ref01_Len_loop {R : Type} (N : Nat) (x2 : Int) {x : Nat} (hx : x < 18446744073709551616) (k0 : Int → Int → Option R) : ∀ (d i n : Nat), d + i = 64 → d < n →
    ref01_Len.l0 N (x : Int) x2 k0 n ((bl (x % 2 ^ i) : Nat) : Int) (i : Int) = k0 ((bl x : Nat) : Int) 64
  | 0, i, n + 1, hd, _ => by
    obtain rfl : i = 64 := by omega
    unfold ref01_Len.l0 ref01_Len.b0
    dsimp only
    rw [decide_eq_false (by decide), cond_false, Nat.mod_eq_of_lt (by simpa using hx)]
    rfl
  | d + 1, i, n + 1, hd, hn => by
    have ih := ref01_Len_loop N x2 hx k0 d (i + 1) n (by omega) (by omega)
    unfold ref01_Len.l0 ref01_Len.b0
    dsimp only
    rw [decide_eq_true (by omega), cond_true, ref01_Bit_n hx, Option.bind_some, i64_succ i (by omega), ← ih, mod_bit]
    cases x.testBit i
    · simp
    · simp only [cond_true, Bool.toNat_true, Nat.mul_one]
      have h1 : x % 2 ^ i < 2 ^ i := Nat.mod_lt _ (Nat.pow_pos (by decide))
      rw [bl_unique (k := i) (by omega) (by rw [Nat.pow_succ]; omega)]
theorem ref01_Len_g {x : Nat} (h : x < 18446744073709551616) : ref01_Len.g (x : Int) = some ((bl x : Nat) : Int) := by
  unfold ref01_Len.g ref01_Len.f
  have := ref01_Len_loop fuel 0 h (fun (x3 x4 : Int) => some x3) 64 0 fuel rfl (by decide)
  simpa [Nat.mod_one, bl] using this
theorem ref02_Len_g {a : Nat} (ha : a < 2 ^ 384) : ref02_Len.g (W6.of a) = some ((bl a : Nat) : Int) :=
  len_chain (R := Unit) ref01_Len.g (fun x _ h => ref01_Len_g h) ha

theorem ref01_Low_loop {R : Type} (N : Nat) {x : Nat} (hx : x < 18446744073709551616) (h0 : x ≠ 0) (k0 k1 : Int → Int → Option R) : ∀ (d i n : Nat) (x2 : Int), d + i = 64 → d < n → x % 2 ^ i = 0 →
    ref01_Low.l0 N (x : Int) k0 k1 n x2 (i : Int) = k0 ((tz x : Nat) : Int) ((tz x : Nat) : Int)
  | 0, i, n + 1, x2, hd, _, hm => by
    obtain rfl : i = 64 := by omega
    rw [Nat.mod_eq_of_lt (by simpa using hx)] at hm
    exact absurd hm h0
  | d + 1, i, n + 1, x2, hd, hn, hm => by
    have ih := ref01_Low_loop N hx h0 k0 k1 d (i + 1) n x2 (by omega) (by omega)
    unfold ref01_Low.l0 ref01_Low.b0
    dsimp only
    rw [decide_eq_true (by omega), cond_true, ref01_Bit_n hx, Option.bind_some, i64_succ i (by omega)]
    have hb := Nat.testBit_eq_decide_div_mod_eq (x := x) (i := i)
    have hm2 := mod_bit x i
    generalize x.testBit i = p at hb hm2 ⊢
    cases p
    · rw [cond_false, ih (by rw [hm2, hm]; rfl)]
    · rw [cond_true, tz_unique hm (by simpa using hb.symm)]
theorem ref01_Low_g {x : Nat} (h0 : x ≠ 0) (h : x < 18446744073709551616) : ref01_Low.g (x : Int) = some ((tz x : Nat) : Int) := by
  unfold ref01_Low.g ref01_Low.f
  exact ref01_Low_loop fuel h h0 (fun (x2 x3 : Int) => some x2) (fun (x2 x3 : Int) => some (64 : Int)) 64 0 fuel 0 rfl (by decide) (by simp [Nat.mod_one])

/-! ### 384 bits -/
theorem ref02_Count_g (n : Int) : ref02_Count.g n = some ((min n.toNat 384 : Nat) : Int) := by
  unfold ref02_Count.g
  simp only [Bool.cond_decide]
  split
  · congr 1; omega
  · split <;> (congr 1; omega)
theorem ref02_Of_g {x : Nat} (h : x < 18446744073709551616) : ref02_Of.g (x : Int) = some (W6.of x) := wide_Of_g h
theorem ref02_OfBits_g {n : Nat} (h : n < 2 ^ 128) : ref02_OfBits.g (B2.of n) = some (W6.of n) := wide_OfBits_g h
theorem ref02_And_g (a b : Nat) : ref02_And.g (W6.of a) (W6.of b) = some (W6.of (a &&& b)) := wide_And_g a b
theorem ref02_Bit_g {a : Nat} (ha : a < 2 ^ 384) (i : Int) : ref02_Bit.g (W6.of a) i = some (decide (0 ≤ i) && a.testBit i.toNat) := by
  unfold ref02_Bit.g
  simp only [Bool.cond_decide]
  split
  · rename_i h
    obtain ⟨k, rfl⟩ := Int.eq_ofNat_of_zero_le h
    rw [Int.toNat_natCast, decide_eq_true h, Bool.true_and]
    split
    · rename_i h2
      have hk : k < 384 := by omega
      rw [divI k (by omega), decide_eq_true (by omega : (0 : Int) ≤ ((k / 64 : Nat) : Int)), decide_eq_true (by omega : ((k / 64 : Nat) : Int) < 6), Int.toNat_natCast]
      rw [show (k / 64).blt 6 = true from by simp only [nblt]; exact decide_eq_true (by omega)]
      simp only [Bool.and_self, cond_true]
      rw [W6.get_of a (by omega), show (64 : Int) = ((64 : Nat) : Int) from rfl, mod_nat, ref01_Bit_n (wd_lt _ _), Option.bind_some, testBit_wd, decide_eq_true (by omega), Bool.true_and, show k % 64 + 64 * (k / 64) = k by omega]
    · rw [testBit_big ha (by omega)]
  · rename_i h
    rw [decide_eq_false h]; rfl
theorem ref02_Bit_n {a : Nat} (ha : a < 2 ^ 384) (i : Nat) : ref02_Bit.g (W6.of a) (i : Int) = some (a.testBit i) := by
  rw [ref02_Bit_g ha, decide_eq_true (by omega), Bool.true_and, Int.toNat_natCast]

theorem W6.of_add (n c : Nat) : W6.of (n + 2 ^ 384 * c) = W6.of n := by
  apply W6.of_congr
  intro i hi
  unfold wd
  have : (2 : Nat) ^ 384 * c = 2 ^ (64 * i) * (18446744073709551616 * (2 ^ (64 * (5 - i)) * c)) := by
    rw [show (18446744073709551616 : Nat) = 2 ^ 64 by rfl, ← Nat.mul_assoc, ← Nat.mul_assoc, ← Nat.pow_add, ← Nat.pow_add]
    congr 2
    omega
  rw [this, Nat.add_mul_div_left _ _ (Nat.pow_pos (by decide)), Nat.add_mul_mod_self_left]
theorem W6.of_mod (n : Nat) : W6.of (n % 2 ^ 384) = W6.of n := by
  rw (occs := .pos [2]) [← Nat.mod_add_div n (2 ^ 384)]
  rw [W6.of_add]

theorem setbit_at (m : Nat) {k : Nat} (hk : k < 384) {R : Type} (F : W6 → Option R) : (bif decide ((0 : Int) ≤ IntKind.i64.wrap ((k : Int).tdiv (64 : Int))) && decide (IntKind.i64.wrap ((k : Int).tdiv (64 : Int)) < (6 : Int)) then bif (IntKind.i64.wrap ((k : Int).tdiv (64 : Int))).toNat.blt (6 : Nat) then bif decide ((0 : Int) ≤ IntKind.i64.wrap ((k : Int).tdiv (64 : Int))) && decide (IntKind.i64.wrap ((k : Int).tdiv (64 : Int)) < (6 : Int)) then bif ((IntKind.i64.wrap ((k : Int).tdiv (64 : Int))).toNat + (1 : Nat)).ble (6 : Nat) then F ((W6.of m).set (IntKind.i64.wrap ((k : Int).tdiv (64 : Int))).toNat (orI IntKind.u64 ((W6.of m).get (IntKind.i64.wrap ((k : Int).tdiv (64 : Int))).toNat) (shlI IntKind.u64 (1 : Int) (IntKind.u64.wrap ((k : Int).tmod (64 : Int)))))) else none else none else none else none) = F (W6.of (m ||| 2 ^ k)) := by
  rw [divI k (by omega), modU k (by omega), decide_eq_true (by omega : (0 : Int) ≤ ((k / 64 : Nat) : Int)), decide_eq_true (by omega : ((k / 64 : Nat) : Int) < 6), Int.toNat_natCast,
    show (k / 64).blt 6 = true from by simp only [nblt]; exact decide_eq_true (by omega), Nat.ble_eq_true_of_le (by omega), setbit m hk]
  rfl

theorem ref02_Left_loop {R : Type} (N : Nat) {k : Nat} (hk : k ≤ 384) (x5 : Bool) (m1 : W6) {a : Nat} (ha : a < 2 ^ 384) (k0 : Bool → Int → W6 → Option R) : ∀ (d i n : Nat), d + i = 384 → d < n →
    ref02_Left.l0 N (k : Int) x5 m1 (W6.of a) k0 n (decide (2 ^ 384 ≤ a % 2 ^ i * 2 ^ k)) (i : Int) (W6.of (a % 2 ^ i * 2 ^ k)) = k0 (decide (2 ^ 384 ≤ a * 2 ^ k)) 384 (W6.of (a * 2 ^ k))
  | 0, i, n + 1, hd, _ => by
    obtain rfl : i = 384 := by omega
    unfold ref02_Left.l0 ref02_Left.b0
    dsimp only
    rw [decide_eq_false (by decide : ¬ (((384 : Nat) : Int) < 384)), cond_false, Nat.mod_eq_of_lt ha]
    rfl
  | d + 1, i, n + 1, hd, hn => by
    have ih := ref02_Left_loop N hk x5 m1 ha k0 d (i + 1) n (by omega) (by omega)
    unfold ref02_Left.l0 ref02_Left.b0
    dsimp only
    rw [decide_eq_true (by omega : (i : Int) < 384), cond_true, ref02_Bit_n ha, Option.bind_some, i64_succ i (by omega), ← ih, mod_bit]
    have hv : a % 2 ^ i * 2 ^ k < 2 ^ (i + k) := by
      rw [Nat.pow_add]; exact Nat.mul_lt_mul_of_pos_right (Nat.mod_lt _ (Nat.pow_pos (by decide))) (Nat.pow_pos (by decide))
    cases a.testBit i
    · simp
    · simp only [cond_true, Bool.toNat_true, Nat.mul_one]
      rw [Nat.add_mul, ← Nat.pow_add, show (i : Int) + (k : Int) = ((i + k : Nat) : Int) by omega, wrap_i64 (x := ((i + k : Nat) : Int)) (by omega) (by omega)]
      generalize a % 2 ^ i * 2 ^ k = v at hv ⊢
      by_cases hc : i + k < 384
      · rw [decide_eq_true (by omega : ((i + k : Nat) : Int) < 384), cond_true, setbit_at v hc (fun w => ref02_Left.l0 N (k : Int) x5 m1 (W6.of a) k0 n (decide (2 ^ 384 ≤ v)) ((i + 1 : Nat) : Int) w), or_pow hv]
        have h2 : (2 : Nat) ^ (i + k + 1) ≤ 2 ^ 384 := Nat.pow_le_pow_right (by decide) (by omega)
        rw [Nat.pow_succ] at h2
        rw [decide_eq_false (by omega : ¬ 2 ^ 384 ≤ v), decide_eq_false (by omega : ¬ 2 ^ 384 ≤ v + 2 ^ (i + k))]
      · rw [decide_eq_false (by omega : ¬ ((i + k : Nat) : Int) < 384), cond_false]
        have e : (2 : Nat) ^ (i + k) = 2 ^ 384 * 2 ^ (i + k - 384) := by rw [← Nat.pow_add, show 384 + (i + k - 384) = i + k by omega]
        have h2 : (2 : Nat) ^ 384 ≤ 2 ^ (i + k) := Nat.pow_le_pow_right (by decide) (by omega)
        rw [decide_eq_true (by omega : 2 ^ 384 ≤ v + 2 ^ (i + k)), e, W6.of_add]
theorem ref02_Left_g {a : Nat} (ha : a < 2 ^ 384) (n : Int) : ref02_Left.g (W6.of a) n = some (W6.of (a * 2 ^ (min n.toNat 384)), decide (2 ^ 384 ≤ a * 2 ^ (min n.toNat 384))) := by
  unfold ref02_Left.g ref02_Left.f
  rw [ref02_Count_g, Option.bind_some, zeroW]
  have := ref02_Left_loop fuel (Nat.min_le_right n.toNat 384) false (W6.of 0) ha (fun (x7 : Bool) (x8 : Int) (m6 : W6) => some (m6, x7)) 384 0 fuel rfl (by decide)
  rw [Nat.pow_zero, Nat.mod_one, Nat.zero_mul, decide_eq_false (Nat.not_le_of_lt (Nat.pow_pos (by decide)))] at this
  exact this

theorem ref02_Right_loop {R : Type} (N : Nat) {k : Nat} (hk : k ≤ 384) (x5 : Bool) (m1 : W6) {a : Nat} (ha : a < 2 ^ 384) (k0 : Bool → Int → W6 → Option R) : ∀ (d i n : Nat), d + i = 384 → d < n →
    ref02_Right.l0 N (k : Int) x5 m1 (W6.of a) k0 n (decide (a % 2 ^ i % 2 ^ k ≠ 0)) (i : Int) (W6.of (a % 2 ^ i / 2 ^ k)) = k0 (decide (a % 2 ^ k ≠ 0)) 384 (W6.of (a / 2 ^ k))
  | 0, i, n + 1, hd, _ => by
    obtain rfl : i = 384 := by omega
    unfold ref02_Right.l0 ref02_Right.b0
    dsimp only
    rw [decide_eq_false (by decide : ¬ (((384 : Nat) : Int) < 384)), cond_false, Nat.mod_eq_of_lt ha]
    rfl
  | d + 1, i, n + 1, hd, hn => by
    have ih := ref02_Right_loop N hk x5 m1 ha k0 d (i + 1) n (by omega) (by omega)
    unfold ref02_Right.l0 ref02_Right.b0
    dsimp only
    rw [decide_eq_true (by omega : (i : Int) < 384), cond_true, ref02_Bit_n ha, Option.bind_some, i64_succ i (by omega), ← ih, mod_bit]
    have hv : a % 2 ^ i < 2 ^ i := Nat.mod_lt _ (Nat.pow_pos (by decide))
    cases a.testBit i
    · simp
    · simp only [cond_true, Bool.toNat_true, Nat.mul_one]
      generalize a % 2 ^ i = v at hv ⊢
      by_cases hc : k ≤ i
      · have e : (2 : Nat) ^ i = 2 ^ k * 2 ^ (i - k) := by rw [← Nat.pow_add]; congr 1; omega
        rw [decide_eq_true (by omega : (k : Int) ≤ (i : Int)), cond_true, show (i : Int) - (k : Int) = ((i - k : Nat) : Int) by omega, wrap_i64 (x := ((i - k : Nat) : Int)) (by omega) (by omega),
          setbit_at (v / 2 ^ k) (show i - k < 384 by omega) (fun w => ref02_Right.l0 N (k : Int) x5 m1 (W6.of a) k0 n (decide (v % 2 ^ k ≠ 0)) ((i + 1 : Nat) : Int) w), or_pow, e, Nat.add_mul_div_left _ _ (Nat.pow_pos (by decide)), Nat.add_mul_mod_self_left]
        rw [Nat.div_lt_iff_lt_mul (Nat.pow_pos (by decide)), ← Nat.pow_add]
        rwa [show i - k + k = i by omega]
      · have h2 : (2 : Nat) ^ (i + 1) ≤ 2 ^ k := Nat.pow_le_pow_right (by decide) (by omega)
        rw [Nat.pow_succ] at h2
        rw [decide_eq_false (by omega : ¬ (k : Int) ≤ (i : Int)), cond_false, Nat.mod_eq_of_lt (by omega : v + 2 ^ i < 2 ^ k), Nat.div_eq_of_lt (by omega : v < 2 ^ k), Nat.div_eq_of_lt (by omega : v + 2 ^ i < 2 ^ k), decide_eq_true (by omega : v + 2 ^ i ≠ 0)]
theorem ref02_Right_g {a : Nat} (ha : a < 2 ^ 384) (n : Int) : ref02_Right.g (W6.of a) n = some (W6.of (a / 2 ^ (min n.toNat 384)), decide (a % 2 ^ (min n.toNat 384) ≠ 0)) := by
  unfold ref02_Right.g ref02_Right.f
  rw [ref02_Count_g, Option.bind_some, zeroW]
  have := ref02_Right_loop fuel (Nat.min_le_right n.toNat 384) false (W6.of 0) ha (fun (x7 : Bool) (x8 : Int) (m6 : W6) => some (m6, x7)) 384 0 fuel rfl (by decide)
  rw [Nat.pow_zero, Nat.mod_one, Nat.zero_mod, Nat.zero_div, decide_eq_false (fun h => h rfl)] at this
  exact this

theorem ref02_Mask_loop {R : Type} (N : Nat) {k : Nat} (hk : k ≤ 384) (m0 : W6) (k0 : Int → W6 → Option R) : ∀ (d i n : Nat), d + i = k → d < n →
    ref02_Mask.l0 N (k : Int) m0 k0 n (i : Int) (W6.of (2 ^ i - 1)) = k0 (k : Int) (W6.of (2 ^ k - 1))
  | 0, i, n + 1, hd, _ => by
    obtain rfl : i = k := by omega
    unfold ref02_Mask.l0 ref02_Mask.b0
    dsimp only
    rw [decide_eq_false (by omega), cond_false]
  | d + 1, i, n + 1, hd, hn => by
    have ih := ref02_Mask_loop N hk m0 k0 d (i + 1) n (by omega) (by omega)
    unfold ref02_Mask.l0 ref02_Mask.b0
    dsimp only
    have hp : 0 < (2 : Nat) ^ i := Nat.pow_pos (by decide)
    rw [decide_eq_true (by omega), cond_true, i64_succ i (by omega), setbit_at (2 ^ i - 1) (show i < 384 by omega) (fun w => ref02_Mask.l0 N (k : Int) m0 k0 n ((i + 1 : Nat) : Int) w), or_pow (by omega), ← ih, Nat.pow_succ]
    congr 2
    omega
theorem ref02_Mask_g (n : Int) : ref02_Mask.g n = some (W6.of (2 ^ (min n.toNat 384) - 1)) := by
  unfold ref02_Mask.g ref02_Mask.f
  rw [ref02_Count_g, Option.bind_some, zeroW]
  exact ref02_Mask_loop fuel (Nat.min_le_right n.toNat 384) (W6.of 0) (fun (x4 : Int) (m4 : W6) => some m4) _ 0 fuel rfl (Nat.lt_of_le_of_lt (Nat.min_le_right _ _) (by decide))

end Go.Proofs.YtnfbcofieobkkaaDoor
