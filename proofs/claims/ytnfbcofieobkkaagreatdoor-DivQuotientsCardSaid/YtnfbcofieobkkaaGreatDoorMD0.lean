/- Quotients, bit by bit; the document's exact quotient. -/
import Derived.Test.YtnfbcofieobkkaaGreatDoorM16
import Derived.Test.YtnfbcofieobkkaaGreatDoorME
namespace Go.Proofs.YtnfbcofieobkkaaGreatDoor
open Go Go.Proofs Ev
set_option linter.unusedVariables false
set_option exponentiation.threshold 512
set_option maxRecDepth 100000
set_option linter.unusedSimpArgs false

theorem quot_Div_loop {R : Type} (N : Nat) (x6 : Int) {a b : Nat} (ha : a < 2 ^ 384) (hb : b < 2 ^ 382) (k0 : Int → W6 → W6 → Option R) : ∀ (j n Q r : Nat), j < n → j ≤ 384 → a / 2 ^ j = Q * b + r → r < b →
    quot_Div.l0 N x6 (W6.of b) (W6.of a) k0 n ((j : Int) - 1) (W6.of r) (W6.of (Q * 2 ^ j)) = k0 (-1) (W6.of (a % b)) (W6.of (a / b))
  | 0, n + 1, Q, r, _, _, hQ, hr => by
    unfold quot_Div.l0 quot_Div.b0
    rw [decide_eq_false (by omega : ¬ (0 : Int) ≤ ((0 : Nat) : Int) - 1), bF]
    rw [Nat.pow_zero, Nat.div_one] at hQ
    have h1 : a / b = Q := by rw [hQ, Nat.mul_comm, Nat.mul_add_div (by omega), Nat.div_eq_of_lt hr, Nat.add_zero]
    have h2 : a % b = r := by rw [hQ, Nat.mul_comm, Nat.mul_add_mod, Nat.mod_eq_of_lt hr]
    rw [h1, h2, Nat.pow_zero, Nat.mul_one]
    rfl
  | j + 1, n + 1, Q, r, hn, hj, hQ, hr => by
    have p382 : (2 : Nat) ^ 382 * 4 = 2 ^ 384 := by decide
    have hr382 : r < 2 ^ 382 := Nat.lt_trans hr hb
    have hp : a / 2 ^ j = 2 * (a / 2 ^ (j + 1)) + a / 2 ^ j % 2 := by
      rw [Nat.pow_succ, ← Nat.div_div_eq_div_mul]; omega
    have hbit : a / 2 ^ j % 2 < 2 := Nat.mod_lt _ (by decide)
    have htop : wide_Bit.g (W6.of r) (383 : Int) = some false := by
      rw [wide_Bit_g (by omega), testBit_big (k := 382) hr382 (by decide)]; rfl
    have hab : wide_Bit.g (W6.of a) (j : Int) = some (decide (a / 2 ^ j % 2 = 1)) := by
      rw [wide_Bit_g ha, decide_eq_true (by omega : (0 : Int) ≤ (j : Int)), Bool.true_and, Int.toNat_natCast, Nat.testBit_eq_decide_div_mod_eq]
    have L1 : wide_Left.g (W6.of r) (1 : Int) = some (W6.of (r * 2 ^ 1), decide (2 ^ 384 ≤ r * 2 ^ 1)) := wide_Left_g (by omega) 1
    have a3 := W6.add_low r (t := 1) (k := 1) (by decide) (by decide)
    rw [show ((1 : Nat) : Int) = (1 : Int) from rfl] at a3
    have hor : Q * 2 ^ (j + 1) ||| 2 ^ j = (2 * Q + 1) * 2 ^ j := by
      rw [or_add (Nat.pow_lt_pow_right (by decide) (by omega)), Nat.add_mul, Nat.one_mul, Nat.pow_succ, Nat.mul_comm 2 Q, Nat.mul_assoc, Nat.mul_comm 2]
    have hdb : Q * 2 ^ (j + 1) = 2 * Q * 2 ^ j := by rw [Nat.pow_succ, Nat.mul_comm 2 Q, Nat.mul_assoc, Nat.mul_comm 2]
    have tail : ∀ R1 : Nat, R1 = 2 * r + a / 2 ^ j % 2 → ((wide_Cmp.g (W6.of R1) (W6.of b)).bind fun (r : Int) => bif decide ((0 : Int) ≤ r) then (wide_Sub.g (W6.of R1) (W6.of b)).bind fun (r : W6 × Bool) => bif decide ((0 : Int) ≤ IntKind.i64.wrap ((j : Int).tdiv (64 : Int))) && decide (IntKind.i64.wrap ((j : Int).tdiv (64 : Int)) < (6 : Int)) then bif (IntKind.i64.wrap ((j : Int).tdiv (64 : Int))).toNat.blt (6 : Nat) then bif decide ((0 : Int) ≤ IntKind.i64.wrap ((j : Int).tdiv (64 : Int))) && decide (IntKind.i64.wrap ((j : Int).tdiv (64 : Int)) < (6 : Int)) then bif ((IntKind.i64.wrap ((j : Int).tdiv (64 : Int))).toNat + (1 : Nat)).ble (6 : Nat) then quot_Div.l0 N x6 (W6.of b) (W6.of a) k0 n (IntKind.i64.wrap ((j : Int) - (1 : Int))) r.fst ((W6.of (Q * 2 ^ (j + 1))).set (IntKind.i64.wrap ((j : Int).tdiv (64 : Int))).toNat (orI IntKind.u64 ((W6.of (Q * 2 ^ (j + 1))).get (IntKind.i64.wrap ((j : Int).tdiv (64 : Int))).toNat) (shlI IntKind.u64 (1 : Int) (IntKind.u64.wrap ((j : Int).tmod (64 : Int)))))) else none else none else none else none else quot_Div.l0 N x6 (W6.of b) (W6.of a) k0 n (IntKind.i64.wrap ((j : Int) - (1 : Int))) (W6.of R1) (W6.of (Q * 2 ^ (j + 1)))) = k0 (-1) (W6.of (a % b)) (W6.of (a / b)) := by
      intro R1 hR1
      rw [wide_Cmp_g (by omega) (by omega), obind, wrap_i64 (x := (j : Int) - 1) (by omega) (by omega)]
      unfold cmpN
      by_cases hc : b ≤ R1
      · rw [if_neg (by omega), decide_eq_true (by split <;> decide), bT, wide_Sub_g (by omega) (by omega), obind]
        dsimp only
        rw [setbit_at (Q * 2 ^ (j + 1)) (k := j) (by omega) (fun w => quot_Div.l0 N x6 (W6.of b) (W6.of a) k0 n ((j : Int) - 1) (W6.of ((R1 + 2 ^ 384 - b) % 2 ^ 384)) w), hor, show (R1 + 2 ^ 384 - b) % 2 ^ 384 = R1 - b by
          rw [show R1 + 2 ^ 384 - b = R1 - b + 2 ^ 384 by omega, Nat.add_mod_right, Nat.mod_eq_of_lt (by omega)]]
        exact quot_Div_loop N x6 ha hb k0 j n (2 * Q + 1) (R1 - b) (by omega) (by omega) (by rw [hp, hQ, Nat.add_mul, Nat.mul_assoc]; omega) (by omega)
      · rw [if_pos (by omega), decide_eq_false (by decide), bF, hdb]
        exact quot_Div_loop N x6 ha hb k0 j n (2 * Q) R1 (by omega) (by omega) (by rw [hp, hQ, Nat.mul_assoc]; omega) (by omega)
    rw [quot_Div.l0]
    unfold quot_Div.b0
    dsimp only
    rw [show ((j + 1 : Nat) : Int) - 1 = (j : Int) by omega, decide_eq_true (by omega : (0 : Int) ≤ (j : Int)), bT, htop, obind, L1, obind, hab, obind]
    dsimp only
    by_cases ht : a / 2 ^ j % 2 = 1
    · rw [decide_eq_true ht, bT, bF, a3]
      exact tail (r * 2 ^ 1 + 1) (by omega)
    · rw [decide_eq_false ht, bF, bF]
      exact tail (r * 2 ^ 1) (by omega)

theorem quot_Div_g {a b : Nat} (ha : a < 2 ^ 384) (hb : b < 2 ^ 382) (h0 : b ≠ 0) : quot_Div.g (W6.of a) (W6.of b) = some (W6.of (a / b), W6.of (a % b), 0) := by
  have hbl : bl a ≤ 384 := bl_le_iff.2 ha
  have hb384 : b < 2 ^ 384 := Nat.lt_trans hb (by decide)
  unfold quot_Div.g quot_Div.f
  rw [isz hb384, decide_eq_false h0, bF, wide_Len_g ha, obind, zeroW, wrap_i64 (x := ((bl a : Nat) : Int) - 1) (by omega) (by omega)]
  have := quot_Div_loop fuel 0 ha hb (fun (x7 : Int) (m3 m2 : W6) => some (m2, m3, (0 : Int))) (bl a) fuel 0 0 (by unfold fuel; omega) hbl (by rw [Nat.div_eq_of_lt (bl_lt a)]; omega) (by omega)
  rw [Nat.zero_mul] at this
  exact this

theorem quot_Digits_g {a b n : Nat} (ha : a < 2 ^ 384) (hb : b < 2 ^ 382) (h0 : b ≠ 0) (hn : n ≤ 384) (hs : a * 2 ^ n < 2 ^ 384) : quot_Digits.g (W6.of a) (W6.of b) (n : Int) = some (W6.of (a * 2 ^ n / b), !decide (a * 2 ^ n % b = 0), 0) := by
  have hb384 : b < 2 ^ 384 := Nat.lt_trans hb (by decide)
  unfold quot_Digits.g
  rw [isz hb384, decide_eq_false h0, bF, decide_eq_false (by omega : ¬ (n : Int) < 0), bF, decide_eq_false (by omega : ¬ (384 : Int) < (n : Int)), bF, wide_Left_g ha, obind, Int.toNat_natCast, Nat.min_eq_left hn]
  dsimp only
  rw [decide_eq_false (Nat.not_le_of_lt hs), bF, quot_Div_g hs hb h0, obind]
  dsimp only
  rw [isz (Nat.lt_of_lt_of_le (Nat.mod_lt _ (by omega)) (Nat.le_of_lt hb384))]

/-! ### fractions -/
theorem flq_mul (c n d : Nat) (hc : 0 < c) (k : Int) : flq (c * n) (c * d) k = flq n d k ∧ exq (c * n) (c * d) k = exq n d k := by
  unfold flq exq
  rw [Nat.mul_assoc, Nat.mul_assoc, Nat.mul_div_mul_left _ _ hc, Nat.mul_mod_mul_left]
  refine ⟨rfl, decide_eq_decide.2 ?_⟩
  constructor
  · intro h
    rcases Nat.mul_eq_zero.1 h with h | h
    · omega
    · exact h
  · intro h; rw [h, Nat.mul_zero]
theorem flq_den (n d t : Nat) (k : Int) : flq n (d * 2 ^ t) k = flq n d (k - t) ∧ exq n (d * 2 ^ t) k = exq n d (k - t) := by
  have h1 := flq_mul (2 ^ t) n d (Nat.pow_pos (by decide)) (k - t)
  have h2 := flq_scale n (d * 2 ^ t) t (k - t)
  rw [show k - (t : Int) + t = k by omega] at h2
  rw [← h2.1, ← h2.2, ← h1.1, ← h1.2, Nat.mul_comm n, Nat.mul_comm d]
  exact ⟨rfl, rfl⟩
theorem flq_low (n d k : Nat) : flq n d (-(k : Int)) = n / d / 2 ^ k ∧ exq n d (-(k : Int)) = (decide (n % d = 0) && decide (n / d % 2 ^ k = 0)) := by
  unfold flq exq
  rw [show (-(k : Int)).toNat = 0 by omega, show (- -(k : Int)).toNat = k by omega, Nat.pow_zero, Nat.mul_one, Nat.div_div_eq_div_mul]
  refine ⟨rfl, ?_⟩
  rw [Nat.mod_mul]
  by_cases hd : d = 0
  · subst hd
    simp
  · by_cases h1 : n % d = 0
    · rw [h1, Nat.zero_add, decide_eq_true rfl, Bool.true_and]
      refine decide_eq_decide.2 ?_
      constructor
      · intro h
        rcases Nat.mul_eq_zero.1 h with h | h
        · exact absurd h hd
        · exact h
      · intro h; rw [h, Nat.mul_zero]
    · rw [decide_eq_false h1, Bool.false_and, decide_eq_false (by omega)]

theorem odd_dvd {a b : Nat} (h : a * b % 2 = 1) : a % 2 = 1 ∧ b % 2 = 1 := by
  rw [Nat.mul_mod] at h
  rcases Nat.mod_two_eq_zero_or_one a with h1 | h1 <;> rcases Nat.mod_two_eq_zero_or_one b with h2 | h2 <;> rw [h1, h2] at h <;> first | exact ⟨h1, h2⟩ | cases h

/-- The document's quotient of two numbers, delivered; the program's digits, packed. -/
theorem quo_core {f m : Nat} (h : f ≤ 3) (hm : m ≤ 4) (na nb_ : Bool) {a b N : Nat} {xa xb : Int} (ha : a ≠ 0) (hb : b ≠ 0) (la : bl a ≤ pF f) (lb : bl b ≤ pF f) (hxa : -20000 ≤ xa ∧ xa ≤ 20000) (hxb : -20000 ≤ xb ∧ xb ≤ 20000) (hN : pF f + 3 + bl b ≤ bl a + N) (hN2 : N ≤ 250) :
    ∃ e : Exc, ref06_Quo.g ⟨na, sOf (oddN a), sOf 1, xa + tz a⟩ ⟨nb_, sOf (oddN b), sOf 1, xb + tz b⟩ = some (e, 0) ∧
      ref09_Round.g (f : Int) (m : Int) e = round_Pack.g (f : Int) (m : Int) ⟨!(na == nb_), W6.of (a * 2 ^ N / b), xa - xb - N, !decide (a * 2 ^ N % b = 0)⟩ := by
  have hF := factsF h
  have oa := oddN_odd ha
  have ob := oddN_odd hb
  have ba := bl_oddN ha
  have bb := bl_oddN hb
  have ta := tz_lt_bl ha
  have tb := tz_lt_bl hb
  have pa := bl_pos ha
  have pb := bl_pos hb
  have nA : nb (oddN a) ≤ 125 := bl_dvd_nb (by omega)
  have nB : nb (oddN b) ≤ 125 := bl_dvd_nb (by omega)
  have m1 : ref05_Mul.g (sOf (oddN a)) (sOf 1) = some (sOf (oddN a), 0) := by
    have := ref05_Mul_g (a := oddN a) (b := 1) (by rw [nb_one]; omega) (by rw [Nat.mul_one]; omega)
    rwa [Nat.mul_one] at this
  have m2 : ref05_Mul.g (sOf 1) (sOf (oddN b)) = some (sOf (oddN b), 0) := by
    have := ref05_Mul_g (a := 1) (b := oddN b) (by rw [nb_one]; omega) (by rw [Nat.one_mul]; omega)
    rwa [Nat.one_mul] at this
  have hM := ref06_Make_g (!(na == nb_)) (n := oddN a) (d := oddN b) (e := xa + tz a - (xb + tz b)) (by omega) (by omega) (by omega) (by omega) (by omega) (by rw [tz_odd oa, tz_odd ob]; omega)
  rw [tz_odd oa, tz_odd ob, oddN_self oa, oddN_self ob] at hM
  obtain ⟨g, hg⟩ : ∃ g, Nat.gcd (oddN a) (oddN b) = g := ⟨_, rfl⟩
  have g0 : 0 < g := by rw [← hg]; exact Nat.gcd_pos_of_pos_left _ (by omega)
  obtain ⟨n, hn⟩ : ∃ n, oddN a = g * n := by rw [← hg]; exact Nat.gcd_dvd_left _ _
  obtain ⟨d, hd⟩ : ∃ d, oddN b = g * d := by rw [← hg]; exact Nat.gcd_dvd_right _ _
  have hcop : Nat.gcd n d = 1 := by
    have := hg
    rw [hn, hd, Nat.gcd_mul_left] at this
    exact Nat.eq_of_mul_eq_mul_left g0 (by omega)
  rw [hg, hn, hd, Nat.mul_div_cancel_left _ g0, Nat.mul_div_cancel_left _ g0] at hM
  have on : n % 2 = 1 := by rw [hn] at oa; exact (odd_dvd oa).2
  have od : d % 2 = 1 := by rw [hd] at ob; exact (odd_dvd ob).2
  have ln : n ≤ oddN a := by rw [hn]; exact Nat.le_mul_of_pos_left _ g0
  have ld : d ≤ oddN b := by rw [hd]; exact Nat.le_mul_of_pos_left _ g0
  have bn : bl n ≤ pF f := Nat.le_trans (bl_mono ln) (by omega)
  have bd : bl d ≤ pF f := Nat.le_trans (bl_mono ld) (by omega)
  refine ⟨⟨!(na == nb_), sOf n, sOf d, xa + tz a - (xb + tz b)⟩, ?_, ?_⟩
  · unfold ref06_Quo.g
    dsimp only
    rw [emptyS, strEq_sOf, decide_eq_false (by omega), bF, strEq_sOf, decide_eq_false (by omega), bF, m1, obind, m2, obind]
    dsimp only
    rw [wrap_i64 (x := xa + ((tz a : Nat) : Int) - (xb + ((tz b : Nat) : Int))) (by omega) (by omega), decide_eq_false (by omega : ¬ xa + ((tz a : Nat) : Int) - (xb + ((tz b : Nat) : Int)) < -1048576), decide_eq_false (by omega : ¬ 1048576 < xa + ((tz a : Nat) : Int) - (xb + ((tz b : Nat) : Int))), show (!((0 : Int) == 0)) = false from rfl, bF, bF, bF, bF, hn, hd, hM, obind]
    dsimp only
    rw [show xa + ((tz a : Nat) : Int) - (xb + ((tz b : Nat) : Int)) + ((0 : Nat) : Int) - ((0 : Nat) : Int) = xa + ((tz a : Nat) : Int) - (xb + ((tz b : Nat) : Int)) by omega]
  · -- the fraction, told by the numbers themselves
    have key : ∀ k : Int, flq a b k = flq n d (k + tz a - tz b) ∧ exq a b k = exq n d (k + tz a - tz b) := by
      intro k
      have e1 := flq_scale (oddN a) b (tz a) k
      have e2 := flq_den (oddN a) (oddN b) (tz b) (k + tz a)
      have e3 := flq_mul g n d g0 (k + tz a - tz b)
      rw [oddN_mul ha] at e1
      rw [oddN_mul hb] at e2
      rw [hn, hd] at e2
      rw [hn] at e1
      exact ⟨e1.1.trans (e2.1.trans e3.1), e1.2.trans (e2.2.trans e3.2)⟩
    have low : ∀ k : Nat, flq a b ((N : Int) - k) = a * 2 ^ N / b / 2 ^ k ∧ exq a b ((N : Int) - k) = (decide (a * 2 ^ N % b = 0) && decide (a * 2 ^ N / b % 2 ^ k = 0)) := by
      intro k
      have e1 := flq_scale a b N (-(k : Int))
      have e2 := flq_low (a * 2 ^ N) b k
      rw [show -(k : Int) + N = (N : Int) - k by omega] at e1
      exact ⟨e1.1.symm.trans e2.1, e1.2.symm.trans e2.2⟩
    have hq : a * 2 ^ N / b = flq n d ((N : Int) + tz a - tz b) := by
      have := (low 0).1
      rw [Nat.pow_zero, Nat.div_one] at this
      rw [← this, show ((N : Int) - ((0 : Nat) : Int)) = N by omega]
      exact (key N).1
    have hbq := bl_flq (n := n) (d := d) (by omega) (by omega) ((N : Int) + tz a - tz b)
    rw [← hq] at hbq
    have hq2 : 2 ^ (pF f + 2) ≤ a * 2 ^ N / b := by
      rw [Nat.le_div_iff_mul_le (by omega)]
      have h1 : 2 ^ (bl a - 1) * 2 ^ N ≤ a * 2 ^ N := Nat.mul_le_mul_right _ (bl_le ha)
      have h2 : 2 ^ (pF f + 2) * b ≤ 2 ^ (pF f + 2) * 2 ^ bl b := Nat.mul_le_mul_left _ (Nat.le_of_lt (bl_lt b))
      rw [← Nat.pow_add] at h1 h2
      have h3 : (2 : Nat) ^ (pF f + 2 + bl b) ≤ 2 ^ (bl a - 1 + N) := Nat.pow_le_pow_right (by decide) (by omega)
      omega
    have hbq2 := lt_bl_iff.2 hq2
    have hbq3 : bl (a * 2 ^ N / b) ≤ bl a + N := by
      have := bl_mono (Nat.div_le_self (a * 2 ^ N) b)
      rw [bl_mul_pow ha] at this
      exact this
    have htop : topQ n d + (xa + ((tz a : Nat) : Int) - (xb + ((tz b : Nat) : Int))) = ((bl (a * 2 ^ N / b) : Nat) : Int) - 1 + (xa - xb - N) := by omega
    have hq0 : a * 2 ^ N / b ≠ 0 := fun hc => by rw [hc, bl_zero] at hbq2; omega
    rw [ref09_Round_g h hm _ (bl_dvd_nb (by omega)) (bl_dvd_nb (by omega)) on od hcop (by omega) (by omega) (by omega), round_Pack_g h hm _ _ hq0 (bl_le_iff.1 (by omega)) (by omega) (fun _ => by omega), htop]
    rw [delS_congr (F' := FR (a * 2 ^ N / b) (xa - xb - N)) (X' := XR (a * 2 ^ N / b) (xa - xb - N) (!decide (a * 2 ^ N % b = 0))) (fun at_ hat => ?_)]
    obtain ⟨k, hk⟩ : ∃ k : Nat, at_ = xa - xb - N + k := ⟨(at_ - (xa - xb - N)).toNat, by omega⟩
    have e1 : xa - xb - (N : Int) - at_ = -(k : Int) := by omega
    have e2 : xa + ((tz a : Nat) : Int) - (xb + ((tz b : Nat) : Int)) - at_ = (N : Int) - k + tz a - tz b := by omega
    unfold FR XR
    rw [e1, e2, ← (key _).1, ← (key _).2, (low k).1, (low k).2, (flq_1 _ k).1, (flq_1 _ k).2, Bool.not_not]
    exact ⟨rfl, rfl⟩

end Go.Proofs.YtnfbcofieobkkaaGreatDoor
