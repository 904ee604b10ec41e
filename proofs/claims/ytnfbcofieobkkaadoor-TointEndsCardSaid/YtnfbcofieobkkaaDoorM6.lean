/- The document's natural numbers: words, shifts, products, quotients, roots, common divisors. -/
import Derived.Test.YtnfbcofieobkkaaDoorM5
namespace Go.Proofs.YtnfbcofieobkkaaDoor
open Go Go.Proofs Ev
set_option linter.unusedVariables false
set_option exponentiation.threshold 512
set_option linter.unusedSimpArgs false

/-! ### words -/
theorem pow_dvd_le {i j : Nat} (h : i ≤ j) : 2 ^ i ∣ 2 ^ j := ⟨2 ^ (j - i), by rw [← Nat.pow_add, show i + (j - i) = j by omega]⟩
/-- Bits in the middle. -/
theorem mid_bits (y : Nat) {m s k : Nat} (h : s + k ≤ m) : y % 2 ^ m / 2 ^ s % 2 ^ k = y / 2 ^ s % 2 ^ k := by
  have e : (2 : Nat) ^ m = 2 ^ s * 2 ^ (m - s) := by rw [← Nat.pow_add, show s + (m - s) = m by omega]
  rw [e, Nat.mod_mul_right_div_self, Nat.mod_mod_of_dvd _ (pow_dvd_le (by omega))]

theorem wd_dg (n i : Nat) : wd n (i / 8) / 2 ^ (8 * (i % 8)) % 256 = dg n i := by
  unfold wd dg
  rw [show (18446744073709551616 : Nat) = 2 ^ 64 from rfl, show (256 : Nat) = 2 ^ 8 from rfl, mid_bits _ (by omega), Nat.div_div_eq_div_mul, ← Nat.pow_add, ← Nat.pow_mul, show 64 * (i / 8) + 8 * (i % 8) = 8 * i by omega]

theorem ref05_OfWide_loop {R : Type} (N : Nat) (x2 : ByteArray) (c3 : Nat) {w : Nat} (hw : w < 2 ^ 384) (k0 : Int → List Int → Option R) : ∀ (d i n : Nat), d + i = 48 → d < n →
    ref05_OfWide.l0 N x2 48 c3 (W6.of w) k0 n (i : Int) (dl 48 (w % 256 ^ i)) = k0 48 (dl 48 w)
  | 0, i, n + 1, hd, _ => by
    obtain rfl : i = 48 := by omega
    unfold ref05_OfWide.l0 ref05_OfWide.b0
    rw [decide_eq_false (by decide : ¬ (((48 : Nat) : Int) < 48)), cond_false, Nat.mod_eq_of_lt (by rw [p256]; exact hw)]
    rfl
  | d + 1, i, n + 1, hd, hn => by
    have ih := ref05_OfWide_loop N x2 c3 hw k0 d (i + 1) n (by omega) (by omega)
    unfold ref05_OfWide.l0 ref05_OfWide.b0
    dsimp only
    rw [show ((i : Int)).tdiv (8 : Int) = ((i / 8 : Nat) : Int) from div_nat i 8, show ((i : Int)).tmod (8 : Int) = ((i % 8 : Nat) : Int) from mod_nat i 8, wrap_i64 (x := ((i / 8 : Nat) : Int)) (by omega) (by omega),
      decide_eq_true (by omega : (i : Int) < 48), cond_true, decide_eq_true (by omega : (0 : Int) ≤ ((i / 8 : Nat) : Int)), decide_eq_true (by omega : ((i / 8 : Nat) : Int) < 6), Int.toNat_natCast, nblt, decide_eq_true (by omega : i / 8 < 6), decide_eq_true (by omega : (0 : Int) ≤ (i : Int)), decide_eq_true (by omega : (i : Int) < ((48 : Nat) : Int)), Int.toNat_natCast, dl_length, Nat.ble_eq_true_of_le (by omega)]
    simp only [Bool.and_self, cond_true]
    rw [show (8 : Int) * ((i % 8 : Nat) : Int) = ((8 * (i % 8) : Nat) : Int) by omega, wrap_i64 (x := ((8 * (i % 8) : Nat) : Int)) (by omega) (by omega), wrap_u64 (x := ((8 * (i % 8) : Nat) : Int)) (by omega) (by omega), W6.get_of w (by omega), shr_u64, Nat.min_eq_left (by omega), u8_nat, i64_succ i (by omega), wd_dg,
      dl_set_low (Nat.mod_lt _ (Nat.pow_pos (by decide))) (dg_lt w i), Nat.mul_comm, ← mod_dg]
    exact ih
theorem ref05_OfWide_g {w : Nat} (hw : w < 2 ^ 384) : ref05_OfWide.g (W6.of w) = some (sOf w) := by
  unfold ref05_OfWide.g ref05_OfWide.f
  rw [dl_zero]
  have := ref05_OfWide_loop fuel { data := { toList := [] : Array UInt8 } : ByteArray } 48 hw (fun (x4 : Int) (m2 : List Int) => (ref05_fit.g (48 : Nat) (48 : Nat) m2).bind fun (r : ByteArray) => some r) 48 0 fuel rfl (by decide)
  rw [Nat.pow_zero, Nat.mod_one] at this
  refine this.trans ?_
  rw [ref05_fit_g (by rw [p256]; exact hw) (by omega)]
  rfl

theorem setbyte {m d i : Nat} (hm : m < 256 ^ i) (hd : d < 256) (hi : i < 48) : (W6.of m).set (i / 8) (orI .u64 ((W6.of m).get (i / 8)) (shlI .u64 (d : Int) ((8 * (i % 8) : Nat) : Int))) = W6.of (m + d * 256 ^ i) := by
  have hi6 : i / 8 < 6 := by omega
  have hd2 : d * 2 ^ (8 * (i % 8)) < 18446744073709551616 := by
    have h1 : d * 2 ^ (8 * (i % 8)) < 2 ^ 8 * 2 ^ (8 * (i % 8)) := Nat.mul_lt_mul_of_pos_right hd (Nat.pow_pos (by decide))
    have h2 : (2 : Nat) ^ (8 + 8 * (i % 8)) ≤ 2 ^ 64 := Nat.pow_le_pow_right (by decide) (by omega)
    rw [Nat.pow_add] at h2
    exact Nat.lt_of_lt_of_le h1 h2
  have e : m + d * 256 ^ i = m ||| d * 2 ^ (64 * (i / 8) + 8 * (i % 8)) := by
    rw [show 64 * (i / 8) + 8 * (i % 8) = 8 * i by omega, ← p256, Nat.mul_comm d, Nat.or_comm]
    rw [p256] at hm ⊢
    rw [← Nat.two_pow_add_eq_or_of_lt hm, Nat.add_comm]
  have hd0 : ∀ j, 0 < j → wd d j = 0 := fun j hj => wd_of_lt (Nat.lt_trans hd (by decide)) hj
  have hd1 : wd d 0 = d := by
    unfold wd; rw [Nat.mul_zero, Nat.pow_zero, Nat.div_one, Nat.mod_eq_of_lt (Nat.lt_trans hd (by decide))]
  have hk : ∀ j, wd (d * 2 ^ (64 * (i / 8) + 8 * (i % 8))) j = if j = i / 8 then d * 2 ^ (8 * (i % 8)) else 0 := by
    intro j
    rw [wd_shl d (by omega : 8 * (i % 8) < 64), hd1, Nat.mod_eq_of_lt hd2]
    by_cases h1 : j < i / 8
    · rw [if_pos h1, if_neg (by omega)]
    · rw [if_neg h1]
      by_cases h2 : j = i / 8
      · rw [if_pos h2, if_pos h2]
      · rw [if_neg h2, if_neg h2, hd0 _ (by omega), Nat.zero_mul, Nat.zero_mod, Nat.zero_or]
        by_cases h3 : j - i / 8 - 1 = 0
        · rw [h3, hd1]
          refine Nat.div_eq_of_lt (Nat.lt_of_lt_of_le hd ?_)
          have : (2 : Nat) ^ 8 ≤ 2 ^ (64 - 8 * (i % 8)) := Nat.pow_le_pow_right (by decide) (by omega)
          exact this
        · rw [hd0 _ (by omega), Nat.zero_div]
  rw [W6.get_of m hi6, shl_u64, Nat.min_eq_left (by omega), Nat.mod_eq_of_lt hd2, or_u64 (wd_lt _ _) hd2, e]
  refine W6.set_of hi6 ?_ ?_
  · rw [wd_or, hk, if_pos rfl]
  · intro j _ hne
    rw [wd_or, hk, if_neg hne, Nat.or_zero]

theorem ref05_ToWide_loop {R : Type} (N : Nat) (x3 : Bool) (m0 : W6) {a : Nat} (ha : nb a ≤ 48) (k0 : Int → W6 → Option R) : ∀ (d i n : Nat), d + i = nb a → d < n →
    ref05_ToWide.l0 N (sOf a) x3 m0 k0 n (i : Int) (W6.of (a % 256 ^ i)) = k0 ((nb a : Nat) : Int) (W6.of a)
  | 0, i, n + 1, hd, _ => by
    obtain rfl : i = nb a := by omega
    unfold ref05_ToWide.l0 ref05_ToWide.b0
    rw [size_sOf, decide_eq_false (by omega : ¬ (((nb a : Nat) : Int) < ((nb a : Nat) : Int))), cond_false, Nat.mod_eq_of_lt (lt_nb a)]
  | d + 1, i, n + 1, hd, hn => by
    have ih := ref05_ToWide_loop N x3 m0 ha k0 d (i + 1) n (by omega) (by omega)
    unfold ref05_ToWide.l0 ref05_ToWide.b0
    dsimp only
    have hdg := dg_lt a i
    rw [show ((i : Int)).tdiv (8 : Int) = ((i / 8 : Nat) : Int) from div_nat i 8, show ((i : Int)).tmod (8 : Int) = ((i % 8 : Nat) : Int) from mod_nat i 8, wrap_i64 (x := ((i / 8 : Nat) : Int)) (by omega) (by omega),
      size_sOf, decide_eq_true (by omega : (i : Int) < ((nb a : Nat) : Int)), cond_true, decide_eq_true (by omega : (0 : Int) ≤ ((i / 8 : Nat) : Int)), decide_eq_true (by omega : ((i / 8 : Nat) : Int) < 6), Int.toNat_natCast, nblt, decide_eq_true (by omega : i / 8 < 6), ref05_at_g (by omega) (by omega), Option.bind_some, Nat.ble_eq_true_of_le (by omega)]
    simp only [Bool.and_self, cond_true]
    rw [show (8 : Int) * ((i % 8 : Nat) : Int) = ((8 * (i % 8) : Nat) : Int) by omega, wrap_i64 (x := ((8 * (i % 8) : Nat) : Int)) (by omega) (by omega), wrap_u64 (x := ((8 * (i % 8) : Nat) : Int)) (by omega) (by omega), wrap_u64 (x := ((dg a i : Nat) : Int)) (by omega) (by omega), i64_succ i (by omega),
      setbyte (Nat.mod_lt _ (Nat.pow_pos (by decide))) hdg (by omega), Nat.mul_comm, ← mod_dg]
    exact ih
theorem ref05_ToWide_g {a : Nat} (ha : nb a ≤ 48) : ref05_ToWide.g (sOf a) = some (W6.of a, true) := by
  unfold ref05_ToWide.g ref05_ToWide.f
  rw [ref05_May_g (by omega), Option.bind_some, decide_eq_true (by omega : nb a ≤ 16384), Bool.not_true, cond_false, size_sOf, decide_eq_false (by omega : ¬ (48 : Int) < ((nb a : Nat) : Int)), cond_false, zeroW]
  have := ref05_ToWide_loop fuel false (W6.of 0) ha (fun (x5 : Int) (m2 : W6) => some (m2, true)) (nb a) 0 fuel rfl (by unfold fuel; omega)
  rw [Nat.pow_zero, Nat.mod_one] at this
  exact this

/-! ### the lowest bit -/
theorem tz_chunk {a k m : Nat} (h : a % 2 ^ k = 0) (h0 : a / 2 ^ k % 2 ^ m ≠ 0) : tz a = k + tz (a / 2 ^ k % 2 ^ m) := by
  obtain ⟨p, q⟩ := tz_spec _ h0
  have e : a = a / 2 ^ k * 2 ^ k := by
    have := Nat.div_add_mod a (2 ^ k)
    rw [h, Nat.add_zero, Nat.mul_comm] at this
    exact this.symm
  have hlt : tz (a / 2 ^ k % 2 ^ m) < m := Nat.lt_of_lt_of_le (tz_lt_bl h0) (bl_le_iff.2 (Nat.mod_lt _ (Nat.pow_pos (by decide))))
  have hq : a / 2 ^ k ≠ 0 := by
    intro hc
    rw [hc, Nat.zero_mod] at h0
    exact h0 rfl
  rw (occs := .pos [1]) [e]
  rw [tz_mul_pow hq, Nat.add_comm]
  congr 1
  generalize a / 2 ^ k = y at *
  generalize tz (y % 2 ^ m) = t at *
  refine tz_unique ?_ ?_
  · rwa [Nat.mod_mod_of_dvd _ (pow_dvd_le (by omega))] at p
  · have := mid_bits y (m := m) (s := t) (k := 1) (by omega)
    rw [Nat.pow_one] at this
    rw [← this]; exact q

theorem ref05_Low_loop {R : Type} (N : Nat) {a : Nat} (ha : nb a ≤ 16384) (h0 : a ≠ 0) (k0 k1 : Int → Int → Option R) : ∀ (d i n : Nat) (x2 : Int), d + i = nb a → d < n → a % 256 ^ i = 0 →
    ∃ y, ref05_Low.l0 N (sOf a) k0 k1 n x2 (i : Int) = k0 ((tz a : Nat) : Int) y
  | 0, i, n + 1, x2, hd, _, hm => by
    obtain rfl : i = nb a := by omega
    rw [Nat.mod_eq_of_lt (lt_nb a)] at hm
    exact absurd hm h0
  | d + 1, i, n + 1, x2, hd, hn, hm => by
    have ih := ref05_Low_loop N ha h0 k0 k1 d (i + 1) n x2 (by omega) (by omega)
    have hdg := dg_lt a i
    unfold ref05_Low.l0 ref05_Low.b0
    dsimp only
    rw [size_sOf, decide_eq_true (by omega : (i : Int) < ((nb a : Nat) : Int)), cond_true, ref05_at_g (by omega) (by omega), Option.bind_some, bne0]
    by_cases hz : dg a i = 0
    · rw [decide_eq_false (by simpa using hz), cond_false, i64_succ i (by omega)]
      exact ih (by rw [mod_dg, hz, hm]; rfl)
    · rw [decide_eq_true hz, cond_true, Option.bind_some, wrap_u64 (by omega) (by omega), ref01_Low_g hz (by omega), Option.bind_some]
      have e : tz a = 8 * i + tz (dg a i) := by
        have : dg a i = a / 2 ^ (8 * i) % 2 ^ 8 := by unfold dg; rw [p256]
        rw [this] at hz ⊢
        rw [p256] at hm
        exact tz_chunk hm hz
      have h8 : tz (dg a i) < 8 := Nat.lt_of_lt_of_le (tz_lt_bl hz) (bl_le_iff.2 hdg)
      rw [wrap_i64 (x := 8 * (i : Int)) (by omega) (by omega), wrap_i64 (by omega) (by omega), e]
      exact ⟨_, by congr 1⟩
theorem tz_zero : tz 0 = 0 := by unfold tz; rfl
theorem ref05_Low_g {a : Nat} (ha : nb a ≤ 16384) : ref05_Low.g (sOf a) = some ((tz a : Nat) : Int) := by
  unfold ref05_Low.g ref05_Low.f
  rw [ref05_May_g (by omega), Option.bind_some, decide_eq_true ha, Bool.not_true, cond_false]
  by_cases h0 : a = 0
  · subst h0
    rw [tz_zero, show fuel = 1048575 + 1 from rfl]
    unfold ref05_Low.l0 ref05_Low.b0
    rw [size_sOf, nb_zero]
    rfl
  · obtain ⟨y, hy⟩ := ref05_Low_loop fuel ha h0 (fun (x2 x3 : Int) => some x2) (fun (x2 x3 : Int) => some (0 : Int)) (nb a) 0 fuel 0 rfl (by unfold fuel; omega) (by rw [Nat.pow_zero, Nat.mod_one])
    exact hy

/-! ### to the right -/
theorem ref05_Right_loop {R : Type} (N : Nat) (x4 : ByteArray) (x5 x7 : Bool) (x6 : Int) (c9 : Nat) {a k L : Nat} (ha : nb a ≤ 16384) (hk : k ≤ 1000000) (hL : L ≤ 20000) (k0 : Int → List Int → Option R) : ∀ (d i n : Nat), d + i = L → d < n →
    ref05_Right.l0 N (sOf a) (k : Int) x4 x5 x6 x7 (L : Int) L c9 k0 n (i : Int) (dl L (a / 2 ^ k % 256 ^ i)) = k0 (L : Int) (dl L (a / 2 ^ k % 256 ^ L))
  | 0, i, n + 1, hd, _ => by
    obtain rfl : i = L := by omega
    unfold ref05_Right.l0 ref05_Right.b0
    rw [decide_eq_false (by omega : ¬ ((i : Int) < (i : Int))), cond_false]
  | d + 1, i, n + 1, hd, hn => by
    have ih := ref05_Right_loop N x4 x5 x7 x6 c9 ha hk hL k0 d (i + 1) n (by omega) (by omega)
    unfold ref05_Right.l0 ref05_Right.b0
    dsimp only
    have h0 := dg_lt a (i + k / 8)
    have h1 := dg_lt a (i + k / 8 + 1)
    rw [show ((k : Int)).tdiv (8 : Int) = ((k / 8 : Nat) : Int) from div_nat k 8, show ((k : Int)).tmod (8 : Int) = ((k % 8 : Nat) : Int) from mod_nat k 8, wrap_i64 (x := ((k / 8 : Nat) : Int)) (by omega) (by omega), show (i : Int) + ((k / 8 : Nat) : Int) = ((i + k / 8 : Nat) : Int) by omega,
      wrap_i64 (x := ((i + k / 8 : Nat) : Int)) (by omega) (by omega), i64_succ (i + k / 8) (by omega), decide_eq_true (by omega : (i : Int) < (L : Int)), cond_true, ref05_at_g (by omega) (by omega), Option.bind_some, ref05_at_g (by omega) (by omega), Option.bind_some, decide_eq_true (by omega : (0 : Int) ≤ (i : Int)), Int.toNat_natCast, dl_length, Nat.ble_eq_true_of_le (by omega)]
    simp only [Bool.and_self, cond_true]
    have e1 : shlI IntKind.i64 ((dg a (i + k / 8 + 1) : Nat) : Int) (8 : Int) = ((dg a (i + k / 8 + 1) * 256 : Nat) : Int) := shl_i64 _ 8 (by decide) (by omega)
    have e2 : dg a (i + k / 8) ||| dg a (i + k / 8 + 1) * 256 = dg a (i + k / 8) + dg a (i + k / 8 + 1) * 256 := by
      rw [Nat.or_comm, Nat.mul_comm _ 256, Nat.add_comm (dg a (i + k / 8))]
      exact (Nat.two_pow_add_eq_or_of_lt (i := 8) h0 _).symm
    have e3 : (dg a (i + k / 8) + dg a (i + k / 8 + 1) * 256) / 2 ^ (k % 8) % 256 = dg (a / 2 ^ k) i := by
      have : dg a (i + k / 8) + dg a (i + k / 8 + 1) * 256 = a / 256 ^ (i + k / 8) % 2 ^ 16 := by
        unfold dg
        rw [Nat.pow_succ, ← Nat.div_div_eq_div_mul, show (2 : Nat) ^ 16 = 256 * 256 from rfl, Nat.mod_mul]
        omega
      rw [this, show (256 : Nat) = 2 ^ 8 from rfl, mid_bits _ (by omega)]
      unfold dg
      rw [← Nat.pow_mul, Nat.div_div_eq_div_mul, ← Nat.pow_add, show (256 : Nat) = 2 ^ 8 from rfl, ← Nat.pow_mul, Nat.div_div_eq_div_mul, ← Nat.pow_add, show 8 * (i + k / 8) + k % 8 = k + 8 * i by omega]
    rw [wrap_u64 (by omega) (by omega), e1, or_i64 (by omega) (by omega), e2, shr_i64, Nat.min_eq_left (by omega), u8_nat, e3, i64_succ i (by omega), dl_set_low (Nat.mod_lt _ (Nat.pow_pos (by decide))) (dg_lt _ i), Nat.mul_comm, ← mod_dg]
    exact ih
theorem ref05_Right_g {a k : Nat} (ha : nb a ≤ 16384) (hk : k ≤ 1000000) : ref05_Right.g (sOf a) (k : Int) = some (sOf (a / 2 ^ k), decide (a ≠ 0 ∧ tz a < k), 0) := by
  unfold ref05_Right.g ref05_Right.f
  rw [decide_eq_false (by omega : ¬ (k : Int) < 0), cond_false, emptyS, strEq_sOf, size_sOf]
  by_cases h0 : a = 0
  · subst h0
    rw [decide_eq_true rfl, cond_true, Nat.zero_div, decide_eq_false (fun h => h.1 rfl)]
  · rw [decide_eq_false h0, cond_false, ref05_Low_g ha, Option.bind_some, wrap_i64 (x := 8 * ((nb a : Nat) : Int)) (by omega) (by omega), decide_eq_decide.2 (show (((tz a : Nat) : Int) < (k : Int)) ↔ (a ≠ 0 ∧ tz a < k) from ⟨fun h => ⟨h0, by omega⟩, fun h => by omega⟩)]
    generalize decide (a ≠ 0 ∧ tz a < k) = lost
    by_cases h8 : 8 * nb a ≤ k
    · rw [decide_eq_true (by omega : 8 * ((nb a : Nat) : Int) ≤ (k : Int)), cond_true, Nat.div_eq_of_lt]
      have h1 := lt_nb a
      rw [p256] at h1
      exact Nat.lt_of_lt_of_le h1 (Nat.pow_le_pow_right (by decide) h8)
    · rw [decide_eq_false (by omega : ¬ 8 * ((nb a : Nat) : Int) ≤ (k : Int)), cond_false, show ((k : Int)).tdiv (8 : Int) = ((k / 8 : Nat) : Int) from div_nat k 8, wrap_i64 (x := ((k / 8 : Nat) : Int)) (by omega) (by omega), show ((nb a : Nat) : Int) - ((k / 8 : Nat) : Int) = ((nb a - k / 8 : Nat) : Int) by omega, wrap_i64 (by omega) (by omega),
        mk_ok (by omega), cond_true, Int.toNat_natCast, dl_zero]
      have := ref05_Right_loop fuel (sOf 0) false lost 0 (nb a - k / 8) (a := a) (k := k) (L := nb a - k / 8) ha hk (by omega) (fun (x10 : Int) (m24 : List Int) => (ref05_fit.g (nb a - k / 8) (nb a - k / 8) m24).bind fun (r_1 : ByteArray) => some (r_1, lost, (0 : Int))) (nb a - k / 8) 0 fuel rfl (by unfold fuel; omega)
      rw [Nat.pow_zero, Nat.mod_one] at this
      refine this.trans ?_
      have hlt : a / 2 ^ k < 256 ^ (nb a - k / 8) := by
        rw [Nat.div_lt_iff_lt_mul (Nat.pow_pos (by decide)), p256, ← Nat.pow_add]
        have h1 := lt_nb a
        rw [p256] at h1
        exact Nat.lt_of_lt_of_le h1 (Nat.pow_le_pow_right (by decide) (by omega))
      rw [Nat.mod_eq_of_lt hlt, ref05_fit_g hlt (by omega)]
      rfl

/-! ### to the left -/
theorem ref05_Left_loop {R : Type} (N : Nat) (x4 : ByteArray) (x5 : Int) (c6 : Nat) {a k L : Nat} (ha : nb a ≤ 16384) (hk : k ≤ 1000000) (hL : L = nb a + k / 8 + 1) (k0 : Int → List Int → Option R) : ∀ (d i n : Nat), d + i = nb a → d < n →
    ref05_Left.l0 N (sOf a) (k : Int) x4 x5 L c6 k0 n (i : Int) (dl L (a % 256 ^ i * 2 ^ k)) = k0 ((nb a : Nat) : Int) (dl L (a * 2 ^ k))
  | 0, i, n + 1, hd, _ => by
    obtain rfl : i = nb a := by omega
    unfold ref05_Left.l0 ref05_Left.b0
    rw [size_sOf, decide_eq_false (by omega : ¬ (((nb a : Nat) : Int) < ((nb a : Nat) : Int))), cond_false, Nat.mod_eq_of_lt (lt_nb a)]
  | d + 1, i, n + 1, hd, hn => by
    have ih := ref05_Left_loop N x4 x5 c6 ha hk hL k0 d (i + 1) n (by omega) (by omega)
    unfold ref05_Left.l0 ref05_Left.b0
    dsimp only
    have hdg := dg_lt a i
    have hs : k % 8 < 8 := Nat.mod_lt _ (by decide)
    have h7 : (2 : Nat) ^ (k % 8) ≤ 2 ^ 7 := Nat.pow_le_pow_right (by decide) (by omega)
    have h7p : 0 < (2 : Nat) ^ (k % 8) := Nat.pow_pos (by decide)
    have hx : dg a i * 2 ^ (k % 8) < 256 * 2 ^ (k % 8) := Nat.mul_lt_mul_of_pos_right hdg h7p
    rw [show ((k : Int)).tdiv (8 : Int) = ((k / 8 : Nat) : Int) from div_nat k 8, show ((k : Int)).tmod (8 : Int) = ((k % 8 : Nat) : Int) from mod_nat k 8, wrap_i64 (x := ((k / 8 : Nat) : Int)) (by omega) (by omega), show (i : Int) + ((k / 8 : Nat) : Int) = ((i + k / 8 : Nat) : Int) by omega,
      wrap_i64 (x := ((i + k / 8 : Nat) : Int)) (by omega) (by omega), i64_succ (i + k / 8) (by omega), size_sOf, decide_eq_true (by omega : (i : Int) < ((nb a : Nat) : Int)), cond_true, ref05_at_g (by omega) (by omega), Option.bind_some, decide_eq_true (by omega : (0 : Int) ≤ ((i + k / 8 : Nat) : Int)), decide_eq_true (by omega : ((i + k / 8 : Nat) : Int) < (L : Int)), Int.toNat_natCast, Int.toNat_natCast, dl_length, nblt, decide_eq_true (by omega : i + k / 8 < L), Nat.ble_eq_true_of_le (by omega),
      decide_eq_true (by omega : (0 : Int) ≤ ((i + k / 8 + 1 : Nat) : Int)), decide_eq_true (by omega : ((i + k / 8 + 1 : Nat) : Int) < (L : Int)), wrap_u64 (by omega) (by omega), shl_i64 _ _ (by omega) (by omega), u8_nat, shr8, u8_nat, dl_get _ (by omega)]
    simp only [Bool.and_self, cond_true]
    have hp : (256 : Nat) ^ i * 2 ^ k = 256 ^ (i + k / 8) * 2 ^ (k % 8) := by
      rw [p256, p256, ← Nat.pow_add, ← Nat.pow_add, show 8 * (i + k / 8) + k % 8 = 8 * i + k by omega]
    have hv : a % 256 ^ i * 2 ^ k < 256 ^ (i + k / 8) * 2 ^ (k % 8) := by
      rw [← hp]; exact Nat.mul_lt_mul_of_pos_right (Nat.mod_lt _ (Nat.pow_pos (by decide))) (Nat.pow_pos (by decide))
    have hnext : a % 256 ^ (i + 1) * 2 ^ k = a % 256 ^ i * 2 ^ k + dg a i * 2 ^ (k % 8) * 256 ^ (i + k / 8) := by
      rw [mod_dg, Nat.add_mul]
      congr 1
      rw [Nat.mul_comm (256 ^ i) (dg a i), Nat.mul_assoc, hp, Nat.mul_comm (256 ^ (i + k / 8)), Nat.mul_assoc]
    rw [hnext] at ih
    generalize a % 256 ^ i * 2 ^ k = v at hv ih ⊢
    generalize hj : i + k / 8 = j at *
    have ht : dg v j = v / 256 ^ j ∧ v / 256 ^ j < 2 ^ (k % 8) := by
      have : v / 256 ^ j < 2 ^ (k % 8) := by rw [Nat.div_lt_iff_lt_mul (Nat.pow_pos (by decide)), Nat.mul_comm]; exact hv
      refine ⟨?_, this⟩
      unfold dg
      exact Nat.mod_eq_of_lt (by omega)
    have hlo : dg a i * 2 ^ (k % 8) % 256 = 2 ^ (k % 8) * (dg a i % 2 ^ (8 - k % 8)) := by
      have : (256 : Nat) = 2 ^ (k % 8) * 2 ^ (8 - k % 8) := by rw [← Nat.pow_add, show k % 8 + (8 - k % 8) = 8 by omega]
      rw (occs := .pos [1]) [this]
      rw [Nat.mul_comm (dg a i), Nat.mul_mod_mul_left]
    have hor : dg v j ||| dg a i * 2 ^ (k % 8) % 256 = dg v j + dg a i * 2 ^ (k % 8) % 256 := by
      rw [hlo, Nat.or_comm, ← Nat.two_pow_add_eq_or_of_lt (by rw [ht.1]; exact ht.2), Nat.add_comm]
    have hb : dg v j + dg a i * 2 ^ (k % 8) % 256 < 256 := by
      rw [← hor]
      exact Nat.or_lt_two_pow (n := 8) (dg_lt v j) (Nat.mod_lt _ (by decide))
    rw [or_u8 (dg_lt v j) (Nat.mod_lt _ (by decide)), hor, i64_succ i (by omega)]
    have hq : dg a i * 2 ^ (k % 8) / 256 % 256 = dg a i * 2 ^ (k % 8) / 256 := Nat.mod_eq_of_lt (by omega)
    have hsplit := Nat.mod_add_div (dg a i * 2 ^ (k % 8)) 256
    rw [hq]
    generalize dg a i * 2 ^ (k % 8) = x at *
    have hv1 : v + x % 256 * 256 ^ j < 256 ^ (j + 1) := by
      have h1 := Nat.mod_add_div v (256 ^ j)
      have h2 : v % 256 ^ j < 256 ^ j := Nat.mod_lt _ (Nat.pow_pos (by decide))
      rw [← ht.1] at h1
      rw [Nat.pow_succ]
      generalize 256 ^ j = P at *
      have h3 : P * (dg v j) + x % 256 * P = P * (dg v j + x % 256) := by rw [Nat.mul_comm (x % 256), ← Nat.mul_add]
      have h4 : P * (dg v j + x % 256) + P ≤ P * 256 := by rw [← Nat.mul_succ]; exact Nat.mul_le_mul_left _ hb
      omega
    rw [dl_set (w := v + x % 256 * 256 ^ j) hb (by rw [Nat.add_mul]; omega), dl_length, Nat.ble_eq_true_of_le (by omega), cond_true, dl_set_low hv1 (by omega)]
    have e : v + x % 256 * 256 ^ j + x / 256 * 256 ^ (j + 1) = v + x * 256 ^ j := by
      rw [Nat.pow_succ, Nat.mul_comm (256 ^ j) 256, ← Nat.mul_assoc, Nat.add_assoc, ← Nat.add_mul]
      rw [show x % 256 + x / 256 * 256 = x by omega]
    rw [e]
    exact ih
theorem ref05_Left_g {a k : Nat} (ha : nb a ≤ 16384) (h : a ≠ 0 → bl a + k ≤ 131072) : ref05_Left.g (sOf a) (k : Int) = some (sOf (a * 2 ^ k), 0) := by
  unfold ref05_Left.g ref05_Left.f
  rw [decide_eq_false (by omega : ¬ (k : Int) < 0), cond_false, emptyS, strEq_sOf]
  by_cases h0 : a = 0
  · subst h0
    rw [decide_eq_true rfl, cond_true, Nat.zero_mul]
  · have h := h h0
    rw [decide_eq_false h0, cond_false, decide_eq_false (by omega : ¬ (131072 : Int) < (k : Int)), cond_false, ref05_Len_g ha, Option.bind_some, wrap_i64 (x := ((bl a : Nat) : Int) + (k : Int)) (by omega) (by omega), decide_eq_false (by omega : ¬ (131072 : Int) < ((bl a : Nat) : Int) + (k : Int)), cond_false, size_sOf,
      show ((k : Int)).tdiv (8 : Int) = ((k / 8 : Nat) : Int) from div_nat k 8, wrap_i64 (x := ((k / 8 : Nat) : Int)) (by omega) (by omega), show ((nb a : Nat) : Int) + ((k / 8 : Nat) : Int) = ((nb a + k / 8 : Nat) : Int) by omega, wrap_i64 (x := ((nb a + k / 8 : Nat) : Int)) (by omega) (by omega), i64_succ _ (by omega), mk_ok (by omega), cond_true, Int.toNat_natCast, dl_zero]
    have := ref05_Left_loop fuel (sOf 0) 0 (nb a + k / 8 + 1) (a := a) (k := k) (L := nb a + k / 8 + 1) ha (by omega) rfl (fun (x7 : Int) (m21 : List Int) => (ref05_fit.g (nb a + k / 8 + 1) (nb a + k / 8 + 1) m21).bind fun (r : ByteArray) => some (r, (0 : Int))) (nb a) 0 fuel rfl (by unfold fuel; omega)
    rw [Nat.pow_zero, Nat.mod_one, Nat.zero_mul] at this
    refine this.trans ?_
    have hlt : a * 2 ^ k < 256 ^ (nb a + k / 8 + 1) := by
      have h1 := lt_nb a
      have : a * 2 ^ k < 256 ^ nb a * 2 ^ k := Nat.mul_lt_mul_of_pos_right h1 (Nat.pow_pos (by decide))
      rw [p256, ← Nat.pow_add] at this
      rw [p256]
      exact Nat.lt_of_lt_of_le this (Nat.pow_le_pow_right (by decide) (by omega))
    rw [ref05_fit_g hlt (by omega)]
    rfl

end Go.Proofs.YtnfbcofieobkkaaDoor
