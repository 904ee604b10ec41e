/- The document's natural numbers: products, quotients, roots, common divisors. -/
import Derived.Test.YtnfbcofieobkkaaDoorM6
namespace Go.Proofs.YtnfbcofieobkkaaDoor
open Go Go.Proofs Ev
set_option linter.unusedVariables false
set_option linter.unusedSimpArgs false

theorem i64_nat {x : Nat} (h : x < 9223372036854775808) : IntKind.i64.wrap ((x : Nat) : Int) = ((x : Nat) : Int) := wrap_i64 (by omega) (by omega)

/-! ### products -/
/-! ### quotients -/
theorem ref05_Div_loop {R : Type} (N : Nat) (x4 x5 : ByteArray) (x6 : Int) (c12 : Nat) {a b L : Nat} (ha : nb a ≤ 16384) (hb : nb b ≤ 16384) (hL : L = nb a + 1) (k0 : ByteArray → Int → List Int → Option R) : ∀ (j n Q r : Nat), j < n → j ≤ bl a → a / 2 ^ j = Q * b + r → r < b →
    ref05_Div.l0 N (sOf a) (sOf b) x4 x5 x6 L c12 k0 n (sOf r) ((j : Int) - 1) (dl L (Q * 2 ^ j)) = k0 (sOf (a % b)) (-1) (dl L (a / b))
  | 0, n + 1, Q, r, _, _, hQ, hr => by
    unfold ref05_Div.l0 ref05_Div.b0
    rw [decide_eq_false (by omega : ¬ (0 : Int) ≤ ((0 : Nat) : Int) - 1), cond_false]
    rw [Nat.pow_zero, Nat.div_one] at hQ
    have h1 : a / b = Q := by rw [hQ, Nat.mul_comm, Nat.mul_add_div (by omega), Nat.div_eq_of_lt hr, Nat.add_zero]
    have h2 : a % b = r := by rw [hQ, Nat.mul_comm, Nat.mul_add_mod, Nat.mod_eq_of_lt hr]
    rw [h1, h2, Nat.pow_zero, Nat.mul_one]
    rfl
  | j + 1, n + 1, Q, r, hn, hj, hQ, hr => by
    have hbl : bl a ≤ 8 * nb a := by rw [nb_bl]; omega
    have hrb : nb r ≤ nb b := nb_mono (by omega)
    have hp : a / 2 ^ j = 2 * (a / 2 ^ (j + 1)) + a / 2 ^ j % 2 := by
      rw [Nat.pow_succ, ← Nat.div_div_eq_div_mul]; omega
    have hbit : a / 2 ^ j % 2 < 2 := Nat.mod_lt _ (by decide)
    unfold ref05_Div.l0 ref05_Div.b0
    dsimp only
    rw [show ((j + 1 : Nat) : Int) - 1 = (j : Int) by omega, decide_eq_true (by omega : (0 : Int) ≤ (j : Int)), cond_true, ref05_bit_g (by omega) (by omega), Option.bind_some, ref05_double_g (by omega) (by omega), Option.bind_some]
    generalize hbb : a / 2 ^ j % 2 = bit at *
    have hrr : nb (2 * r + bit) ≤ 20000 := by
      have : 2 * r + bit < 256 ^ (nb b + 1) := by
        have := lt_nb b
        rw [Nat.pow_succ]; omega
      have := nb_le_iff.2 this
      omega
    rw [ref05_Cmp_g (by omega) (by omega), Option.bind_some, wrap_i64 (x := (j : Int) - 1) (by omega) (by omega)]
    by_cases hc : b ≤ 2 * r + bit
    · have ih := ref05_Div_loop N x4 x5 x6 c12 ha hb hL k0 j n (2 * Q + 1) (2 * r + bit - b) (by omega) (by omega) (by rw [hp, hQ, Nat.add_mul, Nat.mul_assoc]; omega) (by omega)
      have hcmp : (0 : Int) ≤ cmpN (2 * r + bit) b := by
        unfold cmpN
        rw [if_neg (by omega)]
        split <;> decide
      rw [decide_eq_true hcmp, cond_true, ref05_sub_g (by omega) hc, Option.bind_some, show ((j : Int)).tdiv (8 : Int) = ((j / 8 : Nat) : Int) from div_nat j 8, show ((j : Int)).tmod (8 : Int) = ((j % 8 : Nat) : Int) from mod_nat j 8, i64_nat (x := j / 8) (by omega), decide_eq_true (by omega : (0 : Int) ≤ ((j / 8 : Nat) : Int)), decide_eq_true (by omega : ((j / 8 : Nat) : Int) < (L : Int)), Int.toNat_natCast, dl_length, nblt, decide_eq_true (by omega : j / 8 < L), Nat.ble_eq_true_of_le (by omega), dl_get _ (by omega)]
      simp only [Bool.and_self, cond_true]
      have e8 : (2 : Nat) ^ j = 2 ^ (j % 8) * 256 ^ (j / 8) := by rw [p256, ← Nat.pow_add, show j % 8 + 8 * (j / 8) = j by omega]
      have ht : dg (Q * 2 ^ (j + 1)) (j / 8) = 2 ^ (j % 8 + 1) * (Q % 2 ^ (7 - j % 8)) := by
        unfold dg
        have h256 : (256 : Nat) = 2 ^ (j % 8 + 1) * 2 ^ (7 - j % 8) := by rw [← Nat.pow_add, show j % 8 + 1 + (7 - j % 8) = 8 by omega]
        have : Q * 2 ^ (j + 1) = 2 ^ (j % 8 + 1) * Q * 256 ^ (j / 8) := by
          rw [Nat.pow_succ, e8, Nat.mul_comm Q, Nat.pow_succ]
          simp only [Nat.mul_assoc, Nat.mul_comm, Nat.mul_left_comm]
        rw [this, Nat.mul_div_cancel _ (Nat.pow_pos (by decide))]
        rw (occs := .pos [1]) [h256]
        rw [Nat.mul_mod_mul_left]
      have hpow : (2 : Nat) ^ (j % 8) < 2 ^ (j % 8 + 1) := Nat.pow_lt_pow_right (by decide) (by omega)
      have hpow8 : (2 : Nat) ^ (j % 8) < 256 := Nat.lt_of_lt_of_le (Nat.pow_lt_pow_right (a := 2) (n := 8) (by decide) (by omega)) (by decide)
      have hor : dg (Q * 2 ^ (j + 1)) (j / 8) ||| 2 ^ (j % 8) = dg (Q * 2 ^ (j + 1)) (j / 8) + 2 ^ (j % 8) := by
        rw [ht, Nat.two_pow_add_eq_or_of_lt hpow]
      have hor8 : dg (Q * 2 ^ (j + 1)) (j / 8) + 2 ^ (j % 8) < 256 := by
        rw [← hor]; exact Nat.or_lt_two_pow (n := 8) (dg_lt _ _) hpow8
      rw [wrap_u64 (by omega) (by omega), show (1 : Int) = ((1 : Nat) : Int) from rfl, shl_u8 _ _ (by omega), Nat.one_mul, Nat.mod_eq_of_lt hpow8, or_u8 (dg_lt _ _) hpow8, hor,
        dl_set (w := (2 * Q + 1) * 2 ^ j) hor8 (by rw [Nat.add_mul, Nat.add_mul, Nat.one_mul, ← e8, Nat.pow_succ, Nat.mul_comm 2 Q, Nat.mul_assoc, Nat.mul_comm 2]; omega)]
      exact ih
    · have ih := ref05_Div_loop N x4 x5 x6 c12 ha hb hL k0 j n (2 * Q) (2 * r + bit) (by omega) (by omega) (by rw [hp, hQ, Nat.mul_assoc]; omega) (by omega)
      have hcmp : ¬ (0 : Int) ≤ cmpN (2 * r + bit) b := by
        unfold cmpN
        rw [if_pos (by omega)]
        decide
      rw [decide_eq_false hcmp, cond_false]
      rw [show Q * 2 ^ (j + 1) = 2 * Q * 2 ^ j by rw [Nat.pow_succ, Nat.mul_comm 2 Q, Nat.mul_assoc, Nat.mul_comm 2]]
      exact ih

theorem ref05_Div_g {a b : Nat} (ha : nb a ≤ 16384) (hb : nb b ≤ 16384) (h0 : b ≠ 0) : ref05_Div.g (sOf a) (sOf b) = some (sOf (a / b), sOf (a % b), 0) := by
  unfold ref05_Div.g ref05_Div.f
  rw [emptyS, strEq_sOf, decide_eq_false h0, cond_false, ref05_Cmp_g (by omega) (by omega), Option.bind_some]
  by_cases hc : a < b
  · have hcmp : cmpN a b < 0 := by unfold cmpN; rw [if_pos hc]; decide
    rw [decide_eq_true hcmp, cond_true, Nat.div_eq_of_lt hc, Nat.mod_eq_of_lt hc]
  · have hcmp : ¬ cmpN a b < 0 := by
      unfold cmpN
      rw [if_neg hc]
      split <;> decide
    have hbl : bl a ≤ 8 * nb a := by rw [nb_bl]; omega
    have hblb : bl b ≤ 8 * nb b := by rw [nb_bl]; omega
    have hbp := bl_pos h0
    have hmono : bl b ≤ bl a := bl_mono (by omega)
    rw [decide_eq_false hcmp, cond_false, ref05_Len_g ha, Option.bind_some, ref05_Len_g hb, Option.bind_some, show ((bl b : Nat) : Int) - 1 = ((bl b - 1 : Nat) : Int) by omega, i64_nat (x := bl b - 1) (by omega), show ((bl a : Nat) : Int) - ((bl b - 1 : Nat) : Int) = ((bl a - (bl b - 1) : Nat) : Int) by omega, i64_nat (x := bl a - (bl b - 1)) (by omega), ref05_Right_g ha (by omega), Option.bind_some, size_sOf, i64_succ _ (by omega), mk_ok (by omega), cond_true, Int.toNat_natCast, dl_zero, wrap_i64 (x := ((bl a - (bl b - 1) : Nat) : Int) - 1) (by omega) (by omega)]
    have hlt : a / 2 ^ (bl a - (bl b - 1)) < b := by
      have h1 : a / 2 ^ (bl a - (bl b - 1)) < 2 ^ (bl b - 1) := by
        rw [← bl_le_iff, bl_div_pow]; omega
      exact Nat.lt_of_lt_of_le h1 (bl_le h0)
    have := ref05_Div_loop fuel (sOf 0) (sOf 0) 0 (nb a + 1) (a := a) (b := b) (L := nb a + 1) ha hb rfl (fun (x9 : ByteArray) (x13 : Int) (m31 : List Int) => (ref05_fit.g (nb a + 1) (nb a + 1) m31).bind fun (r : ByteArray) => some (r, x9, (0 : Int))) (bl a - (bl b - 1)) fuel 0 (a / 2 ^ (bl a - (bl b - 1))) (by unfold fuel; omega) (by omega) (by rw [Nat.zero_mul, Nat.zero_add]) hlt
    rw [Nat.zero_mul] at this
    refine this.trans ?_
    have hlt2 : a / b < 256 ^ (nb a + 1) := by
      have h1 := lt_nb a
      have h2 : a / b ≤ a := Nat.div_le_self _ _
      rw [Nat.pow_succ]; omega
    rw [ref05_fit_g hlt2 (by omega)]
    rfl

/-! ### common divisors -/
theorem ref05_Gcd_loop {R : Type} (N : Nat) (x4 : ByteArray) (k0 : ByteArray → ByteArray → Option R) : ∀ (n a b : Nat), nb a ≤ 16384 → nb b ≤ 16384 → b < a ∨ b = 0 → bl a + bl b < n →
    ref05_Gcd.l0 N x4 k0 n (sOf a) (sOf b) = k0 (sOf (Nat.gcd a b)) (sOf 0)
  | n + 1, a, b, ha, hb, hlt, hn => by
    unfold ref05_Gcd.l0 ref05_Gcd.b0
    dsimp only
    rw [emptyS, strEq_sOf]
    by_cases h0 : b = 0
    · subst h0
      rw [decide_eq_true rfl, Bool.not_true, cond_false, Nat.gcd_zero_right]
    · have hab : b < a := by omega
      rw [decide_eq_false h0, Bool.not_false, cond_true, ref05_Div_g ha hb h0, Option.bind_some]
      have hm : a % b < b := Nat.mod_lt _ (by omega)
      have hmb : nb (a % b) ≤ 16384 := Nat.le_trans (nb_mono (Nat.le_of_lt hm)) hb
      have h2 : 2 * (a % b) < a := by
        have h1 := Nat.mod_add_div a b
        have h3 : b * 1 ≤ b * (a / b) := Nat.mul_le_mul_left _ (Nat.div_pos (by omega) (by omega))
        omega
      have hbl : bl (a % b) < bl a ∨ a % b = 0 := by
        by_cases hz : a % b = 0
        · exact Or.inr hz
        · left
          have e := bl_mul_pow hz 1
          rw [Nat.pow_one] at e
          have := bl_mono (show a % b * 2 ≤ a by omega)
          omega
      have ih := ref05_Gcd_loop N x4 k0 n b (a % b) hb hmb (Or.inl hm) (by
        rcases hbl with h | h
        · omega
        · rw [h, bl_zero]
          have := bl_pos (show a ≠ 0 by omega)
          omega)
      refine ih.trans ?_
      rw [Nat.gcd_comm a b, Nat.gcd_rec b a, Nat.gcd_comm]
theorem ref05_Gcd_g {a b : Nat} (ha : nb a ≤ 16384) (hb : nb b ≤ 16384) : ref05_Gcd.g (sOf a) (sOf b) = some (sOf (Nat.gcd a b)) := by
  unfold ref05_Gcd.g ref05_Gcd.f
  have hbl : bl a ≤ 8 * nb a := by rw [nb_bl]; omega
  have hblb : bl b ≤ 8 * nb b := by rw [nb_bl]; omega
  by_cases h : b < a ∨ b = 0
  · exact ref05_Gcd_loop fuel { data := { toList := [] : Array UInt8 } : ByteArray } (fun (x0 x1 : ByteArray) => some x0) fuel a b ha hb h (by unfold fuel; omega)
  · rw (occs := .pos [2]) [show fuel = 1048575 + 1 from rfl]
    unfold ref05_Gcd.l0 ref05_Gcd.b0
    dsimp only
    have h0 : b ≠ 0 := fun hc => h (Or.inr hc)
    rw [emptyS, strEq_sOf, decide_eq_false h0, Bool.not_false, cond_true, ref05_Div_g ha hb h0, Option.bind_some]
    have hm : a % b < b := Nat.mod_lt _ (by omega)
    have hmb : nb (a % b) ≤ 16384 := Nat.le_trans (nb_mono (Nat.le_of_lt hm)) hb
    have hblm : bl (a % b) ≤ bl b := bl_mono (by omega)
    refine (ref05_Gcd_loop fuel (sOf 0) (fun (x0 x1 : ByteArray) => some x0) 1048575 b (a % b) hb hmb (Or.inl hm) (by omega)).trans ?_
    rw [Nat.gcd_comm a b, Nat.gcd_rec b a, Nat.gcd_comm]

/-! ### roots -/
theorem sqrt_unique {a r s r' s' : Nat} (h1 : a = r * r + s) (h2 : s ≤ 2 * r) (h3 : a = r' * r' + s') (h4 : s' ≤ 2 * r') : r = r' ∧ s = s' := by
  have key : ∀ {x y u v : Nat}, x * x + u = y * y + v → u ≤ 2 * x → x < y → False := by
    intro x y u v e hu h
    have : (x + 1) * (x + 1) ≤ y * y := Nat.mul_le_mul h h
    rw [Nat.add_mul, Nat.mul_add] at this
    omega
  rcases Nat.lt_trichotomy r r' with h | h | h
  · exact (key (h1.symm.trans h3) h2 h).elim
  · subst h; exact ⟨rfl, by omega⟩
  · exact (key (h3.symm.trans h1) h4 h).elim

end Go.Proofs.YtnfbcofieobkkaaDoor
