/- The document's natural numbers: products, quotients, roots, common divisors. -/
import Derived.Test.YtnfbcofieobkkaaGreatDoorM6
namespace Go.Proofs.YtnfbcofieobkkaaGreatDoor
open Go Go.Proofs Ev
set_option linter.unusedVariables false
set_option linter.unusedSimpArgs false

theorem i64_nat {x : Nat} (h : x < 9223372036854775808) : IntKind.i64.wrap ((x : Nat) : Int) = ((x : Nat) : Int) := wrap_i64 (by omega) (by omega)

/-! ### products -/
theorem ref05_Mul_l1 {R : Type} (N : Nat) (x4 : ByteArray) (x5 : Int) (c6 : Nat) (x34 : Bool) {A : ByteArray} {b i x L : Nat} (hb : nb b ≤ 20000) (hx : x < 256) (hi : i ≤ 20000) (hL : i + nb b ≤ L) (k0 : Int → Int → List Int → Option R) : ∀ (d k n c V : Nat), d + k = nb b → d < n → c ≤ 256 →
    ∃ c' V', c' ≤ 256 ∧ V' + 256 ^ (i + nb b) * c' = V + 256 ^ (i + k) * c + 256 ^ i * (x * (b / 256 ^ k * 256 ^ k)) ∧ ref05_Mul.l1 N A (sOf b) x4 x5 L c6 (i : Int) x34 (x : Int) k0 n (c : Int) (k : Int) (dl L V) = k0 (c' : Int) ((nb b : Nat) : Int) (dl L V')
  | 0, k, n + 1, c, V, hd, _, hc => by
    obtain rfl : k = nb b := by omega
    refine ⟨c, V, hc, ?_, ?_⟩
    · rw [Nat.div_eq_of_lt (lt_nb b)]; simp
    · unfold ref05_Mul.l1 ref05_Mul.b1
      rw [size_sOf, decide_eq_false (by omega : ¬ (((nb b : Nat) : Int) < ((nb b : Nat) : Int))), cond_false]
  | d + 1, k, n + 1, c, V, hd, hn, hc => by
    have hV := dg_lt V (i + k)
    have hB := dg_lt b k
    have hxb : x * dg b k ≤ 255 * 255 := Nat.mul_le_mul (by omega) (by omega)
    obtain ⟨c', V', hc', hS, hE⟩ := ref05_Mul_l1 N x4 x5 c6 x34 (A := A) hb hx hi hL k0 d (k + 1) n ((c + dg V (i + k) + x * dg b k) / 256) (V - dg V (i + k) * 256 ^ (i + k) + (c + dg V (i + k) + x * dg b k) % 256 * 256 ^ (i + k)) (by omega) (by omega) (by omega)
    have hle : dg V (i + k) * 256 ^ (i + k) ≤ V := by
      have := dg_split V (i + k)
      omega
    refine ⟨c', V', hc', ?_, ?_⟩
    · rw [hS]
      rw [div_dg b k]
      have e := Nat.mod_add_div (c + dg V (i + k) + x * dg b k) 256
      have p1 : (256 : Nat) ^ (i + (k + 1)) = 256 ^ (i + k) * 256 := by rw [← Nat.add_assoc, Nat.pow_succ]
      have p2 : (256 : Nat) ^ (i + k) = 256 ^ i * 256 ^ k := Nat.pow_add _ _ _
      rw [p1]
      generalize hq : b / 256 ^ (k + 1) = B
      have p3 : 256 ^ i * (x * ((256 * B + dg b k) * 256 ^ k)) = 256 ^ (i + k) * (x * (256 * B)) + 256 ^ (i + k) * (x * dg b k) := by
        rw [p2, ← Nat.mul_add, ← Nat.mul_add x, Nat.mul_assoc]
        congr 1
        rw [Nat.mul_comm _ (256 ^ k), ← Nat.mul_assoc, Nat.mul_comm x, Nat.mul_assoc]
      have p4 : 256 ^ i * (x * (B * 256 ^ (k + 1))) = 256 ^ (i + k) * (x * (256 * B)) := by
        rw [p2, Nat.pow_succ, Nat.mul_assoc]
        congr 1
        rw [Nat.mul_comm B, Nat.mul_assoc, ← Nat.mul_assoc x, Nat.mul_comm x, Nat.mul_assoc]
      rw [p3, p4]
      generalize 256 ^ (i + k) = P at *
      generalize dg V (i + k) = v at *
      generalize x * dg b k = y at *
      generalize (c + v + y) / 256 = q at *
      generalize (c + v + y) % 256 = m at *
      have e2 : P * m + P * 256 * q = P * c + P * v + P * y := by
        rw [Nat.mul_assoc, ← Nat.mul_add, e, Nat.mul_add, Nat.mul_add]
      rw [Nat.mul_comm m P, Nat.mul_comm v P] at *
      omega
    · rw [← hE]
      rw (occs := .pos [1]) [ref05_Mul.l1]
      unfold ref05_Mul.b1
      dsimp only
      rw [show (i : Int) + (k : Int) = ((i + k : Nat) : Int) by omega, i64_nat (x := i + k) (by omega), size_sOf, decide_eq_true (by omega : (k : Int) < ((nb b : Nat) : Int)), cond_true, decide_eq_true (by omega : (0 : Int) ≤ ((i + k : Nat) : Int)), decide_eq_true (by omega : ((i + k : Nat) : Int) < (L : Int)), Int.toNat_natCast, dl_length, nblt, decide_eq_true (by omega : i + k < L), ref05_at_g (by omega) (by omega), Option.bind_some, Nat.ble_eq_true_of_le (by omega), dl_get _ (by omega)]
      simp only [Bool.and_self, cond_true]
      rw [i64_nat (x := dg V (i + k)) (by omega), show (x : Int) * ((dg b k : Nat) : Int) = ((x * dg b k : Nat) : Int) by simp, i64_nat (x := x * dg b k) (by omega), show (c : Int) + ((dg V (i + k) : Nat) : Int) = ((c + dg V (i + k) : Nat) : Int) by omega, i64_nat (by omega),
        show ((c + dg V (i + k) : Nat) : Int) + ((x * dg b k : Nat) : Int) = ((c + dg V (i + k) + x * dg b k : Nat) : Int) by omega, i64_nat (by omega), shr8, u8_nat, i64_succ k (by omega),
        dl_set (w := V - dg V (i + k) * 256 ^ (i + k) + (c + dg V (i + k) + x * dg b k) % 256 * 256 ^ (i + k)) (Nat.mod_lt _ (by decide)) (by omega)]

theorem ref05_Mul_l2 {R : Type} (N : Nat) (x4 : ByteArray) (x5 : Int) (c6 : Nat) (x34 : Bool) (x7 x9 x10 : Int) {A B : ByteArray} {L : Nat} (hL : L ≤ 50000) (k0 : Int → Int → List Int → Option R) : ∀ (d k n c V : Nat), d + k = L → d < n → c ≤ 256 → V + 256 ^ k * c < 256 ^ L →
    ∃ y, ref05_Mul.l2 N A B x4 x5 L c6 x7 x34 x9 x10 k0 n (c : Int) (k : Int) (dl L V) = k0 0 y (dl L (V + 256 ^ k * c))
  | d, k, n + 1, 0, V, hd, _, hc, hV => by
    unfold ref05_Mul.l2 ref05_Mul.b2
    exact ⟨_, rfl⟩
  | 0, k, n + 1, c + 1, V, hd, hn, hc, hV => by
    obtain rfl : k = L := by omega
    rw [Nat.mul_succ] at hV
    omega
  | d + 1, k, n + 1, c + 1, V, hd, hn, hc, hV => by
    have hdg := dg_lt V k
    have hle : dg V k * 256 ^ k ≤ V := by
      have := dg_split V k
      omega
    have e := Nat.mod_add_div (c + 1 + dg V k) 256
    have hS : V - dg V k * 256 ^ k + (c + 1 + dg V k) % 256 * 256 ^ k + 256 ^ (k + 1) * ((c + 1 + dg V k) / 256) = V + 256 ^ k * (c + 1) := by
      rw [Nat.pow_succ]
      generalize 256 ^ k = P at *
      generalize dg V k = v at *
      generalize (c + 1 + v) / 256 = q at *
      generalize (c + 1 + v) % 256 = m at *
      have e2 : P * m + P * 256 * q = P * (c + 1) + P * v := by rw [Nat.mul_assoc, ← Nat.mul_add, e, Nat.mul_add]
      rw [Nat.mul_comm m P, Nat.mul_comm v P] at *
      omega
    obtain ⟨y, hy⟩ := ref05_Mul_l2 N x4 x5 c6 x34 x7 x9 x10 (A := A) (B := B) hL k0 d (k + 1) n ((c + 1 + dg V k) / 256) (V - dg V k * 256 ^ k + (c + 1 + dg V k) % 256 * 256 ^ k) (by omega) (by omega) (by omega) (by rw [hS]; exact hV)
    refine ⟨y, ?_⟩
    rw [hS] at hy
    rw [← hy]
    rw (occs := .pos [1]) [ref05_Mul.l2]
    unfold ref05_Mul.b2
    dsimp only
    rw [decide_eq_true (by omega : (0 : Int) < ((c + 1 : Nat) : Int)), cond_true, decide_eq_true (by omega : (0 : Int) ≤ (k : Int)), decide_eq_true (by omega : (k : Int) < (L : Int)), Int.toNat_natCast, dl_length, nblt, decide_eq_true (by omega : k < L), Nat.ble_eq_true_of_le (by omega), dl_get _ (by omega)]
    simp only [Bool.and_self, cond_true]
    rw [i64_nat (x := dg V k) (by omega), show ((c + 1 : Nat) : Int) + ((dg V k : Nat) : Int) = ((c + 1 + dg V k : Nat) : Int) by omega, i64_nat (by omega), shr8, u8_nat, i64_succ k (by omega), dl_set (w := V - dg V k * 256 ^ k + (c + 1 + dg V k) % 256 * 256 ^ k) (Nat.mod_lt _ (by decide)) (by omega)]

theorem ref05_Mul_l0 {R : Type} (N : Nat) (x4 : ByteArray) (x5 : Int) (c6 : Nat) {a b L : Nat} (hN : 100000 ≤ N) (ha : nb a ≤ 20000) (hb : nb b ≤ 20000) (hL : L = nb a + nb b + 1) (k0 : Int → List Int → Option R) : ∀ (d i n : Nat), d + i = nb a → d < n →
    ref05_Mul.l0 N (sOf a) (sOf b) x4 x5 L c6 k0 n (i : Int) (dl L (a % 256 ^ i * b)) = k0 ((nb a : Nat) : Int) (dl L (a * b))
  | 0, i, n + 1, hd, _ => by
    obtain rfl : i = nb a := by omega
    unfold ref05_Mul.l0 ref05_Mul.b0
    rw [size_sOf, decide_eq_false (by omega : ¬ (((nb a : Nat) : Int) < ((nb a : Nat) : Int))), cond_false, Nat.mod_eq_of_lt (lt_nb a)]
  | d + 1, i, n + 1, hd, hn => by
    have ih := ref05_Mul_l0 N x4 x5 c6 hN ha hb hL k0 d (i + 1) n (by omega) (by omega)
    unfold ref05_Mul.l0 ref05_Mul.b0
    dsimp only
    rw [size_sOf, size_sOf, decide_eq_true (by omega : (i : Int) < ((nb a : Nat) : Int)), cond_true, ref05_at_g (by omega) (by omega), Option.bind_some]
    obtain ⟨c', V', hc', hS, hE⟩ := ref05_Mul_l1 N x4 x5 c6 true (A := sOf a) (b := b) (i := i) (x := dg a i) (L := L) hb (dg_lt a i) (by omega) (by omega) (fun (x8 x10 : Int) (m14 : List Int) => ref05_Mul.l2 N (sOf a) (sOf b) x4 x5 L c6 (i : Int) true ((dg a i : Nat) : Int) x10 (fun (x8 x11 : Int) (m14 : List Int) => ref05_Mul.l0 N (sOf a) (sOf b) x4 x5 L c6 k0 n (IntKind.i64.wrap ((i : Int) + (1 : Int))) m14) N x8 (IntKind.i64.wrap ((i : Int) + ((nb b : Nat) : Int))) m14) (nb b) 0 N 0 (a % 256 ^ i * b) rfl (by omega) (by decide)
    rw [Nat.pow_zero, Nat.div_one, Nat.mul_one, Nat.mul_zero, Nat.add_zero] at hS
    have hnext : a % 256 ^ i * b + 256 ^ i * (dg a i * b) = a % 256 ^ (i + 1) * b := by
      rw [mod_dg, Nat.add_mul, Nat.mul_assoc]
    rw [hnext] at hS
    have hfin : a % 256 ^ (i + 1) * b < 256 ^ L := by
      have h1 : a % 256 ^ (i + 1) ≤ a := Nat.mod_le _ _
      have h2 : a % 256 ^ (i + 1) * b ≤ 256 ^ nb a * 256 ^ nb b := Nat.mul_le_mul (Nat.le_trans h1 (Nat.le_of_lt (lt_nb a))) (Nat.le_of_lt (lt_nb b))
      rw [← Nat.pow_add] at h2
      have h3 : (256 : Nat) ^ (nb a + nb b) < 256 ^ L := Nat.pow_lt_pow_right (by decide) (by omega)
      omega
    refine hE.trans ?_
    rw [show (i : Int) + ((nb b : Nat) : Int) = ((i + nb b : Nat) : Int) by omega, i64_nat (by omega)]
    obtain ⟨y, hy⟩ := ref05_Mul_l2 N x4 x5 c6 true (i : Int) ((dg a i : Nat) : Int) ((nb b : Nat) : Int) (A := sOf a) (B := sOf b) (L := L) (by omega) (fun (x8 x11 : Int) (m14 : List Int) => ref05_Mul.l0 N (sOf a) (sOf b) x4 x5 L c6 k0 n (IntKind.i64.wrap ((i : Int) + (1 : Int))) m14) (L - (i + nb b)) (i + nb b) N c' V' (by omega) (by omega) hc' (by rw [hS]; exact hfin)
    rw [hS] at hy
    refine hy.trans ?_
    rw [i64_succ i (by omega)]
    exact ih

theorem ref05_Mul_g {a b : Nat} (h : nb a + nb b ≤ 16385) (h2 : nb (a * b) ≤ 16384) : ref05_Mul.g (sOf a) (sOf b) = some (sOf (a * b), 0) := by
  unfold ref05_Mul.g ref05_Mul.f
  rw [size_sOf, size_sOf, show ((nb a : Nat) : Int) + ((nb b : Nat) : Int) = ((nb a + nb b : Nat) : Int) by omega, i64_nat (x := nb a + nb b) (by omega), decide_eq_false (by omega : ¬ (16385 : Int) < ((nb a + nb b : Nat) : Int)), cond_false, i64_succ _ (by omega), mk_ok (by omega), cond_true, Int.toNat_natCast, dl_zero]
  have := ref05_Mul_l0 fuel { data := { toList := [] : Array UInt8 } : ByteArray } 0 (nb a + nb b + 1) (a := a) (b := b) (L := nb a + nb b + 1) (by unfold fuel; omega) (by omega) (by omega) rfl (fun (x7 : Int) (m14 : List Int) => (ref05_fit.g (nb a + nb b + 1) (nb a + nb b + 1) m14).bind fun (r : ByteArray) => (ref05_long.g r).bind fun (r : ByteArray × Int) => some (r.fst, r.snd)) (nb a) 0 fuel rfl (by unfold fuel; omega)
  rw [Nat.pow_zero, Nat.mod_one, Nat.zero_mul] at this
  refine this.trans ?_
  have hlt : a * b < 256 ^ (nb a + nb b + 1) := by
    have h2 : a * b ≤ 256 ^ nb a * 256 ^ nb b := Nat.mul_le_mul (Nat.le_of_lt (lt_nb a)) (Nat.le_of_lt (lt_nb b))
    rw [← Nat.pow_add] at h2
    have h3 : (256 : Nat) ^ (nb a + nb b) < 256 ^ (nb a + nb b + 1) := Nat.pow_lt_pow_right (by decide) (by omega)
    omega
  rw [ref05_fit_g hlt (by omega), Option.bind_some, ref05_long_g, if_pos h2]
  rfl

/-! ### quotients -/
theorem ref05_Div_loop {R : Type} (N : Nat) (x4 x5 : ByteArray) (x6 : Int) (c12 : Nat) {a b L : Nat} (ha : nb a ≤ 16384) (hb : nb b ≤ 16384) (hL : L = nb a + 1) (k0 : ByteArray → Int → List Int → Option R) : ∀ (j n Q r : Nat), j < n → j ≤ bl a → a / 2 ^ j = Q * b + r → r < b →
    ref05_Div.l0 N (sOf a) (sOf b) x4 x5 x6 L c12 k0 n (sOf r) ((j : Int) - 1) (dl L (Q * 2 ^ j)) = k0 (sOf (a % b)) (-1) (dl L (a / b))
  | 0, n + 1, Q, r, _, _, hQ, hr => by
    unfold ref05_Div.l0 ref05_Div.b0
    rw [decide_eq_false (by omega : ¬ (0 : Int) ≤ ((0 : Nat) : Int) - 1), cond_false]
    rw [Nat.pow_zero, Nat.div_one] at hQ
    have h1 : a / b = Q := by rw [hQ, Nat.mul_comm, Nat.mul_add_div (by omega), Nat.div_eq_of_lt hr, Nat.add_zero]
    have h2 : a % b = r := by rw [hQ, Nat.mul_comm, Nat.mul_add_mod, Nat.mod_eq_of_lt hr]
    rw [h1, h2, Nat.pow_zero, Nat.mul_one]
    rfl
  | j + 1, n + 1, Q, r, hn, hj, hQ, hr => by
    have hbl : bl a ≤ 8 * nb a := by rw [nb_bl]; omega
    have hrb : nb r ≤ nb b := nb_mono (by omega)
    have hp : a / 2 ^ j = 2 * (a / 2 ^ (j + 1)) + a / 2 ^ j % 2 := by
      rw [Nat.pow_succ, ← Nat.div_div_eq_div_mul]; omega
    have hbit : a / 2 ^ j % 2 < 2 := Nat.mod_lt _ (by decide)
    unfold ref05_Div.l0 ref05_Div.b0
    dsimp only
    rw [show ((j + 1 : Nat) : Int) - 1 = (j : Int) by omega, decide_eq_true (by omega : (0 : Int) ≤ (j : Int)), cond_true, ref05_bit_g (by omega) (by omega), Option.bind_some, ref05_double_g (by omega) (by omega), Option.bind_some]
    generalize hbb : a / 2 ^ j % 2 = bit at *
    have hrr : nb (2 * r + bit) ≤ 20000 := by
      have : 2 * r + bit < 256 ^ (nb b + 1) := by
        have := lt_nb b
        rw [Nat.pow_succ]; omega
      have := nb_le_iff.2 this
      omega
    rw [ref05_Cmp_g (by omega) (by omega), Option.bind_some, wrap_i64 (x := (j : Int) - 1) (by omega) (by omega)]
    by_cases hc : b ≤ 2 * r + bit
    · have ih := ref05_Div_loop N x4 x5 x6 c12 ha hb hL k0 j n (2 * Q + 1) (2 * r + bit - b) (by omega) (by omega) (by rw [hp, hQ, Nat.add_mul, Nat.mul_assoc]; omega) (by omega)
      have hcmp : (0 : Int) ≤ cmpN (2 * r + bit) b := by
        unfold cmpN
        rw [if_neg (by omega)]
        split <;> decide
      rw [decide_eq_true hcmp, cond_true, ref05_sub_g (by omega) hc, Option.bind_some, show ((j : Int)).tdiv (8 : Int) = ((j / 8 : Nat) : Int) from div_nat j 8, show ((j : Int)).tmod (8 : Int) = ((j % 8 : Nat) : Int) from mod_nat j 8, i64_nat (x := j / 8) (by omega), decide_eq_true (by omega : (0 : Int) ≤ ((j / 8 : Nat) : Int)), decide_eq_true (by omega : ((j / 8 : Nat) : Int) < (L : Int)), Int.toNat_natCast, dl_length, nblt, decide_eq_true (by omega : j / 8 < L), Nat.ble_eq_true_of_le (by omega), dl_get _ (by omega)]
      simp only [Bool.and_self, cond_true]
      have e8 : (2 : Nat) ^ j = 2 ^ (j % 8) * 256 ^ (j / 8) := by rw [p256, ← Nat.pow_add, show j % 8 + 8 * (j / 8) = j by omega]
      have ht : dg (Q * 2 ^ (j + 1)) (j / 8) = 2 ^ (j % 8 + 1) * (Q % 2 ^ (7 - j % 8)) := by
        unfold dg
        have h256 : (256 : Nat) = 2 ^ (j % 8 + 1) * 2 ^ (7 - j % 8) := by rw [← Nat.pow_add, show j % 8 + 1 + (7 - j % 8) = 8 by omega]
        have : Q * 2 ^ (j + 1) = 2 ^ (j % 8 + 1) * Q * 256 ^ (j / 8) := by
          rw [Nat.pow_succ, e8, Nat.mul_comm Q, Nat.pow_succ]
          simp only [Nat.mul_assoc, Nat.mul_comm, Nat.mul_left_comm]
        rw [this, Nat.mul_div_cancel _ (Nat.pow_pos (by decide))]
        rw (occs := .pos [1]) [h256]
        rw [Nat.mul_mod_mul_left]
      have hpow : (2 : Nat) ^ (j % 8) < 2 ^ (j % 8 + 1) := Nat.pow_lt_pow_right (by decide) (by omega)
      have hpow8 : (2 : Nat) ^ (j % 8) < 256 := Nat.lt_of_lt_of_le (Nat.pow_lt_pow_right (a := 2) (n := 8) (by decide) (by omega)) (by decide)
      have hor : dg (Q * 2 ^ (j + 1)) (j / 8) ||| 2 ^ (j % 8) = dg (Q * 2 ^ (j + 1)) (j / 8) + 2 ^ (j % 8) := by
        rw [ht, Nat.two_pow_add_eq_or_of_lt hpow]
      have hor8 : dg (Q * 2 ^ (j + 1)) (j / 8) + 2 ^ (j % 8) < 256 := by
        rw [← hor]; exact Nat.or_lt_two_pow (n := 8) (dg_lt _ _) hpow8
      rw [wrap_u64 (by omega) (by omega), show (1 : Int) = ((1 : Nat) : Int) from rfl, shl_u8 _ _ (by omega), Nat.one_mul, Nat.mod_eq_of_lt hpow8, or_u8 (dg_lt _ _) hpow8, hor,
        dl_set (w := (2 * Q + 1) * 2 ^ j) hor8 (by rw [Nat.add_mul, Nat.add_mul, Nat.one_mul, ← e8, Nat.pow_succ, Nat.mul_comm 2 Q, Nat.mul_assoc, Nat.mul_comm 2]; omega)]
      exact ih
    · have ih := ref05_Div_loop N x4 x5 x6 c12 ha hb hL k0 j n (2 * Q) (2 * r + bit) (by omega) (by omega) (by rw [hp, hQ, Nat.mul_assoc]; omega) (by omega)
      have hcmp : ¬ (0 : Int) ≤ cmpN (2 * r + bit) b := by
        unfold cmpN
        rw [if_pos (by omega)]
        decide
      rw [decide_eq_false hcmp, cond_false]
      rw [show Q * 2 ^ (j + 1) = 2 * Q * 2 ^ j by rw [Nat.pow_succ, Nat.mul_comm 2 Q, Nat.mul_assoc, Nat.mul_comm 2]]
      exact ih

theorem ref05_Div_g {a b : Nat} (ha : nb a ≤ 16384) (hb : nb b ≤ 16384) (h0 : b ≠ 0) : ref05_Div.g (sOf a) (sOf b) = some (sOf (a / b), sOf (a % b), 0) := by
  unfold ref05_Div.g ref05_Div.f
  rw [emptyS, strEq_sOf, decide_eq_false h0, cond_false, ref05_Cmp_g (by omega) (by omega), Option.bind_some]
  by_cases hc : a < b
  · have hcmp : cmpN a b < 0 := by unfold cmpN; rw [if_pos hc]; decide
    rw [decide_eq_true hcmp, cond_true, Nat.div_eq_of_lt hc, Nat.mod_eq_of_lt hc]
  · have hcmp : ¬ cmpN a b < 0 := by
      unfold cmpN
      rw [if_neg hc]
      split <;> decide
    have hbl : bl a ≤ 8 * nb a := by rw [nb_bl]; omega
    have hblb : bl b ≤ 8 * nb b := by rw [nb_bl]; omega
    have hbp := bl_pos h0
    have hmono : bl b ≤ bl a := bl_mono (by omega)
    rw [decide_eq_false hcmp, cond_false, ref05_Len_g ha, Option.bind_some, ref05_Len_g hb, Option.bind_some, show ((bl b : Nat) : Int) - 1 = ((bl b - 1 : Nat) : Int) by omega, i64_nat (x := bl b - 1) (by omega), show ((bl a : Nat) : Int) - ((bl b - 1 : Nat) : Int) = ((bl a - (bl b - 1) : Nat) : Int) by omega, i64_nat (x := bl a - (bl b - 1)) (by omega), ref05_Right_g ha (by omega), Option.bind_some, size_sOf, i64_succ _ (by omega), mk_ok (by omega), cond_true, Int.toNat_natCast, dl_zero, wrap_i64 (x := ((bl a - (bl b - 1) : Nat) : Int) - 1) (by omega) (by omega)]
    have hlt : a / 2 ^ (bl a - (bl b - 1)) < b := by
      have h1 : a / 2 ^ (bl a - (bl b - 1)) < 2 ^ (bl b - 1) := by
        rw [← bl_le_iff, bl_div_pow]; omega
      exact Nat.lt_of_lt_of_le h1 (bl_le h0)
    have := ref05_Div_loop fuel (sOf 0) (sOf 0) 0 (nb a + 1) (a := a) (b := b) (L := nb a + 1) ha hb rfl (fun (x9 : ByteArray) (x13 : Int) (m31 : List Int) => (ref05_fit.g (nb a + 1) (nb a + 1) m31).bind fun (r : ByteArray) => some (r, x9, (0 : Int))) (bl a - (bl b - 1)) fuel 0 (a / 2 ^ (bl a - (bl b - 1))) (by unfold fuel; omega) (by omega) (by rw [Nat.zero_mul, Nat.zero_add]) hlt
    rw [Nat.zero_mul] at this
    refine this.trans ?_
    have hlt2 : a / b < 256 ^ (nb a + 1) := by
      have h1 := lt_nb a
      have h2 : a / b ≤ a := Nat.div_le_self _ _
      rw [Nat.pow_succ]; omega
    rw [ref05_fit_g hlt2 (by omega)]
    rfl

/-! ### common divisors -/
theorem ref05_Gcd_loop {R : Type} (N : Nat) (x4 : ByteArray) (k0 : ByteArray → ByteArray → Option R) : ∀ (n a b : Nat), nb a ≤ 16384 → nb b ≤ 16384 → b < a ∨ b = 0 → bl a + bl b < n →
    ref05_Gcd.l0 N x4 k0 n (sOf a) (sOf b) = k0 (sOf (Nat.gcd a b)) (sOf 0)
  | n + 1, a, b, ha, hb, hlt, hn => by
    unfold ref05_Gcd.l0 ref05_Gcd.b0
    dsimp only
    rw [emptyS, strEq_sOf]
    by_cases h0 : b = 0
    · subst h0
      rw [decide_eq_true rfl, Bool.not_true, cond_false, Nat.gcd_zero_right]
    · have hab : b < a := by omega
      rw [decide_eq_false h0, Bool.not_false, cond_true, ref05_Div_g ha hb h0, Option.bind_some]
      have hm : a % b < b := Nat.mod_lt _ (by omega)
      have hmb : nb (a % b) ≤ 16384 := Nat.le_trans (nb_mono (Nat.le_of_lt hm)) hb
      have h2 : 2 * (a % b) < a := by
        have h1 := Nat.mod_add_div a b
        have h3 : b * 1 ≤ b * (a / b) := Nat.mul_le_mul_left _ (Nat.div_pos (by omega) (by omega))
        omega
      have hbl : bl (a % b) < bl a ∨ a % b = 0 := by
        by_cases hz : a % b = 0
        · exact Or.inr hz
        · left
          have e := bl_mul_pow hz 1
          rw [Nat.pow_one] at e
          have := bl_mono (show a % b * 2 ≤ a by omega)
          omega
      have ih := ref05_Gcd_loop N x4 k0 n b (a % b) hb hmb (Or.inl hm) (by
        rcases hbl with h | h
        · omega
        · rw [h, bl_zero]
          have := bl_pos (show a ≠ 0 by omega)
          omega)
      refine ih.trans ?_
      rw [Nat.gcd_comm a b, Nat.gcd_rec b a, Nat.gcd_comm]
theorem ref05_Gcd_g {a b : Nat} (ha : nb a ≤ 16384) (hb : nb b ≤ 16384) : ref05_Gcd.g (sOf a) (sOf b) = some (sOf (Nat.gcd a b)) := by
  unfold ref05_Gcd.g ref05_Gcd.f
  have hbl : bl a ≤ 8 * nb a := by rw [nb_bl]; omega
  have hblb : bl b ≤ 8 * nb b := by rw [nb_bl]; omega
  by_cases h : b < a ∨ b = 0
  · exact ref05_Gcd_loop fuel { data := { toList := [] : Array UInt8 } : ByteArray } (fun (x0 x1 : ByteArray) => some x0) fuel a b ha hb h (by unfold fuel; omega)
  · rw (occs := .pos [2]) [show fuel = 1048575 + 1 from rfl]
    unfold ref05_Gcd.l0 ref05_Gcd.b0
    dsimp only
    have h0 : b ≠ 0 := fun hc => h (Or.inr hc)
    rw [emptyS, strEq_sOf, decide_eq_false h0, Bool.not_false, cond_true, ref05_Div_g ha hb h0, Option.bind_some]
    have hm : a % b < b := Nat.mod_lt _ (by omega)
    have hmb : nb (a % b) ≤ 16384 := Nat.le_trans (nb_mono (Nat.le_of_lt hm)) hb
    have hblm : bl (a % b) ≤ bl b := bl_mono (by omega)
    refine (ref05_Gcd_loop fuel (sOf 0) (fun (x0 x1 : ByteArray) => some x0) 1048575 b (a % b) hb hmb (Or.inl hm) (by omega)).trans ?_
    rw [Nat.gcd_comm a b, Nat.gcd_rec b a, Nat.gcd_comm]

/-! ### roots -/
theorem sqrt_unique {a r s r' s' : Nat} (h1 : a = r * r + s) (h2 : s ≤ 2 * r) (h3 : a = r' * r' + s') (h4 : s' ≤ 2 * r') : r = r' ∧ s = s' := by
  have key : ∀ {x y u v : Nat}, x * x + u = y * y + v → u ≤ 2 * x → x < y → False := by
    intro x y u v e hu h
    have : (x + 1) * (x + 1) ≤ y * y := Nat.mul_le_mul h h
    rw [Nat.add_mul, Nat.mul_add] at this
    omega
  rcases Nat.lt_trichotomy r r' with h | h | h
  · exact (key (h1.symm.trans h3) h2 h).elim
  · subst h; exact ⟨rfl, by omega⟩
  · exact (key (h3.symm.trans h1) h4 h).elim

theorem ref05_Sqrt_loop {R : Type} (N : Nat) (x2 x3 : ByteArray) {a : Nat} (ha : nb a ≤ 16384) (k0 : ByteArray → ByteArray → Int → Option R) : ∀ (j n r s : Nat), j < n → j ≤ 100000 → a / 4 ^ j = r * r + s → s ≤ 2 * r →
    ∃ r' s', a = r' * r' + s' ∧ s' ≤ 2 * r' ∧ ref05_Sqrt.l0 N (sOf a) x2 x3 k0 n (sOf r) (sOf s) ((j : Int) - 1) = k0 (sOf r') (sOf s') (-1)
  | 0, n + 1, r, s, _, _, hQ, hs => by
    refine ⟨r, s, by simpa using hQ, hs, ?_⟩
    unfold ref05_Sqrt.l0 ref05_Sqrt.b0
    rw [decide_eq_false (by omega : ¬ (0 : Int) ≤ ((0 : Nat) : Int) - 1), cond_false]
    rfl
  | j + 1, n + 1, r, s, hn, hj, hQ, hs => by
    have h4 : a / 4 ^ j = 4 * (a / 4 ^ (j + 1)) + a / 4 ^ j % 4 := by
      rw [Nat.pow_succ, ← Nat.div_div_eq_div_mul]; omega
    have hra : r ≤ a := by
      have h1 : a / 4 ^ (j + 1) ≤ a := Nat.div_le_self _ _
      have h2 : r ≤ r * r := Nat.le_mul_self r
      omega
    have hnr : nb r ≤ 16384 := Nat.le_trans (nb_mono hra) ha
    have hns : nb s ≤ 16385 := by
      have h1 := nb_le_iff.1 hnr
      obtain ⟨k, hk⟩ : ∃ k : Nat, 16384 = k := ⟨_, rfl⟩
      rw [hk] at h1
      have : s < 256 ^ (k + 1) := by
        rw [Nat.pow_succ]
        generalize 256 ^ k = P at *
        omega
      have := nb_le_iff.2 this
      omega
    have up : ∀ {x k y : Nat}, nb x ≤ k → y ≤ 4 * x + 3 → nb y ≤ k + 1 := by
      intro x k y h hy
      have h1 := nb_le_iff.1 h
      refine nb_le_iff.2 ?_
      have h2 : 0 < 256 ^ k := Nat.pow_pos (by decide)
      rw [Nat.pow_succ]
      generalize 256 ^ k = P at *
      omega
    have b1 : a / 2 ^ (2 * j + 1) % 2 < 2 := Nat.mod_lt _ (by decide)
    have b0 : a / 2 ^ (2 * j) % 2 < 2 := Nat.mod_lt _ (by decide)
    have hb : a / 4 ^ j % 4 = 2 * (a / 2 ^ (2 * j + 1) % 2) + a / 2 ^ (2 * j) % 2 := by
      rw [Nat.pow_succ, ← Nat.div_div_eq_div_mul, show (4 : Nat) ^ j = 2 ^ (2 * j) by rw [Nat.pow_mul]]
      omega
    have s1 : nb (2 * s + a / 2 ^ (2 * j + 1) % 2) ≤ 16386 := up hns (by omega)
    have s2 : nb (2 * (2 * s + a / 2 ^ (2 * j + 1) % 2) + a / 2 ^ (2 * j) % 2) ≤ 16387 := up s1 (by omega)
    have r1 : nb (2 * r + 0) ≤ 16385 := up hnr (by omega)
    have r2 : nb (2 * (2 * r + 0) + 1) ≤ 16386 := up r1 (by omega)
    have d1 := ref05_double_g (a := s) (o := a / 2 ^ (2 * j + 1) % 2) (by omega) (by omega)
    have d2 := ref05_double_g (a := 2 * s + a / 2 ^ (2 * j + 1) % 2) (o := a / 2 ^ (2 * j) % 2) (by omega) (by omega)
    have d3 := ref05_double_g (a := r) (o := 0) (by omega) (by omega)
    have d4 := ref05_double_g (a := 2 * r + 0) (o := 1) (by omega) (by omega)
    have hO : ref05_Of.g (1 : Int) = some (sOf 1) := ref05_Of_g (x := 1) (by decide)
    have n1 : nb 1 ≤ 50000 := Nat.le_trans (nb_le_iff.2 (show 1 < 256 ^ 1 by decide)) (by decide)
    have dadd := ref05_add_g (a := 2 * r + 0) (b := 1) (by omega) n1
    have body : ref05_Sqrt.l0 N (sOf a) x2 x3 k0 (n + 1) (sOf r) (sOf s) (((j + 1 : Nat) : Int) - 1) = bif decide ((0 : Int) ≤ cmpN (2 * (2 * s + a / 2 ^ (2 * j + 1) % 2) + a / 2 ^ (2 * j) % 2) (2 * (2 * r + 0) + 1)) then (ref05_sub.g (sOf (2 * (2 * s + a / 2 ^ (2 * j + 1) % 2) + a / 2 ^ (2 * j) % 2)) (sOf (2 * (2 * r + 0) + 1))).bind fun (q : ByteArray) => ref05_Sqrt.l0 N (sOf a) x2 x3 k0 n (sOf (2 * r + 0 + 1)) q ((j : Int) - 1) else ref05_Sqrt.l0 N (sOf a) x2 x3 k0 n (sOf (2 * r + 0)) (sOf (2 * (2 * s + a / 2 ^ (2 * j + 1) % 2) + a / 2 ^ (2 * j) % 2)) ((j : Int) - 1) := by
      rw (occs := .pos [1]) [ref05_Sqrt.l0]
      unfold ref05_Sqrt.b0
      dsimp only
      rw [show ((j + 1 : Nat) : Int) - 1 = (j : Int) by omega, decide_eq_true (by omega : (0 : Int) ≤ (j : Int)), cond_true, show (2 : Int) * (j : Int) = ((2 * j : Nat) : Int) by omega, i64_nat (x := 2 * j) (by omega), i64_succ (2 * j) (by omega), ref05_bit_g (by omega) (by omega), Option.bind_some, d1, Option.bind_some, ref05_bit_g (by omega) (by omega), Option.bind_some, d2, Option.bind_some]
      have d3' : ref05_double.g (sOf r) (0 : Int) = some (sOf (2 * r + 0)) := d3
      have d4' : ref05_double.g (sOf (2 * r + 0)) (1 : Int) = some (sOf (2 * (2 * r + 0) + 1)) := d4
      rw [d3', Option.bind_some, d4', Option.bind_some, Option.bind_some, ref05_Cmp_g (by omega) (by omega), Option.bind_some, wrap_i64 (x := (j : Int) - 1) (by omega) (by omega)]
      simp only [hO, Option.bind_some, dadd]
    rw [body]
    by_cases hc : 2 * (2 * r + 0) + 1 ≤ 2 * (2 * s + a / 2 ^ (2 * j + 1) % 2) + a / 2 ^ (2 * j) % 2
    · have hcmp : (0 : Int) ≤ cmpN (2 * (2 * s + a / 2 ^ (2 * j + 1) % 2) + a / 2 ^ (2 * j) % 2) (2 * (2 * r + 0) + 1) := by
        unfold cmpN
        rw [if_neg (by omega)]
        split <;> decide
      rw [decide_eq_true hcmp, cond_true, ref05_sub_g (by omega) hc, Option.bind_some]
      refine ref05_Sqrt_loop N x2 x3 ha k0 j n (2 * r + 0 + 1) _ (by omega) (by omega) ?_ (by omega)
      rw [h4, hQ, hb]
      have e : (2 * r + 0 + 1) * (2 * r + 0 + 1) = 4 * (r * r) + 4 * r + 1 := by
        rw [Nat.add_zero, Nat.add_mul, Nat.mul_add, Nat.mul_assoc, Nat.mul_left_comm r 2 r]
        omega
      rw [e]
      omega
    · have hcmp : ¬ (0 : Int) ≤ cmpN (2 * (2 * s + a / 2 ^ (2 * j + 1) % 2) + a / 2 ^ (2 * j) % 2) (2 * (2 * r + 0) + 1) := by
        unfold cmpN
        rw [if_pos (by omega)]
        decide
      rw [decide_eq_false hcmp, cond_false]
      refine ref05_Sqrt_loop N x2 x3 ha k0 j n (2 * r + 0) _ (by omega) (by omega) ?_ (by omega)
      rw [h4, hQ, hb]
      have e : (2 * r + 0) * (2 * r + 0) = 4 * (r * r) := by
        rw [Nat.add_zero, Nat.mul_assoc, Nat.mul_left_comm r 2 r]
        omega
      rw [e]
      omega
theorem ref05_Sqrt_g {a : Nat} (ha : nb a ≤ 16384) : ∃ r s, a = r * r + s ∧ s ≤ 2 * r ∧ ref05_Sqrt.g (sOf a) = some (sOf r, sOf s) := by
  unfold ref05_Sqrt.g ref05_Sqrt.f
  have hbl : bl a ≤ 8 * nb a := by rw [nb_bl]; omega
  rw [ref05_Len_g ha, Option.bind_some, i64_succ _ (by omega), show ((bl a + 1 : Nat) : Int).tdiv (2 : Int) = (((bl a + 1) / 2 : Nat) : Int) from div_nat _ 2, i64_nat (by omega), emptyS]
  have hz : a / 4 ^ ((bl a + 1) / 2 + 1) = 0 := by
    refine Nat.div_eq_of_lt ?_
    rw [show (4 : Nat) ^ ((bl a + 1) / 2 + 1) = 2 ^ (2 * ((bl a + 1) / 2 + 1)) by rw [Nat.pow_mul], ← bl_le_iff]
    omega
  obtain ⟨r, s, h1, h2, h3⟩ := ref05_Sqrt_loop fuel (sOf 0) (sOf 0) ha (fun (x4 x5 : ByteArray) (x6 : Int) => some (x4, x5)) ((bl a + 1) / 2 + 1) fuel 0 0 (by unfold fuel; omega) (by omega) (by rw [hz]) (by decide)
  refine ⟨r, s, h1, h2, ?_⟩
  rw [show (((bl a + 1) / 2 + 1 : Nat) : Int) - 1 = (((bl a + 1) / 2 : Nat) : Int) by omega] at h3
  exact h3

end Go.Proofs.YtnfbcofieobkkaaGreatDoor
