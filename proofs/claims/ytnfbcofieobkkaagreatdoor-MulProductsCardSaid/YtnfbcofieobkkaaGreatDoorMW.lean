/- The product of two numbers of 384 bits, word by word. -/
import Derived.Test.YtnfbcofieobkkaaGreatDoorM3
namespace Go.Proofs.YtnfbcofieobkkaaGreatDoor
open Go Go.Proofs Ev
set_option linter.unusedVariables false
set_option exponentiation.threshold 1024
set_option maxRecDepth 100000
set_option linter.unusedSimpArgs false

theorem obind' {α β : Type} (a : α) (f : α → Option β) : (some a).bind f = f a := by rw [Option.bind_some]
theorem bT' {α : Type} (a b : α) : (bif true then a else b) = a := by rw [cond_true]
theorem bF' {α : Type} (a b : α) : (bif false then a else b) = b := by rw [cond_false]

def V12.of (n : Nat) : V12 := ⟨((wd n 0 : Nat) : Int), ((wd n 1 : Nat) : Int), ((wd n 2 : Nat) : Int), ((wd n 3 : Nat) : Int), ((wd n 4 : Nat) : Int), ((wd n 5 : Nat) : Int), ((wd n 6 : Nat) : Int), ((wd n 7 : Nat) : Int), ((wd n 8 : Nat) : Int), ((wd n 9 : Nat) : Int), ((wd n 10 : Nat) : Int), ((wd n 11 : Nat) : Int)⟩
theorem V12.set_of {n m k x : Nat} (hk : k < 12) (h1 : wd m k = x) (h2 : ∀ i, i < 12 → i ≠ k → wd m i = wd n i) : ({ w0 := bif k.beq (0 : Nat) then (x : Int) else (V12.of n).w0, w1 := bif k.beq (1 : Nat) then (x : Int) else (V12.of n).w1, w2 := bif k.beq (2 : Nat) then (x : Int) else (V12.of n).w2, w3 := bif k.beq (3 : Nat) then (x : Int) else (V12.of n).w3, w4 := bif k.beq (4 : Nat) then (x : Int) else (V12.of n).w4, w5 := bif k.beq (5 : Nat) then (x : Int) else (V12.of n).w5, w6 := bif k.beq (6 : Nat) then (x : Int) else (V12.of n).w6, w7 := bif k.beq (7 : Nat) then (x : Int) else (V12.of n).w7, w8 := bif k.beq (8 : Nat) then (x : Int) else (V12.of n).w8, w9 := bif k.beq (9 : Nat) then (x : Int) else (V12.of n).w9, w10 := bif k.beq (10 : Nat) then (x : Int) else (V12.of n).w10, w11 := bif k.beq (11 : Nat) then (x : Int) else (V12.of n).w11 : V12 }) = V12.of m := by
  subst h1
  match k, hk with
  | 0, _ => simp [V12.of, h2, nbeq]
  | 1, _ => simp [V12.of, h2, nbeq]
  | 2, _ => simp [V12.of, h2, nbeq]
  | 3, _ => simp [V12.of, h2, nbeq]
  | 4, _ => simp [V12.of, h2, nbeq]
  | 5, _ => simp [V12.of, h2, nbeq]
  | 6, _ => simp [V12.of, h2, nbeq]
  | 7, _ => simp [V12.of, h2, nbeq]
  | 8, _ => simp [V12.of, h2, nbeq]
  | 9, _ => simp [V12.of, h2, nbeq]
  | 10, _ => simp [V12.of, h2, nbeq]
  | 11, _ => simp [V12.of, h2, nbeq]
theorem V12.get_of (n : Nat) {k : Nat} (hk : k < 12) : getI k [(V12.of n).w0, (V12.of n).w1, (V12.of n).w2, (V12.of n).w3, (V12.of n).w4, (V12.of n).w5, (V12.of n).w6, (V12.of n).w7, (V12.of n).w8, (V12.of n).w9, (V12.of n).w10, (V12.of n).w11] = ((wd n k : Nat) : Int) := by
  match k, hk with
  | 0, _ => rfl
  | 1, _ => rfl
  | 2, _ => rfl
  | 3, _ => rfl
  | 4, _ => rfl
  | 5, _ => rfl
  | 6, _ => rfl
  | 7, _ => rfl
  | 8, _ => rfl
  | 9, _ => rfl
  | 10, _ => rfl
  | 11, _ => rfl

/-! ### one word of many -/
def putW (n k x : Nat) : Nat := n % 2 ^ (64 * k) + 2 ^ (64 * k) * (x + 18446744073709551616 * (n / 2 ^ (64 * k) / 18446744073709551616))
theorem p64 (k : Nat) : (2 : Nat) ^ (64 * (k + 1)) = 2 ^ (64 * k) * 18446744073709551616 := by
  rw [show 64 * (k + 1) = 64 * k + 64 by omega, Nat.pow_add]
theorem split64 (n k : Nat) : n = n % 2 ^ (64 * k) + 2 ^ (64 * k) * (wd n k + 18446744073709551616 * (n / 2 ^ (64 * k) / 18446744073709551616)) := by
  unfold wd
  rw [Nat.mod_add_div, Nat.mod_add_div]
theorem wd_low {l q i k : Nat} (h : i < k) : wd (l + 2 ^ (64 * k) * q) i = wd l i := by
  obtain ⟨r, rfl⟩ : ∃ r, k = i + 1 + r := ⟨k - i - 1, by omega⟩
  unfold wd
  rw [show 64 * (i + 1 + r) = 64 * i + 64 + 64 * r by omega, Nat.pow_add, Nat.pow_add, Nat.mul_assoc, Nat.mul_assoc, Nat.add_mul_div_left _ _ (Nat.pow_pos (by decide)), show (2 : Nat) ^ 64 = 18446744073709551616 from rfl, Nat.add_mul_mod_self_left]
theorem high64 {l x H k e : Nat} (hl : l < 2 ^ (64 * k)) (hx : x < 18446744073709551616) (h : k < e) : (l + 2 ^ (64 * k) * (x + 18446744073709551616 * H)) / 2 ^ (64 * e) = H / 2 ^ (64 * (e - k - 1)) := by
  obtain ⟨r, rfl⟩ : ∃ r, e = k + 1 + r := ⟨e - k - 1, by omega⟩
  rw [show k + 1 + r - k - 1 = r by omega, show 64 * (k + 1 + r) = 64 * k + (64 + 64 * r) by omega, Nat.pow_add, ← Nat.div_div_eq_div_mul, Nat.add_mul_div_left _ _ (Nat.pow_pos (by decide)), Nat.div_eq_of_lt hl, Nat.zero_add, Nat.pow_add, ← Nat.div_div_eq_div_mul, show (2 : Nat) ^ 64 = 18446744073709551616 from rfl, Nat.add_mul_div_left _ _ (by decide), Nat.div_eq_of_lt hx, Nat.zero_add]
theorem putW_spec {n k x : Nat} (hx : x < 18446744073709551616) : wd (putW n k x) k = x ∧ (∀ i, i ≠ k → wd (putW n k x) i = wd n i) ∧ putW n k x + 2 ^ (64 * k) * wd n k = n + 2 ^ (64 * k) * x ∧ (∀ e, k < e → n < 2 ^ (64 * e) → putW n k x < 2 ^ (64 * e)) := by
  have hp : 0 < 2 ^ (64 * k) := Nat.pow_pos (by decide)
  have hl : n % 2 ^ (64 * k) < 2 ^ (64 * k) := Nat.mod_lt _ hp
  have hs := split64 n k
  refine ⟨?_, ?_, ?_, ?_⟩
  · unfold putW wd
    rw [Nat.add_mul_div_left _ _ hp, Nat.div_eq_of_lt hl, Nat.zero_add, Nat.add_mul_mod_self_left, Nat.mod_eq_of_lt hx]
  · intro i hi
    rcases Nat.lt_or_gt_of_ne hi with h | h
    · unfold putW
      rw [wd_low h]
      rw (occs := .pos [2]) [hs]
      rw [wd_low h]
    · have e1 : putW n k x / 2 ^ (64 * i) = n / 2 ^ (64 * i) := by
        unfold putW
        rw [high64 hl hx h]
        rw (occs := .pos [2]) [hs]
        rw [high64 hl (wd_lt n k) h]
      unfold wd
      rw [e1]
  · unfold putW
    generalize hH : n / 2 ^ (64 * k) / 18446744073709551616 = H at *
    generalize n % 2 ^ (64 * k) = l at *
    generalize wd n k = w at *
    rw [hs, Nat.mul_add, Nat.mul_add]
    omega
  · intro e he hn
    have e1 : putW n k x / 2 ^ (64 * e) = n / 2 ^ (64 * e) := by
      unfold putW
      rw [high64 hl hx he]
      rw (occs := .pos [2]) [hs]
      rw [high64 hl (wd_lt n k) he]
    rw [Nat.div_eq_of_lt hn] at e1
    have := Nat.div_eq_zero_iff.1 e1
    have : 0 < 2 ^ (64 * e) := Nat.pow_pos (by decide)
    omega

/-! ### one product and two sums -/
theorem mac {x y w c : Nat} (hx : x < 18446744073709551616) (hy : y < 18446744073709551616) (hw : w < 18446744073709551616) (hc : c < 18446744073709551616) :
    ((x * y % 18446744073709551616 + w + false.toNat) % 18446744073709551616 + c + false.toNat) % 18446744073709551616 + 18446744073709551616 * (((x * y / 18446744073709551616 + 0 + (decide (18446744073709551616 ≤ x * y % 18446744073709551616 + w + false.toNat)).toNat) % 18446744073709551616 + 0 + (decide (18446744073709551616 ≤ (x * y % 18446744073709551616 + w + false.toNat) % 18446744073709551616 + c + false.toNat)).toNat) % 18446744073709551616) = x * y + w + c := by
  have hp : x * y ≤ 340282366920938463426481119284349108225 := Nat.mul_le_mul (show x ≤ 18446744073709551615 by omega) (show y ≤ 18446744073709551615 by omega)
  generalize x * y = p at *
  simp only [Bool.toNat_false, Nat.add_zero]
  by_cases h1 : 18446744073709551616 ≤ p % 18446744073709551616 + w
  · rw [decide_eq_true h1]
    by_cases h2 : 18446744073709551616 ≤ (p % 18446744073709551616 + w) % 18446744073709551616 + c
    · rw [decide_eq_true h2]; simp only [Bool.toNat_true]; omega
    · rw [decide_eq_false h2]; simp only [Bool.toNat_true, Bool.toNat_false]; omega
  · rw [decide_eq_false h1]
    by_cases h2 : 18446744073709551616 ≤ (p % 18446744073709551616 + w) % 18446744073709551616 + c
    · rw [decide_eq_true h2]; simp only [Bool.toNat_true, Bool.toNat_false]; omega
    · rw [decide_eq_false h2]; simp only [Bool.toNat_false]; omega

theorem alg3 (P Q x y S B : Nat) : P * (x * ((y + S * B) * Q)) = P * Q * (x * y) + P * Q * (x * (S * B)) := by
  rw [← Nat.mul_add, ← Nat.mul_add x, Nat.mul_assoc P, ← Nat.mul_assoc x, Nat.mul_comm _ Q]
theorem alg4 (P Q x S B : Nat) : P * (x * (B * (Q * S))) = P * Q * (x * (S * B)) := by
  rw [Nat.mul_assoc P, Nat.mul_comm B, Nat.mul_assoc Q, Nat.mul_left_comm x]
theorem wide_Mul_l1 {R : Type} (N : Nat) (x5 : Bool) (x18 : W6) (x20 : Bool) (m1 m2 : W6) {b i x : Nat} (hb : b < 2 ^ 384) (hx : x < 18446744073709551616) (hi : i < 6) : ∀ (d k n c V : Nat), d + k = 6 → d < n → c < 18446744073709551616 → V < 2 ^ (64 * (i + 6)) →
    ∃ c' V', c' < 18446744073709551616 ∧ V' < 2 ^ (64 * (i + 6)) ∧ V' + 2 ^ (64 * (i + 6)) * c' = V + 2 ^ (64 * (i + k)) * c + 2 ^ (64 * i) * (x * (b / 2 ^ (64 * k) * 2 ^ (64 * k))) ∧ ∀ k0 : Int → Int → V12 → Option R, wide_Mul.l1 N x5 x18 (i : Int) x20 (i : Int) (x : Int) (W6.of b) m2 m1 k0 n (c : Int) (k : Int) (V12.of V) = k0 (c' : Int) 6 (V12.of V')
  | 0, k, n + 1, c, V, hd, _, hc, hV => by
    obtain rfl : k = 6 := by omega
    refine ⟨c, V, hc, hV, ?_, ?_⟩
    · rw [Nat.div_eq_of_lt hb]; simp
    · intro k0
      unfold wide_Mul.l1 wide_Mul.b1
      rw [decide_eq_false (by decide : ¬ (((6 : Nat) : Int) < (6 : Int))), cond_false]
      rfl
  | d + 1, k, n + 1, c, V, hd, hn, hc, hV => by
    have hw := wd_lt V (i + k)
    have hy := wd_lt b k
    have hm := mac hx hy hw hc
    obtain ⟨s, hs⟩ : ∃ s, ((x * wd b k % 18446744073709551616 + wd V (i + k) + false.toNat) % 18446744073709551616 + c + false.toNat) % 18446744073709551616 = s := ⟨_, rfl⟩
    obtain ⟨h, hh⟩ : ∃ h, (((x * wd b k / 18446744073709551616 + 0 + (decide (18446744073709551616 ≤ x * wd b k % 18446744073709551616 + wd V (i + k) + false.toNat)).toNat) % 18446744073709551616 + 0 + (decide (18446744073709551616 ≤ (x * wd b k % 18446744073709551616 + wd V (i + k) + false.toNat) % 18446744073709551616 + c + false.toNat)).toNat) % 18446744073709551616) = h := ⟨_, rfl⟩
    have hs64 : s < 18446744073709551616 := by rw [← hs]; exact Nat.mod_lt _ (by decide)
    have hh64 : h < 18446744073709551616 := by rw [← hh]; exact Nat.mod_lt _ (by decide)
    obtain ⟨q1, q2, q3, q4⟩ := putW_spec (n := V) (k := i + k) hs64
    obtain ⟨c', V', hc', hV', hS, hE⟩ := wide_Mul_l1 (R := R) N x5 x18 x20 m1 m2 hb hx hi d (k + 1) n h (putW V (i + k) s) (by omega) (by omega) hh64 (q4 (i + 6) (by omega) hV)
    refine ⟨c', V', hc', hV', ?_, ?_⟩
    · rw [hS]
      rw [hs, hh] at hm
      have p1 : (2 : Nat) ^ (64 * (i + (k + 1))) = 2 ^ (64 * (i + k)) * 18446744073709551616 := p64 (i + k)
      have p2 : (2 : Nat) ^ (64 * (i + k)) = 2 ^ (64 * i) * 2 ^ (64 * k) := by rw [Nat.mul_add, Nat.pow_add]
      have hb1 : b / 2 ^ (64 * k) = wd b k + 18446744073709551616 * (b / 2 ^ (64 * (k + 1))) := by
        rw [p64, ← Nat.div_div_eq_div_mul]
        unfold wd
        rw [Nat.mod_add_div]
      rw [hb1, p64 k, p1]
      generalize b / (2 ^ (64 * k) * 18446744073709551616) = B at *
      have p3 := alg3 (2 ^ (64 * i)) (2 ^ (64 * k)) x (wd b k) 18446744073709551616 B
      have p4 := alg4 (2 ^ (64 * i)) (2 ^ (64 * k)) x 18446744073709551616 B
      rw [p3, p4, ← p2]
      clear hE hS p3 p4 q1 q2 q4 hb1
      generalize 2 ^ (64 * (i + k)) = P at *
      generalize wd V (i + k) = w at *
      generalize x * wd b k = y at *
      have e2 : P * s + P * 18446744073709551616 * h = P * c + P * w + P * y := by
        rw [Nat.mul_assoc, ← Nat.mul_add, hm, Nat.mul_add, Nat.mul_add]
        omega
      omega
    · intro k0
      rw [← hE k0]
      rw (occs := .pos [1]) [wide_Mul.l1]
      unfold wide_Mul.b1
      dsimp only
      have z0 : (0 : Int) = ((0 : Nat) : Int) := rfl
      rw [show (i : Int) + (k : Int) = ((i + k : Nat) : Int) by omega, wrap_i64 (x := ((i + k : Nat) : Int)) (by omega) (by omega), decide_eq_true (by omega : (k : Int) < (6 : Int)), bT', decide_eq_true (by omega : (0 : Int) ≤ (k : Int)), Bool.and_self, bT', Int.toNat_natCast, Int.toNat_natCast, nblt, decide_eq_true (by omega : k < 6), Bool.and_self, bT', W6.get_of b (by omega), word_Mul_g, obind', decide_eq_true (by omega : (0 : Int) ≤ ((i + k : Nat) : Int)), decide_eq_true (by omega : ((i + k : Nat) : Int) < (12 : Int)), Bool.and_self, bT', nblt, decide_eq_true (by omega : i + k < 12), bT', V12.get_of V (by omega)]
      dsimp only
      rw [word_Add_g (Nat.mod_lt _ (by decide)) hw, obind']
      dsimp only
      have hq : x * wd b k / 18446744073709551616 < 18446744073709551616 := by
        have hp : x * wd b k ≤ 340282366920938463426481119284349108225 := Nat.mul_le_mul (show x ≤ 18446744073709551615 by omega) (show wd b k ≤ 18446744073709551615 by omega)
        omega
      have A0 : ∀ (y : Nat), y < 18446744073709551616 → ∀ cc, word_Add.g (y : Int) (0 : Int) cc = some ((((y + 0 + cc.toNat) % 18446744073709551616 : Nat) : Int), decide (18446744073709551616 ≤ y + 0 + cc.toNat)) := fun y hy cc => word_Add_g (b := 0) hy (by decide) cc
      rw [A0 _ hq, obind']
      dsimp only
      rw [word_Add_g (Nat.mod_lt _ (by decide)) hc, obind']
      dsimp only
      rw [A0 _ (Nat.mod_lt _ (by decide)), obind']
      dsimp only
      rw [Nat.ble_eq_true_of_le (by omega), bT', hs, hh, V12.set_of (n := V) (m := putW V (i + k) s) (by omega) q1 (fun j _ hj => q2 j hj), i64_succ k (by omega)]
      rfl

theorem wd_modp (V j i : Nat) : wd (V % 2 ^ (64 * j)) i = if i < j then wd V i else 0 := by
  by_cases h : i < j
  · rw [if_pos h]
    rw (occs := .pos [2]) [← Nat.mod_add_div V (2 ^ (64 * j))]
    rw [wd_low h]
  · rw [if_neg h]
    exact wd_high (Nat.lt_of_lt_of_le (Nat.mod_lt _ (Nat.pow_pos (by decide))) (Nat.pow_le_pow_right (by decide) (by omega)))

theorem wide_Mul_l0 {R : Type} (N : Nat) (hN : 100 ≤ N) (x5 : Bool) (m2 : W6) {a b : Nat} (hb : b < 2 ^ 384) (ha : a < 2 ^ 384) (k0 : Int → V12 → Option R) : ∀ (d i n V : Nat), d + i = 6 → d < n → V < 2 ^ (64 * (i + 6)) →
    wide_Mul.l0 N x5 (W6.of a) m2 (W6.of b) k0 n (i : Int) (V12.of V) = k0 6 (V12.of (V + 2 ^ (64 * i) * (a / 2 ^ (64 * i) * b)))
  | 0, i, n + 1, V, hd, _, hV => by
    obtain rfl : i = 6 := by omega
    unfold wide_Mul.l0 wide_Mul.b0
    rw [decide_eq_false (by decide : ¬ (((6 : Nat) : Int) < (6 : Int))), bF', Nat.div_eq_of_lt ha, Nat.zero_mul, Nat.mul_zero, Nat.add_zero]
    rfl
  | d + 1, i, n + 1, V, hd, hn, hV => by
    obtain ⟨c', V', hc', hV', hS, hE⟩ := wide_Mul_l1 (R := R) N x5 (W6.of a) true (W6.of b) m2 (b := b) (i := i) (x := wd a i) hb (wd_lt a i) (by omega) 6 0 N 0 V rfl (by omega) (by decide) hV
    simp only [Nat.mul_zero, Nat.pow_zero, Nat.div_one, Nat.mul_one, Nat.add_zero] at hS
    have hai : a / 2 ^ (64 * i) = wd a i + 18446744073709551616 * (a / 2 ^ (64 * (i + 1))) := by
      rw [p64, ← Nat.div_div_eq_div_mul]
      unfold wd
      rw [Nat.mod_add_div]
    have hm : V' + 2 ^ (64 * (i + 6)) * c' < 2 ^ (64 * (i + 1 + 6)) := by
      rw [show i + 1 + 6 = i + 6 + 1 by omega, p64 (i + 6)]
      clear hE hS hai
      generalize 2 ^ (64 * (i + 6)) = P at *
      have : P * (c' + 1) ≤ P * 18446744073709551616 := Nat.mul_le_mul_left _ hc'
      rw [Nat.mul_add, Nat.mul_one] at this
      omega
    have ih := wide_Mul_l0 N hN x5 m2 hb ha k0 d (i + 1) n (V' + 2 ^ (64 * (i + 6)) * c') (by omega) (by omega) hm
    have hset := V12.set_of (n := V') (m := V' + 2 ^ (64 * (i + 6)) * c') (k := i + 6) (x := c') (by omega) (by
      unfold wd
      rw [Nat.add_mul_div_left _ _ (Nat.pow_pos (by decide)), Nat.div_eq_of_lt hV', Nat.zero_add, Nat.mod_eq_of_lt hc']) (by
      intro j hj hne
      rcases Nat.lt_or_gt_of_ne hne with h | h
      · exact wd_low h
      · rw [wd_high (Nat.lt_of_lt_of_le hm (Nat.pow_le_pow_right (by decide) (by omega))), wd_high (Nat.lt_of_lt_of_le hV' (Nat.pow_le_pow_right (by decide) (by omega)))])
    have hfin : V' + 2 ^ (64 * (i + 6)) * c' + 2 ^ (64 * (i + 1)) * (a / 2 ^ (64 * (i + 1)) * b) = V + 2 ^ (64 * i) * (a / 2 ^ (64 * i) * b) := by
      rw [hS, hai, p64 i]
      generalize a / (2 ^ (64 * i) * 18446744073709551616) = A
      rw [Nat.add_mul, Nat.mul_add, Nat.mul_assoc, Nat.mul_assoc, Nat.add_assoc]
    rw [hfin] at ih
    rw [← ih]
    rw (occs := .pos [1]) [wide_Mul.l0]
    unfold wide_Mul.b0
    dsimp only
    rw [decide_eq_true (by omega : (i : Int) < (6 : Int)), bT', decide_eq_true (by omega : (0 : Int) ≤ (i : Int)), Bool.and_self, bT', Int.toNat_natCast, nblt, decide_eq_true (by omega : i < 6), Bool.and_self, bT', W6.get_of a (by omega)]
    rw [show wide_Mul.l1 (R := R) N x5 (W6.of a) (i : Int) true (i : Int) ((wd a i : Nat) : Int) (W6.of b) m2 (W6.of b) = fun k0 n x9 x24 m4 => wide_Mul.l1 (R := R) N x5 (W6.of a) (i : Int) true (i : Int) ((wd a i : Nat) : Int) (W6.of b) m2 (W6.of b) k0 n x9 x24 m4 from rfl]
    dsimp only
    refine (hE _).trans ?_
    rw [show (i : Int) + (6 : Int) = ((i + 6 : Nat) : Int) by omega, wrap_i64 (x := ((i + 6 : Nat) : Int)) (by omega) (by omega), decide_eq_true (by omega : (0 : Int) ≤ ((i + 6 : Nat) : Int)), decide_eq_true (by omega : ((i + 6 : Nat) : Int) < (12 : Int)), Bool.and_self, bT', Int.toNat_natCast, Nat.ble_eq_true_of_le (by omega), bT', hset, i64_succ i (by omega)]

theorem wide_Mul_l2 {R : Type} (N V : Nat) (k0 : Bool → Int → W6 → Option R) : ∀ (d j n : Nat) (fl : Bool), d + j = 12 → d < n →
    ∃ fl', wide_Mul.l2 N (V12.of V) k0 n fl (j : Int) (W6.of (V % 2 ^ (64 * j))) = k0 fl' 12 (W6.of V)
  | 0, j, n + 1, fl, hd, _ => by
    obtain rfl : j = 12 := by omega
    refine ⟨fl, ?_⟩
    unfold wide_Mul.l2 wide_Mul.b2
    rw [decide_eq_false (by decide : ¬ (((12 : Nat) : Int) < (12 : Int))), bF', W6.of_congr (n := V % 2 ^ (64 * 12)) (m := V) (fun i hi => by rw [wd_modp, if_pos (by omega)])]
    rfl
  | d + 1, j, n + 1, fl, hd, hn => by
    have ih := fun fl => wide_Mul_l2 N V k0 d (j + 1) n fl (by omega) (by omega)
    rw [wide_Mul.l2]
    unfold wide_Mul.b2
    dsimp only
    rw [decide_eq_true (by omega : (j : Int) < (12 : Int)), bT', decide_eq_true (by omega : (0 : Int) ≤ (j : Int)), Bool.and_self, bT', Int.toNat_natCast, nblt, decide_eq_true (by omega : j < 12), Bool.and_self, bT', V12.get_of V (by omega), i64_succ j (by omega)]
    by_cases h6 : j < 6
    · rw [decide_eq_true (by omega : (j : Int) < (6 : Int)), bT', Bool.and_self, bT', Nat.ble_eq_true_of_le (by omega), bT', W6.set_of (n := V % 2 ^ (64 * j)) (m := V % 2 ^ (64 * (j + 1))) (k := j) (x := wd V j) h6 (by rw [wd_modp, if_pos (by omega)]) (by
        intro i hi hne
        rw [wd_modp, wd_modp]
        by_cases hij : i < j
        · rw [if_pos hij, if_pos (by omega)]
        · rw [if_neg hij, if_neg (by omega)])]
      exact ih fl
    · rw [decide_eq_false (by omega : ¬ (j : Int) < (6 : Int)), bF', W6.of_congr (n := V % 2 ^ (64 * j)) (m := V % 2 ^ (64 * (j + 1))) (fun i hi => by rw [wd_modp, wd_modp, if_pos (by omega), if_pos (by omega)])]
      cases !(((wd V j : Nat) : Int) == (0 : Int))
      · exact ih fl
      · exact ih true

theorem wide_Mul_g {a b : Nat} (ha : a < 2 ^ 384) (hb : b < 2 ^ 384) : ∃ fl, wide_Mul.g (W6.of a) (W6.of b) = some (W6.of (a * b), fl) := by
  obtain ⟨fl, h2⟩ := wide_Mul_l2 fuel (a * b) (fun (x5 : Bool) (x75 : Int) (m2 : W6) => some (m2, x5)) 12 0 fuel false rfl (by unfold fuel; omega)
  have h1 := wide_Mul_l0 fuel (by unfold fuel; omega) false { w0 := (0 : Int), w1 := (0 : Int), w2 := (0 : Int), w3 := (0 : Int), w4 := (0 : Int), w5 := (0 : Int) : W6 } hb ha (fun (x19 : Int) (m4 : V12) => wide_Mul.l2 fuel m4 (fun (x5 : Bool) (x75 : Int) (m2 : W6) => some (m2, x5)) fuel false (0 : Int) { w0 := (0 : Int), w1 := (0 : Int), w2 := (0 : Int), w3 := (0 : Int), w4 := (0 : Int), w5 := (0 : Int) : W6 }) 6 0 fuel 0 rfl (by unfold fuel; omega) (Nat.pow_pos (by decide))
  rw [Nat.mul_zero, Nat.pow_zero, Nat.div_one, Nat.one_mul, Nat.zero_add] at h1
  have z12 : V12.of 0 = { w0 := (0 : Int), w1 := (0 : Int), w2 := (0 : Int), w3 := (0 : Int), w4 := (0 : Int), w5 := (0 : Int), w6 := (0 : Int), w7 := (0 : Int), w8 := (0 : Int), w9 := (0 : Int), w10 := (0 : Int), w11 := (0 : Int) : V12 } := by simp [V12.of, wd]
  rw [Nat.mul_zero, Nat.pow_zero, Nat.mod_one, ← zeroW] at h2
  rw [z12] at h1
  refine ⟨fl, ?_⟩
  unfold wide_Mul.g wide_Mul.f
  exact h1.trans h2

end Go.Proofs.YtnfbcofieobkkaaGreatDoor
