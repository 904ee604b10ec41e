/- The document's natural numbers: what the functions of layer 5 compute. -/
import Derived.Test.YtnfbcofieobkkaaDoorM4
namespace Go.Proofs.YtnfbcofieobkkaaDoor
open Go Go.Proofs Ev
set_option linter.unusedVariables false
set_option linter.unusedSimpArgs false

theorem ref05_at_g {n : Nat} (hn : nb n ≤ 1000000) {i : Nat} (hi : i ≤ 1000000) : ref05_at.g (sOf n) (i : Int) = some ((dg n i : Nat) : Int) := by
  unfold ref05_at.g
  rw [size_sOf]
  by_cases h : nb n ≤ i
  · rw [decide_eq_true (by omega : ((nb n : Nat) : Int) ≤ (i : Int)), cond_true, dg_high (Nat.lt_of_lt_of_le (lt_nb n) (Nat.pow_le_pow_right (by decide) h))]
    rfl
  · rw [decide_eq_false (by omega : ¬ ((nb n : Nat) : Int) ≤ (i : Int)), cond_false, wrap_i64 (x := ((nb n : Nat) : Int) - 1) (by omega) (by omega), wrap_i64 (x := ((nb n : Nat) : Int) - 1 - (i : Int)) (by omega) (by omega),
      decide_eq_true (by omega : (0 : Int) ≤ ((nb n : Nat) : Int) - 1 - (i : Int)), decide_eq_true (by omega : ((nb n : Nat) : Int) - 1 - (i : Int) < ((nb n : Nat) : Int)), show (((nb n : Nat) : Int) - 1 - (i : Int)).toNat = nb n - 1 - i by omega, byte_sOf (by omega)]
    have := dg_lt n i
    simp only [Bool.and_self, cond_true]
    rw [u8_ofNat this, wrap_i64 (by omega) (by omega)]

theorem ref05_May_g {n : Nat} (hn : nb n ≤ 1000000) : ref05_May.g (sOf n) = some (decide (nb n ≤ 16384)) := by
  unfold ref05_May.g
  simp only [emptyS, strEq_sOf, size_sOf]
  by_cases h : nb n ≤ 16384
  · rw [decide_eq_true (by omega : ((nb n : Nat) : Int) ≤ 16384), cond_true, decide_eq_true h]
    by_cases h0 : n = 0
    · rw [decide_eq_true h0, cond_true]
    · have hp : 0 < nb n := by
        have : nb n ≠ 0 := fun h => h0 (nb_eq_zero.1 h)
        omega
      rw [decide_eq_false h0, cond_false, decide_eq_true (by omega : (0 : Int) < ((nb n : Nat) : Int))]
      have hb := byte_sOf (n := n) (i := nb n - 1) (by omega)
      rw [show nb n - 1 - (nb n - 1) = 0 by omega] at hb
      rw [hb]
      simp only [Bool.and_self, cond_true]
      have e : dg n (nb n - 1) ≠ 0 := by
        have h2 : (256 : Nat) ^ (nb n - 1) ≤ n := lt_nb_iff.1 (by omega)
        have h3 := lt_nb n
        unfold dg
        rw [Nat.mod_eq_of_lt]
        · have := Nat.div_pos h2 (Nat.pow_pos (by decide)); omega
        · rw [Nat.div_lt_iff_lt_mul (Nat.pow_pos (by decide)), Nat.mul_comm, ← Nat.pow_succ]
          rwa [show (nb n - 1).succ = nb n by omega]
      have := dg_lt n (nb n - 1)
      rw [u8_ofNat this, show (((dg n (nb n - 1) : Nat) : Int) == (0 : Int)) = false by rw [beq_eq_false_iff_ne]; omega]
      rfl
  · rw [decide_eq_false (by omega : ¬ ((nb n : Nat) : Int) ≤ 16384), cond_false, decide_eq_false h]

theorem top_digit {n : Nat} (h0 : n ≠ 0) : dg n (nb n - 1) = n / 256 ^ (nb n - 1) ∧ dg n (nb n - 1) ≠ 0 := by
  have hp : nb n ≠ 0 := fun h => h0 (nb_eq_zero.1 h)
  have h2 : (256 : Nat) ^ (nb n - 1) ≤ n := lt_nb_iff.1 (by omega)
  have h3 := lt_nb n
  have e : dg n (nb n - 1) = n / 256 ^ (nb n - 1) := by
    unfold dg
    rw [Nat.mod_eq_of_lt]
    rw [Nat.div_lt_iff_lt_mul (Nat.pow_pos (by decide)), Nat.mul_comm, ← Nat.pow_succ]
    rwa [show (nb n - 1).succ = nb n by omega]
  refine ⟨e, ?_⟩
  rw [e]
  have := Nat.div_pos h2 (Nat.pow_pos (by decide)); omega

theorem ref05_Len_g {n : Nat} (hn : nb n ≤ 16384) : ref05_Len.g (sOf n) = some ((bl n : Nat) : Int) := by
  unfold ref05_Len.g
  rw [ref05_May_g (by omega), Option.bind_some, decide_eq_true hn]
  simp only [emptyS, strEq_sOf, size_sOf]
  by_cases h0 : n = 0
  · subst h0; rfl
  · have hp : 0 < nb n := by
      have : nb n ≠ 0 := fun h => h0 (nb_eq_zero.1 h)
      omega
    rw [decide_eq_false h0, Bool.not_true, cond_false, cond_false, decide_eq_true (by omega : (0 : Int) < ((nb n : Nat) : Int))]
    have hb := byte_sOf (n := n) (i := nb n - 1) (by omega)
    rw [show nb n - 1 - (nb n - 1) = 0 by omega] at hb
    rw [hb]
    simp only [Bool.and_self, cond_true]
    have hd := dg_lt n (nb n - 1)
    obtain ⟨e, e0⟩ := top_digit h0
    rw [u8_ofNat hd, wrap_u64 (by omega) (by omega), ref01_Len_g (by omega), Option.bind_some]
    have hb8 : bl (dg n (nb n - 1)) ≤ 8 := bl_le_iff.2 hd
    rw [wrap_i64 (x := ((nb n : Nat) : Int) - 1) (by omega) (by omega), wrap_i64 (x := 8 * (((nb n : Nat) : Int) - 1)) (by omega) (by omega), wrap_i64 (by omega) (by omega)]
    have := bl_div_pow n (8 * (nb n - 1))
    rw [← p256, ← e] at this
    have hpos := bl_pos e0
    congr 1
    omega

theorem ref05_Cmp_g {a b : Nat} (ha : nb a ≤ 1000000) (hb : nb b ≤ 1000000) : ref05_Cmp.g (sOf a) (sOf b) = some (cmpN a b) := by
  unfold ref05_Cmp.g cmpN
  simp only [size_sOf, strEq_sOf]
  by_cases h : nb a = nb b
  · rw [show (((nb a : Nat) : Int) == ((nb b : Nat) : Int)) = true by rw [h]; simp, Bool.not_true, cond_false, strLt_sOf h]
    rcases Nat.lt_trichotomy a b with h1 | h1 | h1
    · rw [decide_eq_true h1, cond_true, if_pos h1]
    · subst h1; simp
    · rw [decide_eq_false (by omega : ¬ a < b), decide_eq_false (by omega : ¬ a = b), if_neg (by omega), if_pos h1]; rfl
  · rw [show (((nb a : Nat) : Int) == ((nb b : Nat) : Int)) = false by rw [beq_eq_false_iff_ne]; omega, Bool.not_false, cond_true]
    by_cases h1 : nb a < nb b
    · have : a < b := by
        have := lt_nb a
        have := lt_nb_iff.1 h1
        omega
      rw [decide_eq_true (by omega : ((nb a : Nat) : Int) < ((nb b : Nat) : Int)), cond_true, if_pos this]
    · have : b < a := by
        have := lt_nb b
        have := lt_nb_iff.1 (by omega : nb b < nb a)
        omega
      rw [decide_eq_false (by omega : ¬ ((nb a : Nat) : Int) < ((nb b : Nat) : Int)), cond_false, if_neg (by omega), if_pos this]

theorem div_dg (x i : Nat) : x / 256 ^ i = 256 * (x / 256 ^ (i + 1)) + dg x i := by
  unfold dg
  rw [Nat.pow_succ, ← Nat.div_div_eq_div_mul]
  omega
theorem mod_dg (x i : Nat) : x % 256 ^ (i + 1) = x % 256 ^ i + 256 ^ i * dg x i := by
  unfold dg
  rw [Nat.pow_succ, Nat.mod_mul]

theorem u8_nat (x : Nat) : IntKind.u8.wrap ((x : Nat) : Int) = ((x % 256 : Nat) : Int) := by
  rw [wrap_u8_mod]; omega
theorem shr8 (x : Nat) : shrI .i64 (x : Int) (8 : Int) = ((x / 256 : Nat) : Int) := by
  rw [show (8 : Int) = ((8 : Nat) : Int) from rfl, shr_i64]
  rfl

/-! ### sums -/
theorem ref05_add_loop {R : Type} (N : Nat) (x4 : ByteArray) (c6 : Nat) {a b L : Nat} (hL : L ≤ 100000) (ha : nb a ≤ L) (hb : nb b ≤ L) (k0 : Int → Int → List Int → Option R) : ∀ (d i n v c : Nat), d + i = L + 1 → d < n → v < 256 ^ i → c ≤ 1 → v + 256 ^ i * (c + a / 256 ^ i + b / 256 ^ i) = a + b →
    ref05_add.l0 N (sOf a) (sOf b) x4 (L : Int) (L + 1) c6 k0 n (c : Int) (i : Int) (dl (L + 1) v) = k0 0 ((L + 1 : Nat) : Int) (dl (L + 1) (a + b))
  | 0, i, n + 1, v, c, hd, _, hv, hc, hT => by
    obtain rfl : i = L + 1 := by omega
    unfold ref05_add.l0 ref05_add.b0
    rw [decide_eq_false (by omega : ¬ ((L + 1 : Nat) : Int) ≤ (L : Int)), cond_false]
    have h1 := nb_le_iff.1 ha
    have h2 := nb_le_iff.1 hb
    have h3 : (256 : Nat) ^ (L + 1) = 256 ^ L * 256 := Nat.pow_succ _ _
    rw [Nat.div_eq_of_lt (by omega), Nat.div_eq_of_lt (by omega)] at hT
    have : c = 0 := by
      have : c = 0 ∨ c = 1 := by omega
      rcases this with h | h
      · exact h
      · subst h; omega
    subst this
    rw [show v = a + b by omega]
    rfl
  | d + 1, i, n + 1, v, c, hd, hn, hv, hc, hT => by
    have da := dg_lt a i
    have db := dg_lt b i
    rw [div_dg a i, div_dg b i] at hT
    have h3 : (256 : Nat) ^ (i + 1) = 256 ^ i * 256 := Nat.pow_succ _ _
    have hlt : v + (c + dg a i + dg b i) % 256 * 256 ^ i < 256 ^ (i + 1) := by
      have : (c + dg a i + dg b i) % 256 * 256 ^ i ≤ 255 * 256 ^ i := Nat.mul_le_mul_right _ (by omega)
      omega
    have ih := ref05_add_loop N x4 c6 hL ha hb k0 d (i + 1) n (v + (c + dg a i + dg b i) % 256 * 256 ^ i) ((c + dg a i + dg b i) / 256) (by omega) (by omega) hlt (by omega) (by
      rw [← hT]
      generalize a / 256 ^ (i + 1) = A
      generalize b / 256 ^ (i + 1) = B
      rw [h3]
      generalize 256 ^ i = P
      have e : c + dg a i + dg b i = (c + dg a i + dg b i) % 256 + 256 * ((c + dg a i + dg b i) / 256) := (Nat.mod_add_div _ _).symm
      generalize (c + dg a i + dg b i) % 256 = m at *
      generalize (c + dg a i + dg b i) / 256 = q at *
      have : c + (256 * A + dg a i) + (256 * B + dg b i) = m + 256 * (q + A + B) := by omega
      rw [this, Nat.mul_add P m, Nat.mul_comm m P, Nat.mul_assoc P 256, Nat.add_assoc])
    unfold ref05_add.l0 ref05_add.b0
    dsimp only
    rw [decide_eq_true (by omega : (i : Int) ≤ (L : Int)), cond_true, ref05_at_g (by omega) (by omega), Option.bind_some, ref05_at_g (by omega) (by omega), Option.bind_some, decide_eq_true (by omega : (0 : Int) ≤ (i : Int)), decide_eq_true (by omega : (i : Int) < ((L + 1 : Nat) : Int)), Int.toNat_natCast, dl_length, Nat.ble_eq_true_of_le (by omega)]
    simp only [Bool.and_self, cond_true]
    rw [wrap_i64 (x := (c : Int) + ((dg a i : Nat) : Int)) (by omega) (by omega), wrap_i64 (x := (c : Int) + ((dg a i : Nat) : Int) + ((dg b i : Nat) : Int)) (by omega) (by omega),
      show (c : Int) + ((dg a i : Nat) : Int) + ((dg b i : Nat) : Int) = ((c + dg a i + dg b i : Nat) : Int) by omega, shr8, u8_nat, i64_succ i (by omega), dl_set_low hv (Nat.mod_lt _ (by decide))]
    exact ih

theorem ref05_add_g {a b : Nat} (ha : nb a ≤ 50000) (hb : nb b ≤ 50000) : ref05_add.g (sOf a) (sOf b) = some (sOf (a + b)) := by
  have hsum : a + b < 256 ^ (max (nb a) (nb b) + 1) := by
    have h1 := nb_le_iff.1 (Nat.le_max_left (nb a) (nb b))
    have h2 := nb_le_iff.1 (Nat.le_max_right (nb a) (nb b))
    rw [Nat.pow_succ]
    omega
  have key : ∀ L : Nat, L = max (nb a) (nb b) → ref05_add.l0 fuel (sOf a) (sOf b) (sOf 0) (L : Int) (IntKind.i64.wrap ((L : Int) + (1 : Int))).toNat (IntKind.i64.wrap ((L : Int) + (1 : Int))).toNat (fun (x7 x8 : Int) (m13 : List Int) => (ref05_fit.g (IntKind.i64.wrap ((L : Int) + (1 : Int))).toNat (IntKind.i64.wrap ((L : Int) + (1 : Int))).toNat m13).bind fun (r : ByteArray) => some r) fuel (0 : Int) (0 : Int) (List.replicate (IntKind.i64.wrap ((L : Int) + (1 : Int))).toNat (0 : Int)) = some (sOf (a + b)) := by
    intro L hL
    have hL2 : L ≤ 50000 := by omega
    rw [i64_succ L (by omega), Int.toNat_natCast, dl_zero]
    have := ref05_add_loop fuel (sOf 0) (L + 1) (a := a) (b := b) (L := L) (by omega) (by omega) (by omega) (fun (x7 x8 : Int) (m13 : List Int) => (ref05_fit.g (L + 1) (L + 1) m13).bind fun (r : ByteArray) => some r) (L + 1) 0 fuel 0 0 rfl (by unfold fuel; omega) (by decide) (by decide) (by simp)
    refine this.trans ?_
    rw [ref05_fit_g (by rw [hL]; exact hsum) (by omega)]
    rfl
  unfold ref05_add.g ref05_add.f
  simp only [emptyS, size_sOf]
  by_cases h : nb a < nb b
  · rw [decide_eq_true (by omega : ((nb a : Nat) : Int) < ((nb b : Nat) : Int)), cond_true]
    have := key (nb b) (by omega)
    rw [i64_succ (nb b) (by omega)] at this ⊢
    rw [mk_okT (by omega), cond_true]
    exact this
  · rw [decide_eq_false (by omega : ¬ ((nb a : Nat) : Int) < ((nb b : Nat) : Int)), cond_false]
    have := key (nb a) (by omega)
    rw [i64_succ (nb a) (by omega)] at this ⊢
    rw [mk_okT (by omega), cond_true]
    exact this

theorem ref05_long_g {n : Nat} : ref05_long.g (sOf n) = if nb n ≤ 16384 then some (sOf n, 0) else some (sOf 0, 4) := by
  unfold ref05_long.g
  simp only [emptyS, size_sOf, Bool.cond_decide]
  by_cases h : nb n ≤ 16384
  · rw [if_neg (by omega), if_pos h]
  · rw [if_pos (by omega), if_neg h]
theorem ref05_Add_g {a b : Nat} (h : nb (a + b) ≤ 16384) : ref05_Add.g (sOf a) (sOf b) = some (sOf (a + b), 0) := by
  unfold ref05_Add.g
  have h1 : nb a ≤ nb (a + b) := nb_mono (Nat.le_add_right _ _)
  have h2 : nb b ≤ nb (a + b) := nb_mono (Nat.le_add_left _ _)
  rw [ref05_add_g (by omega) (by omega), Option.bind_some, ref05_long_g, if_pos h]
  rfl

/-! ### differences -/
theorem ref05_sub_loop {R : Type} (N : Nat) (x4 : ByteArray) (c5 : Nat) {a b L : Nat} (hL : L ≤ 100000) (ha : nb a = L) (hab : b ≤ a) (k0 : Int → Int → List Int → Option R) : ∀ (d i n v c : Nat), d + i = L → d < n → v < 256 ^ i → c ≤ 1 → (a - b) + 256 ^ i * (c + b / 256 ^ i) = v + 256 ^ i * (a / 256 ^ i) →
    ref05_sub.l0 N (sOf a) (sOf b) x4 L c5 k0 n (c : Int) (i : Int) (dl L v) = k0 0 (L : Int) (dl L (a - b))
  | 0, i, n + 1, v, c, hd, _, hv, hc, hT => by
    obtain rfl : i = L := by omega
    unfold ref05_sub.l0 ref05_sub.b0
    rw [size_sOf, ha, decide_eq_false (by omega : ¬ (i : Int) < (i : Int)), cond_false]
    have h1 := nb_le_iff.1 (Nat.le_of_eq ha)
    rw [Nat.div_eq_of_lt (by omega), Nat.div_eq_of_lt h1] at hT
    have : c = 0 := by
      have : c = 0 ∨ c = 1 := by omega
      rcases this with h | h
      · exact h
      · subst h; omega
    subst this
    rw [show v = a - b by omega]
    rfl
  | d + 1, i, n + 1, v, c, hd, hn, hv, hc, hT => by
    have da := dg_lt a i
    have db := dg_lt b i
    have hbL : nb b ≤ L := by rw [← ha]; exact nb_mono hab
    rw [div_dg a i, div_dg b i] at hT
    have h3 : (256 : Nat) ^ (i + 1) = 256 ^ i * 256 := Nat.pow_succ _ _
    have step : ∀ (m q : Nat), m < 256 → q ≤ 1 → dg a i + 256 * q = m + dg b i + c → ref05_sub.l0 N (sOf a) (sOf b) x4 L c5 k0 n (q : Int) ((i + 1 : Nat) : Int) (setL 0 i (m : Int) (dl L v)) = k0 0 (L : Int) (dl L (a - b)) := by
      intro m q hm hq e
      rw [dl_set_low hv hm]
      refine ref05_sub_loop N x4 c5 hL ha hab k0 d (i + 1) n (v + m * 256 ^ i) q (by omega) (by omega) ?_ hq ?_
      · have : m * 256 ^ i ≤ 255 * 256 ^ i := Nat.mul_le_mul_right _ (by omega)
        omega
      · generalize a / 256 ^ (i + 1) = A at hT ⊢
        generalize b / 256 ^ (i + 1) = B at hT ⊢
        rw [h3]
        generalize 256 ^ i = P at hT ⊢
        simp only [Nat.mul_add] at hT ⊢
        have e2 : P * dg a i + P * (256 * q) = P * m + P * dg b i + P * c := by rw [← Nat.mul_add, e, Nat.mul_add, Nat.mul_add]
        rw [Nat.mul_comm m P, Nat.mul_assoc, Nat.mul_assoc, Nat.mul_assoc]
        omega
    unfold ref05_sub.l0 ref05_sub.b0
    dsimp only
    rw [size_sOf, ha, decide_eq_true (by omega : (i : Int) < (L : Int)), cond_true, ref05_at_g (by omega) (by omega), Option.bind_some, ref05_at_g (by omega) (by omega), Option.bind_some, decide_eq_true (by omega : (0 : Int) ≤ (i : Int)), Int.toNat_natCast, dl_length, Nat.ble_eq_true_of_le (by omega)]
    simp only [Bool.and_self, cond_true]
    rw [wrap_i64 (x := ((dg a i : Nat) : Int) - ((dg b i : Nat) : Int)) (by omega) (by omega), wrap_i64 (x := ((dg a i : Nat) : Int) - ((dg b i : Nat) : Int) - (c : Int)) (by omega) (by omega), i64_succ i (by omega)]
    by_cases hneg : dg a i < dg b i + c
    · rw [decide_eq_true (by omega : ((dg a i : Nat) : Int) - ((dg b i : Nat) : Int) - (c : Int) < 0), cond_true, wrap_u8_mod, show (((dg a i : Nat) : Int) - ((dg b i : Nat) : Int) - (c : Int)) % 256 = ((dg a i + 256 - dg b i - c : Nat) : Int) by omega]
      exact step _ 1 (by omega) (by omega) (by omega)
    · rw [decide_eq_false (by omega : ¬ ((dg a i : Nat) : Int) - ((dg b i : Nat) : Int) - (c : Int) < 0), cond_false, wrap_u8_mod, show (((dg a i : Nat) : Int) - ((dg b i : Nat) : Int) - (c : Int)) % 256 = ((dg a i - dg b i - c : Nat) : Int) by omega]
      exact step _ 0 (by omega) (by omega) (by omega)

theorem ref05_sub_g {a b : Nat} (ha : nb a ≤ 50000) (hab : b ≤ a) : ref05_sub.g (sOf a) (sOf b) = some (sOf (a - b)) := by
  unfold ref05_sub.g ref05_sub.f
  simp only [emptyS, size_sOf]
  rw [mk_okT (by omega), cond_true, Int.toNat_natCast, dl_zero]
  have := ref05_sub_loop fuel (sOf 0) (nb a) (a := a) (b := b) (by omega) rfl hab (fun (x6 x7 : Int) (m3 : List Int) => (ref05_fit.g (nb a) (nb a) m3).bind fun (r : ByteArray) => some r) (nb a) 0 fuel 0 0 rfl (by unfold fuel; omega) (by decide) (by decide) (by simp; omega)
  refine this.trans ?_
  have h1 := lt_nb a
  rw [ref05_fit_g (by omega) (by omega)]
  rfl
/-! ### twice, and one more -/
theorem ref05_double_loop {R : Type} (N : Nat) (x4 : ByteArray) (c5 : Nat) {a o L : Nat} (hL : L ≤ 100000) (ha : nb a = L) (k0 : Int → Int → List Int → Option R) : ∀ (d i n v c : Nat), d + i = L + 1 → d < n → v < 256 ^ i → c ≤ 1 → v + 256 ^ i * (c + 2 * (a / 256 ^ i)) = 2 * a + o →
    ref05_double.l0 N (sOf a) x4 (L + 1) c5 k0 n (c : Int) (i : Int) (dl (L + 1) v) = k0 ((2 * a + o) / 256 ^ (L + 1) : Nat) ((L + 1 : Nat) : Int) (dl (L + 1) ((2 * a + o) % 256 ^ (L + 1)))
  | 0, i, n + 1, v, c, hd, _, hv, hc, hT => by
    obtain rfl : i = L + 1 := by omega
    unfold ref05_double.l0 ref05_double.b0
    rw [size_sOf, ha, decide_eq_false (by omega : ¬ ((L + 1 : Nat) : Int) ≤ (L : Int)), cond_false]
    have h1 := nb_le_iff.1 (Nat.le_of_eq ha)
    have h3 : (256 : Nat) ^ (L + 1) = 256 ^ L * 256 := Nat.pow_succ _ _
    rw [Nat.div_eq_of_lt (by omega)] at hT
    rw [← hT, Nat.mul_zero, Nat.add_zero, Nat.add_mul_div_left _ _ (Nat.pow_pos (by decide)), Nat.div_eq_of_lt hv, Nat.zero_add, Nat.add_mul_mod_self_left, Nat.mod_eq_of_lt hv]
    rfl
  | d + 1, i, n + 1, v, c, hd, hn, hv, hc, hT => by
    have da := dg_lt a i
    rw [div_dg a i] at hT
    have h3 : (256 : Nat) ^ (i + 1) = 256 ^ i * 256 := Nat.pow_succ _ _
    have hlt : v + (c + 2 * dg a i) % 256 * 256 ^ i < 256 ^ (i + 1) := by
      have : (c + 2 * dg a i) % 256 * 256 ^ i ≤ 255 * 256 ^ i := Nat.mul_le_mul_right _ (by omega)
      omega
    have ih := ref05_double_loop N x4 c5 (o := o) hL ha k0 d (i + 1) n (v + (c + 2 * dg a i) % 256 * 256 ^ i) ((c + 2 * dg a i) / 256) (by omega) (by omega) hlt (by omega) (by
      rw [← hT]
      generalize a / 256 ^ (i + 1) = A
      rw [h3]
      generalize 256 ^ i = P
      have e : c + 2 * dg a i = (c + 2 * dg a i) % 256 + 256 * ((c + 2 * dg a i) / 256) := (Nat.mod_add_div _ _).symm
      generalize (c + 2 * dg a i) % 256 = m at *
      generalize (c + 2 * dg a i) / 256 = q at *
      have : c + 2 * (256 * A + dg a i) = m + 256 * (q + 2 * A) := by omega
      rw [this, Nat.mul_add P m, Nat.mul_comm m P, Nat.mul_assoc P 256, Nat.add_assoc])
    unfold ref05_double.l0 ref05_double.b0
    dsimp only
    rw [size_sOf, ha, decide_eq_true (by omega : (i : Int) ≤ (L : Int)), cond_true, ref05_at_g (by omega) (by omega), Option.bind_some, decide_eq_true (by omega : (0 : Int) ≤ (i : Int)), decide_eq_true (by omega : (i : Int) < ((L + 1 : Nat) : Int)), Int.toNat_natCast, dl_length, Nat.ble_eq_true_of_le (by omega)]
    simp only [Bool.and_self, cond_true]
    rw [wrap_i64 (x := 2 * ((dg a i : Nat) : Int)) (by omega) (by omega), wrap_i64 (x := (c : Int) + 2 * ((dg a i : Nat) : Int)) (by omega) (by omega),
      show (c : Int) + 2 * ((dg a i : Nat) : Int) = ((c + 2 * dg a i : Nat) : Int) by omega, shr8, u8_nat, i64_succ i (by omega), dl_set_low hv (Nat.mod_lt _ (by decide))]
    exact ih
theorem ref05_double_g {a o : Nat} (ha : nb a ≤ 50000) (ho : o ≤ 1) : ref05_double.g (sOf a) (o : Int) = some (sOf (2 * a + o)) := by
  unfold ref05_double.g ref05_double.f
  simp only [emptyS, size_sOf]
  rw [i64_succ (nb a) (by omega), mk_okT (by omega), cond_true, Int.toNat_natCast, dl_zero]
  have := ref05_double_loop fuel (sOf 0) (nb a + 1) (a := a) (o := o) (by omega) rfl (fun (x6 x7 : Int) (m4 : List Int) => (ref05_fit.g (nb a + 1) (nb a + 1) m4).bind fun (r : ByteArray) => some r) (nb a + 1) 0 fuel 0 o rfl (by unfold fuel; omega) (by decide) ho (by simp; omega)
  refine this.trans ?_
  have h1 := lt_nb a
  have h3 : 2 * a + o < 256 ^ (nb a + 1) := by rw [Nat.pow_succ]; omega
  rw [Nat.mod_eq_of_lt h3, ref05_fit_g h3 (by omega)]
  rfl

/-! ### bits -/
theorem ref05_bit_g {a : Nat} (ha : nb a ≤ 1000000) {i : Nat} (hi : i ≤ 1000000) : ref05_bit.g (sOf a) (i : Int) = some ((a / 2 ^ i % 2 : Nat) : Int) := by
  unfold ref05_bit.g
  rw [show (8 : Int) = ((8 : Nat) : Int) from rfl, div_nat, mod_nat, wrap_i64 (by omega) (by omega), ref05_at_g ha (by omega), Option.bind_some, wrap_u64 (by omega) (by omega), shr_i64, Nat.min_eq_left (by omega), show (1 : Int) = ((1 : Nat) : Int) from rfl,
    and_i64 (Nat.lt_of_le_of_lt (Nat.div_le_self _ _) (Nat.lt_trans (dg_lt a (i / 8)) (by decide))) (by decide), Nat.and_one_is_mod]
  congr 2
  unfold dg
  have e : (256 : Nat) = 2 ^ (i % 8) * 2 ^ (8 - i % 8) := by rw [← Nat.pow_add, show i % 8 + (8 - i % 8) = 8 by omega]
  have e2 : (2 : Nat) ^ i = 256 ^ (i / 8) * 2 ^ (i % 8) := by rw [p256, ← Nat.pow_add, show 8 * (i / 8) + i % 8 = i by omega]
  rw [e2, ← Nat.div_div_eq_div_mul]
  generalize a / 256 ^ (i / 8) = y
  rw (occs := .pos [1]) [e]
  rw [Nat.mod_mul_right_div_self, Nat.mod_mod_of_dvd _ (by
    obtain ⟨k, hk⟩ : ∃ k, 8 - i % 8 = k + 1 := ⟨8 - i % 8 - 1, by omega⟩
    rw [hk, Nat.pow_succ]; exact ⟨2 ^ k, Nat.mul_comm _ _⟩)]

end Go.Proofs.YtnfbcofieobkkaaDoor
