/- What the layers of words and of numbers of 384 bits compute, the program's and the document's. -/
import Derived.Test.YtnfbcofieobkkaaDoorM0
import Derived.Test.YtnfbcofieobkkaaDoorPW
namespace Go.Proofs.YtnfbcofieobkkaaDoor
open Go Go.Proofs Ev
set_option linter.unusedVariables false
set_option exponentiation.threshold 512
set_option linter.unusedSimpArgs false

theorem of_w0 (n : Nat) : (W6.of n).w0 = ((wd n 0 : Nat) : Int) := rfl
theorem of_w1 (n : Nat) : (W6.of n).w1 = ((wd n 1 : Nat) : Int) := rfl
theorem of_w2 (n : Nat) : (W6.of n).w2 = ((wd n 2 : Nat) : Int) := rfl
theorem of_w3 (n : Nat) : (W6.of n).w3 = ((wd n 3 : Nat) : Int) := rfl
theorem of_w4 (n : Nat) : (W6.of n).w4 = ((wd n 4 : Nat) : Int) := rfl
theorem of_w5 (n : Nat) : (W6.of n).w5 = ((wd n 5 : Nat) : Int) := rfl
theorem zeroW : ({ w0 := (0 : Int), w1 := (0 : Int), w2 := (0 : Int), w3 := (0 : Int), w4 := (0 : Int), w5 := (0 : Int) : W6 }) = W6.of 0 := by
  simp [W6.of, wd]

theorem maxI_eq (x y : Int) : maxI x y = max x y := by
  unfold maxI; omega
theorem minI_eq (x y : Int) : minI x y = min x y := by
  unfold minI; omega

/-! ### words -/
theorem word_count_g (n : Int) : word_count.g n = some ((min n.toNat 64 : Nat) : Int) := by
  unfold word_count.g
  rw [maxI_eq, minI_eq, wrap_u64 (by omega) (by omega)]
  congr 1
  omega
theorem word_one_g (c : Bool) : word_one.g c = some ((c.toNat : Nat) : Int) := by
  cases c <;> rfl
theorem word_Add_g {a b : Nat} (ha : a < 18446744073709551616) (hb : b < 18446744073709551616) (c : Bool) : word_Add.g (a : Int) (b : Int) c = some ((((a + b + c.toNat) % 18446744073709551616 : Nat) : Int), decide (18446744073709551616 ≤ a + b + c.toNat)) := by
  unfold word_Add.g
  simp only [word_one_g, Option.bind_some, wrap_u64_mod, Bool.cond_decide]
  have hc := c.toNat_le
  split
  · refine congrArg some (Prod.ext ?_ ?_)
    · show _ = (((a + b + c.toNat) % 18446744073709551616 : Nat) : Int)
      omega
    · exact (decide_eq_true (by omega)).symm
  · cases c
    · refine congrArg some (Prod.ext ?_ ?_)
      · show _ = (((a + b + Bool.toNat false) % 18446744073709551616 : Nat) : Int)
        simp only [Bool.toNat_false]
        omega
      · exact (decide_eq_false (by simp only [Bool.toNat_false]; omega)).symm
    · refine congrArg some (Prod.ext ?_ ?_)
      · show _ = (((a + b + Bool.toNat true) % 18446744073709551616 : Nat) : Int)
        simp only [Bool.toNat_true]
        omega
      · show (_ == (0 : Int)) = decide (18446744073709551616 ≤ a + b + Bool.toNat true)
        rw [Bool.eq_iff_iff]
        simp only [Bool.toNat_true, beq_iff_eq, decide_eq_true_eq]
        omega
theorem word_Sub_g {a b : Nat} (ha : a < 18446744073709551616) (hb : b < 18446744073709551616) (c : Bool) : word_Sub.g (a : Int) (b : Int) c = some ((((a + 18446744073709551616 - b - c.toNat) % 18446744073709551616 : Nat) : Int), decide (a < b + c.toNat)) := by
  unfold word_Sub.g
  simp only [word_one_g, Option.bind_some, wrap_u64_mod, Bool.cond_decide]
  have hc := c.toNat_le
  have e : ((((a : Int) - b) % 18446744073709551616 - c.toNat) % 18446744073709551616) = (((a + 18446744073709551616 - b - c.toNat) % 18446744073709551616 : Nat) : Int) := by omega
  rw [e]
  split
  · rw [decide_eq_true (show a < b + c.toNat by omega)]
  · by_cases h : a = b
    · subst h
      rw [show ((a : Int) == (a : Int)) = true by simp, cond_true]
      congr 2
      cases c <;> simp
    · rw [show ((a : Int) == (b : Int)) = false by rw [beq_eq_false_iff_ne]; omega, cond_false, decide_eq_false (show ¬ a < b + c.toNat by omega)]
theorem word_Len_g {x : Nat} (h : x < 18446744073709551616) : word_Len.g (x : Int) = some ((bl x : Nat) : Int) := by
  unfold word_Len.g math_bits_Len64.g
  rw [Option.bind_some, Int.toNat_natCast, bitLen_bl h]
theorem word_Low_g {x : Nat} (h0 : x ≠ 0) (h : x < 18446744073709551616) : word_Low.g (x : Int) = some ((tz x : Nat) : Int) := by
  unfold word_Low.g math_bits_TrailingZeros64.g
  rw [Option.bind_some, Int.toNat_natCast, ctz_tz h0 h]
theorem word_Mul_g (a b : Nat) : word_Mul.g (a : Int) (b : Int) = some (((a * b / 18446744073709551616 : Nat) : Int), ((a * b % 18446744073709551616 : Nat) : Int)) := by
  unfold word_Mul.g math_bits_Mul64.g
  simp only [Option.bind_some, Int.toNat_natCast]
theorem word_Mask_g (n : Int) : word_Mask.g n = some ((2 ^ (min n.toNat 64) - 1 : Nat) : Int) := by
  unfold word_Mask.g
  rw [word_count_g, Option.bind_some, show (1 : Int) = ((1 : Nat) : Int) from rfl, shl_u64, Nat.one_mul, wrap_u64_mod, Nat.min_eq_left (Nat.min_le_right _ _)]
  have h1 : (2 : Nat) ^ (min n.toNat 64) ≤ 2 ^ 64 := Nat.pow_le_pow_right (by decide) (Nat.min_le_right _ _)
  have h2 : 0 < (2 : Nat) ^ (min n.toNat 64) := Nat.pow_pos (by decide)
  generalize (2 : Nat) ^ (min n.toNat 64) = q at h1 h2
  congr 1
  omega

/-! ### wide: sums, order -/
theorem carry {s : Nat} (h : s < 36893488147419103232) : s = s % 18446744073709551616 + 18446744073709551616 * (decide (18446744073709551616 ≤ s)).toNat := by
  by_cases hs : 18446744073709551616 ≤ s
  · rw [decide_eq_true hs]; simp only [Bool.toNat_true]; omega
  · rw [decide_eq_false hs]; simp only [Bool.toNat_false]; omega

theorem sum6 {x0 x1 x2 x3 x4 x5 y0 y1 y2 y3 y4 y5 r0 r1 r2 r3 r4 r5 c1 c2 c3 c4 c5 c6 : Nat} (e0 : x0 + y0 + false.toNat = r0 + 18446744073709551616 * c1) (e1 : x1 + y1 + c1 = r1 + 18446744073709551616 * c2) (e2 : x2 + y2 + c2 = r2 + 18446744073709551616 * c3) (e3 : x3 + y3 + c3 = r3 + 18446744073709551616 * c4) (e4 : x4 + y4 + c4 = r4 + 18446744073709551616 * c5) (e5 : x5 + y5 + c5 = r5 + 18446744073709551616 * c6) :
    (x0 + 2 ^ 64 * x1 + 2 ^ 128 * x2 + 2 ^ 192 * x3 + 2 ^ 256 * x4 + 2 ^ 320 * x5) + (y0 + 2 ^ 64 * y1 + 2 ^ 128 * y2 + 2 ^ 192 * y3 + 2 ^ 256 * y4 + 2 ^ 320 * y5) = r0 + 2 ^ 64 * r1 + 2 ^ 128 * r2 + 2 ^ 192 * r3 + 2 ^ 256 * r4 + 2 ^ 320 * r5 + 2 ^ 384 * c6 := by
  simp only [Bool.toNat_false] at e0
  omega
theorem six_lt {r0 r1 r2 r3 r4 r5 : Nat} (h0 : r0 < 18446744073709551616) (h1 : r1 < 18446744073709551616) (h2 : r2 < 18446744073709551616) (h3 : r3 < 18446744073709551616) (h4 : r4 < 18446744073709551616) (h5 : r5 < 18446744073709551616) : r0 + 2 ^ 64 * r1 + 2 ^ 128 * r2 + 2 ^ 192 * r3 + 2 ^ 256 * r4 + 2 ^ 320 * r5 < 2 ^ 384 := by
  omega
theorem dec6 {n r : Nat} {c : Bool} (h : n = r + 2 ^ 384 * c.toNat) (hr : r < 2 ^ 384) : c = decide (2 ^ 384 ≤ n) := by
  cases c
  · rw [Bool.toNat_false, Nat.mul_zero, Nat.add_zero] at h
    exact (decide_eq_false (by rw [h]; exact Nat.not_le_of_lt hr)).symm
  · rw [Bool.toNat_true, Nat.mul_one] at h
    exact (decide_eq_true (by rw [h]; exact Nat.le_add_left _ _)).symm

theorem add_chain (A : Int → Int → Bool → Option (Int × Bool)) (hS : ∀ x y : Nat, x < 18446744073709551616 → y < 18446744073709551616 → ∀ c, A (x : Int) (y : Int) c = some ((((x + y + c.toNat) % 18446744073709551616 : Nat) : Int), decide (18446744073709551616 ≤ x + y + c.toNat))) {a b : Nat} (ha : a < 2 ^ 384) (hb : b < 2 ^ 384) :
    ((A (W6.of a).w0 (W6.of b).w0 false).bind fun (r : Int × Bool) => (A (W6.of a).w1 (W6.of b).w1 r.snd).bind fun (r_1 : Int × Bool) => (A (W6.of a).w2 (W6.of b).w2 r_1.snd).bind fun (r_2 : Int × Bool) => (A (W6.of a).w3 (W6.of b).w3 r_2.snd).bind fun (r_3 : Int × Bool) => (A (W6.of a).w4 (W6.of b).w4 r_3.snd).bind fun (r_4 : Int × Bool) => (A (W6.of a).w5 (W6.of b).w5 r_4.snd).bind fun (r_5 : Int × Bool) => some ({ w0 := r.fst, w1 := r_1.fst, w2 := r_2.fst, w3 := r_3.fst, w4 := r_4.fst, w5 := r_5.fst : W6 }, r_5.snd)) = some (W6.of (a + b), decide (2 ^ 384 ≤ a + b)) := by
  simp only [of_w0, of_w1, of_w2, of_w3, of_w4, of_w5, hS _ _ (wd_lt a _) (wd_lt b _), Option.bind_some]
  have bound : ∀ i (c : Bool), wd a i + wd b i + c.toNat < 36893488147419103232 := by
    intro i c
    have h1 := wd_lt a i
    have h2 := wd_lt b i
    have h3 := c.toNat_le
    omega
  have e0 := carry (bound 0 false)
  have e1 := carry (bound 1 (decide (18446744073709551616 ≤ wd a 0 + wd b 0 + false.toNat)))
  have e2 := carry (bound 2 (decide (18446744073709551616 ≤ wd a 1 + wd b 1 + (decide (18446744073709551616 ≤ wd a 0 + wd b 0 + false.toNat)).toNat)))
  have e3 := carry (bound 3 (decide (18446744073709551616 ≤ wd a 2 + wd b 2 + (decide (18446744073709551616 ≤ wd a 1 + wd b 1 + (decide (18446744073709551616 ≤ wd a 0 + wd b 0 + false.toNat)).toNat)).toNat)))
  have e4 := carry (bound 4 (decide (18446744073709551616 ≤ wd a 3 + wd b 3 + (decide (18446744073709551616 ≤ wd a 2 + wd b 2 + (decide (18446744073709551616 ≤ wd a 1 + wd b 1 + (decide (18446744073709551616 ≤ wd a 0 + wd b 0 + false.toNat)).toNat)).toNat)).toNat)))
  have e5 := carry (bound 5 (decide (18446744073709551616 ≤ wd a 4 + wd b 4 + (decide (18446744073709551616 ≤ wd a 3 + wd b 3 + (decide (18446744073709551616 ≤ wd a 2 + wd b 2 + (decide (18446744073709551616 ≤ wd a 1 + wd b 1 + (decide (18446744073709551616 ≤ wd a 0 + wd b 0 + false.toNat)).toNat)).toNat)).toNat)).toNat)))
  have z : ∀ x, x % 18446744073709551616 < 18446744073709551616 := fun x => Nat.mod_lt _ (by decide)
  have S := sum6 e0 e1 e2 e3 e4 e5
  rw [← words_lt ha, ← words_lt hb] at S
  exact congrArg some (Prod.ext (of_words (z _) (z _) (z _) (z _) (z _) (z _) S).symm (dec6 S (six_lt (z _) (z _) (z _) (z _) (z _) (z _))))

theorem wide_Add_g {a b : Nat} (ha : a < 2 ^ 384) (hb : b < 2 ^ 384) : wide_Add.g (W6.of a) (W6.of b) = some (W6.of (a + b), decide (2 ^ 384 ≤ a + b)) :=
  add_chain word_Add.g (fun _ _ ha hb c => word_Add_g ha hb c) ha hb

theorem borrow {x y c : Nat} (hx : x < 18446744073709551616) (hy : y < 18446744073709551616) (hc : c ≤ 1) : x + 18446744073709551616 * (decide (x < y + c)).toNat = (x + 18446744073709551616 - y - c) % 18446744073709551616 + y + c := by
  by_cases h : x < y + c
  · rw [decide_eq_true h]; simp only [Bool.toNat_true]; omega
  · rw [decide_eq_false h]; simp only [Bool.toNat_false]; omega
theorem dif6 {x0 x1 x2 x3 x4 x5 y0 y1 y2 y3 y4 y5 r0 r1 r2 r3 r4 r5 c1 c2 c3 c4 c5 c6 : Nat} (e0 : x0 + 18446744073709551616 * c1 = r0 + y0 + false.toNat) (e1 : x1 + 18446744073709551616 * c2 = r1 + y1 + c1) (e2 : x2 + 18446744073709551616 * c3 = r2 + y2 + c2) (e3 : x3 + 18446744073709551616 * c4 = r3 + y3 + c3) (e4 : x4 + 18446744073709551616 * c5 = r4 + y4 + c4) (e5 : x5 + 18446744073709551616 * c6 = r5 + y5 + c5) :
    (x0 + 2 ^ 64 * x1 + 2 ^ 128 * x2 + 2 ^ 192 * x3 + 2 ^ 256 * x4 + 2 ^ 320 * x5) + 2 ^ 384 * c6 = (r0 + 2 ^ 64 * r1 + 2 ^ 128 * r2 + 2 ^ 192 * r3 + 2 ^ 256 * r4 + 2 ^ 320 * r5) + (y0 + 2 ^ 64 * y1 + 2 ^ 128 * y2 + 2 ^ 192 * y3 + 2 ^ 256 * y4 + 2 ^ 320 * y5) := by
  simp only [Bool.toNat_false] at e0
  omega
theorem bdec6 {M a b r : Nat} {c : Bool} (ha : a < M) (hb : b < M) (h : a + M * c.toNat = r + b) (hr : r < M) : c = decide (a < b) ∧ (a + M - b) % M = r := by
  cases c
  · rw [Bool.toNat_false, Nat.mul_zero, Nat.add_zero] at h
    refine ⟨(decide_eq_false (by omega)).symm, ?_⟩
    rw [show a + M - b = r + M by omega, Nat.add_mod_right, Nat.mod_eq_of_lt hr]
  · rw [Bool.toNat_true, Nat.mul_one] at h
    refine ⟨(decide_eq_true (by omega)).symm, ?_⟩
    rw [show a + M - b = r by omega, Nat.mod_eq_of_lt hr]

theorem wide_Sub_g {a b : Nat} (ha : a < 2 ^ 384) (hb : b < 2 ^ 384) : wide_Sub.g (W6.of a) (W6.of b) = some (W6.of ((a + 2 ^ 384 - b) % 2 ^ 384), decide (a < b)) := by
  unfold wide_Sub.g
  simp only [of_w0, of_w1, of_w2, of_w3, of_w4, of_w5, word_Sub_g (wd_lt a _) (wd_lt b _), Option.bind_some]
  have B : ∀ i (c : Bool), _ := fun i c => borrow (wd_lt a i) (wd_lt b i) c.toNat_le
  have z : ∀ x, x % 18446744073709551616 < 18446744073709551616 := fun x => Nat.mod_lt _ (by decide)
  have S := dif6 (B 0 false) (B 1 _) (B 2 _) (B 3 _) (B 4 _) (B 5 _)
  rw [← words_lt ha, ← words_lt hb] at S
  generalize hM : (2 : Nat) ^ 384 = M at ha hb S ⊢
  have K := bdec6 ha hb S (by rw [← hM]; exact six_lt (z _) (z _) (z _) (z _) (z _) (z _))
  exact congrArg some (Prod.ext (of_words (z _) (z _) (z _) (z _) (z _) (z _) (c := 0) (by rw [Nat.mul_zero, Nat.add_zero]; exact K.2)).symm K.1)

def cmpN (a b : Nat) : Int := if a < b then -1 else if b < a then 1 else 0
theorem cmp_step {M x y X Y : Nat} (hx : x < M) (hy : y < M) : (if X < Y then some (-1 : Int) else if Y < X then some (1 : Int) else some (cmpN x y)) = some (cmpN (x + M * X) (y + M * Y)) := by
  unfold cmpN
  rcases Nat.lt_trichotomy X Y with h | h | h
  · have : M * X + M ≤ M * Y := by rw [← Nat.mul_succ]; exact Nat.mul_le_mul_left _ h
    rw [if_pos h, if_pos (by omega)]
  · subst h
    rw [if_neg (Nat.lt_irrefl _), if_neg (Nat.lt_irrefl _)]
    congr 1
    rcases Nat.lt_trichotomy x y with h | h | h
    · rw [if_pos h, if_pos (by omega)]
    · subst h; rw [if_neg (Nat.lt_irrefl _), if_neg (Nat.lt_irrefl _), if_neg (Nat.lt_irrefl _), if_neg (Nat.lt_irrefl _)]
    · rw [if_neg (by omega), if_pos h, if_neg (by omega), if_pos (by omega)]
  · have : M * Y + M ≤ M * X := by rw [← Nat.mul_succ]; exact Nat.mul_le_mul_left _ h
    rw [if_neg (by omega), if_pos h, if_neg (by omega), if_pos (by omega)]
theorem up2 {x y : Nat} (hx : x < 18446744073709551616) (hy : y < 18446744073709551616) : x + 2 ^ 64 * y < 2 ^ 128 := by omega
theorem up3 {x y : Nat} (hx : x < 2 ^ 128) (hy : y < 18446744073709551616) : x + 2 ^ 128 * y < 2 ^ 192 := by omega
theorem up4 {x y : Nat} (hx : x < 2 ^ 192) (hy : y < 18446744073709551616) : x + 2 ^ 192 * y < 2 ^ 256 := by omega
theorem up5 {x y : Nat} (hx : x < 2 ^ 256) (hy : y < 18446744073709551616) : x + 2 ^ 256 * y < 2 ^ 320 := by omega
theorem wide_Cmp_g {a b : Nat} (ha : a < 2 ^ 384) (hb : b < 2 ^ 384) : wide_Cmp.g (W6.of a) (W6.of b) = some (cmpN a b) := by
  unfold wide_Cmp.g
  simp only [of_w0, of_w1, of_w2, of_w3, of_w4, of_w5, Bool.cond_decide, Int.ofNat_lt]
  rw [show (if wd a 0 < wd b 0 then some (-1 : Int) else if wd b 0 < wd a 0 then some (1 : Int) else some (0 : Int)) = some (cmpN (wd a 0) (wd b 0)) by
    unfold cmpN
    split
    · rfl
    · split <;> rfl]
  rw [cmp_step (wd_lt a 0) (wd_lt b 0), show (18446744073709551616 : Nat) = 2 ^ 64 from rfl]
  rw [cmp_step (M := 2 ^ 128) (up2 (wd_lt a 0) (wd_lt a 1)) (up2 (wd_lt b 0) (wd_lt b 1))]
  rw [cmp_step (M := 2 ^ 192) (up3 (up2 (wd_lt a 0) (wd_lt a 1)) (wd_lt a 2)) (up3 (up2 (wd_lt b 0) (wd_lt b 1)) (wd_lt b 2))]
  rw [cmp_step (M := 2 ^ 256) (up4 (up3 (up2 (wd_lt a 0) (wd_lt a 1)) (wd_lt a 2)) (wd_lt a 3)) (up4 (up3 (up2 (wd_lt b 0) (wd_lt b 1)) (wd_lt b 2)) (wd_lt b 3))]
  rw [cmp_step (M := 2 ^ 320) (up5 (up4 (up3 (up2 (wd_lt a 0) (wd_lt a 1)) (wd_lt a 2)) (wd_lt a 3)) (wd_lt a 4)) (up5 (up4 (up3 (up2 (wd_lt b 0) (wd_lt b 1)) (wd_lt b 2)) (wd_lt b 3)) (wd_lt b 4))]
  have hA := words_lt ha
  have hB := words_lt hb
  rw [← hA, ← hB]

/-! ### how long, and the lowest bit -/
theorem len_word {a i : Nat} (h : a < 2 ^ (64 * i + 64)) (h0 : wd a i ≠ 0) : bl a = 64 * i + bl (wd a i) := by
  have hd : a / 2 ^ (64 * i) < 18446744073709551616 := by
    rw [Nat.div_lt_iff_lt_mul (Nat.pow_pos (by decide)), show (18446744073709551616 : Nat) = 2 ^ 64 by rfl, ← Nat.pow_add, Nat.add_comm]; exact h
  have e : wd a i = a / 2 ^ (64 * i) := Nat.mod_eq_of_lt hd
  rw [e] at h0 ⊢
  rw [bl_div_pow]
  have := bl_pos h0
  rw [bl_div_pow] at this
  omega
theorem wd_zero_lt {a i : Nat} (h : a < 2 ^ (64 * i + 64)) (h0 : wd a i = 0) : a < 2 ^ (64 * i) := by
  have hd : a / 2 ^ (64 * i) < 18446744073709551616 := by
    rw [Nat.div_lt_iff_lt_mul (Nat.pow_pos (by decide)), show (18446744073709551616 : Nat) = 2 ^ 64 by rfl, ← Nat.pow_add, Nat.add_comm]; exact h
  have e : wd a i = a / 2 ^ (64 * i) := Nat.mod_eq_of_lt hd
  rw [e] at h0
  exact (Nat.div_eq_zero_iff_lt (Nat.pow_pos (by decide))).1 h0

theorem bne0 (x : Nat) : (!((x : Int) == (0 : Int))) = decide (x ≠ 0) := by
  by_cases h : x = 0
  · subst h; rfl
  · rw [decide_eq_true h]
    simpa using h

theorem len_chain {R : Type} (L : Int → Option Int) (hL : ∀ x : Nat, x ≠ 0 → x < 18446744073709551616 → L (x : Int) = some ((bl x : Nat) : Int)) {a : Nat} (ha : a < 2 ^ 384) :
    (bif !(W6.of a).w5 == (0 : Int) then (L (W6.of a).w5).bind fun (r : Int) => some (IntKind.i64.wrap ((320 : Int) + r)) else bif !(W6.of a).w4 == (0 : Int) then (L (W6.of a).w4).bind fun (r : Int) => some (IntKind.i64.wrap ((256 : Int) + r)) else bif !(W6.of a).w3 == (0 : Int) then (L (W6.of a).w3).bind fun (r : Int) => some (IntKind.i64.wrap ((192 : Int) + r)) else bif !(W6.of a).w2 == (0 : Int) then (L (W6.of a).w2).bind fun (r : Int) => some (IntKind.i64.wrap ((128 : Int) + r)) else bif !(W6.of a).w1 == (0 : Int) then (L (W6.of a).w1).bind fun (r : Int) => some (IntKind.i64.wrap ((64 : Int) + r)) else bif !(W6.of a).w0 == (0 : Int) then (L (W6.of a).w0).bind fun (r : Int) => some (IntKind.i64.wrap ((0 : Int) + r)) else some (0 : Int)) = some ((bl a : Nat) : Int) := by
  simp only [of_w0, of_w1, of_w2, of_w3, of_w4, of_w5, bne0, Bool.cond_decide]
  have hb : ∀ i, bl (wd a i) ≤ 64 := fun i => bl_le_iff.2 (wd_lt a i)
  have g : ∀ i, wd a i ≠ 0 → a < 2 ^ (64 * i + 64) → ∀ k : Int, k = 64 * i → i < 6 → ((L ((wd a i : Nat) : Int)).bind fun (r : Int) => some (IntKind.i64.wrap (k + r))) = some ((bl a : Nat) : Int) := by
    intro i h0 h k hk hi
    rw [hL _ h0 (wd_lt a i), Option.bind_some, len_word h h0]
    have := hb i
    rw [wrap_i64 (by omega) (by omega)]
    congr 1
    omega
  split
  · rename_i h; exact g 5 h ha _ rfl (by decide)
  rename_i h; have ha := wd_zero_lt (i := 5) ha (Decidable.not_not.1 h)
  split
  · rename_i h; exact g 4 h ha _ rfl (by decide)
  rename_i h; have ha := wd_zero_lt (i := 4) ha (Decidable.not_not.1 h)
  split
  · rename_i h; exact g 3 h ha _ rfl (by decide)
  rename_i h; have ha := wd_zero_lt (i := 3) ha (Decidable.not_not.1 h)
  split
  · rename_i h; exact g 2 h ha _ rfl (by decide)
  rename_i h; have ha := wd_zero_lt (i := 2) ha (Decidable.not_not.1 h)
  split
  · rename_i h; exact g 1 h ha _ rfl (by decide)
  rename_i h; have ha := wd_zero_lt (i := 1) ha (Decidable.not_not.1 h)
  split
  · rename_i h; exact g 0 h ha _ rfl (by decide)
  rename_i h; have ha := wd_zero_lt (i := 0) ha (Decidable.not_not.1 h)
  have : a = 0 := by simpa using ha
  subst this
  rfl

theorem wide_Len_g {a : Nat} (ha : a < 2 ^ 384) : wide_Len.g (W6.of a) = some ((bl a : Nat) : Int) :=
  len_chain (R := Unit) word_Len.g (fun x _ h => word_Len_g h) ha

theorem low_word {a i : Nat} (h : a % 2 ^ (64 * i) = 0) (h0 : wd a i ≠ 0) : tz a = 64 * i + tz (wd a i) := by
  obtain ⟨p, q⟩ := tz_spec _ h0
  have e : a = a / 2 ^ (64 * i) * 2 ^ (64 * i) := by
    have := Nat.div_add_mod a (2 ^ (64 * i))
    rw [h, Nat.add_zero, Nat.mul_comm] at this
    exact this.symm
  have hlt : tz (wd a i) < 64 := Nat.lt_of_lt_of_le (tz_lt_bl h0) (bl_le_iff.2 (wd_lt a i))
  have hq : a / 2 ^ (64 * i) ≠ 0 := by
    intro hc
    unfold wd at h0
    rw [hc] at h0
    exact h0 rfl
  rw (occs := .pos [1]) [e]
  rw [tz_mul_pow hq, Nat.add_comm]
  congr 1
  have w : wd a i = a / 2 ^ (64 * i) % 2 ^ 64 := rfl
  generalize a / 2 ^ (64 * i) = y at *
  generalize wd a i = x at *
  subst w
  generalize tz (y % 2 ^ 64) = t at *
  have d : (2 : Nat) ^ t * 2 ^ (64 - t) = 2 ^ 64 := by rw [← Nat.pow_add]; congr 1; omega
  refine tz_unique ?_ ?_
  · rwa [Nat.mod_mod_of_dvd _ ⟨_, d.symm⟩] at p
  · have : y % 2 ^ 64 / 2 ^ t = y / 2 ^ t % 2 ^ (64 - t) := by
      rw [← d, Nat.mod_mul_right_div_self]
    rw [this] at q
    rwa [Nat.mod_mod_of_dvd _ (by
      obtain ⟨k, hk⟩ : ∃ k, 64 - t = k + 1 := ⟨64 - t - 1, by omega⟩
      rw [hk, Nat.pow_succ]; exact ⟨2 ^ k, Nat.mul_comm _ _⟩)] at q

theorem mod_wd {a i : Nat} (h : a % 2 ^ (64 * i) = 0) (h0 : wd a i = 0) : a % 2 ^ (64 * i + 64) = 0 := by
  rw [Nat.pow_add, Nat.mod_mul, h]
  have : a / 2 ^ (64 * i) % 2 ^ 64 = 0 := h0
  rw [this]
  rfl

theorem wide_Low_g {a : Nat} (ha : a < 2 ^ 384) : wide_Low.g (W6.of a) = some ((if a = 0 then 384 else tz a : Nat) : Int) := by
  unfold wide_Low.g
  simp only [of_w0, of_w1, of_w2, of_w3, of_w4, of_w5, bne0, Bool.cond_decide]
  have g : ∀ i, wd a i ≠ 0 → a % 2 ^ (64 * i) = 0 → ∀ k : Int, k = 64 * i → i < 6 → ((word_Low.g ((wd a i : Nat) : Int)).bind fun (r : Int) => some (IntKind.i64.wrap (k + r))) = some ((if a = 0 then 384 else tz a : Nat) : Int) := by
    intro i h0 h k hk hi
    have h00 : a ≠ 0 := by
      rintro rfl
      exact h0 (by simp [wd])
    have hlt : tz (wd a i) < 64 := Nat.lt_of_lt_of_le (tz_lt_bl h0) (bl_le_iff.2 (wd_lt a i))
    rw [word_Low_g h0 (wd_lt a i), Option.bind_some, if_neg h00, low_word h h0]
    rw [wrap_i64 (by omega) (by omega)]
    congr 1
    omega
  have z := mod_wd (a := a) (i := 0) (by simp [Nat.mod_one])
  split
  · rename_i h; exact g 0 h (by simp [Nat.mod_one]) _ rfl (by decide)
  rename_i h; have z := z (Decidable.not_not.1 h)
  split
  · rename_i h; exact g 1 h z _ rfl (by decide)
  rename_i h; have z := mod_wd (i := 1) z (Decidable.not_not.1 h)
  split
  · rename_i h; exact g 2 h z _ rfl (by decide)
  rename_i h; have z := mod_wd (i := 2) z (Decidable.not_not.1 h)
  split
  · rename_i h; exact g 3 h z _ rfl (by decide)
  rename_i h; have z := mod_wd (i := 3) z (Decidable.not_not.1 h)
  split
  · rename_i h; exact g 4 h z _ rfl (by decide)
  rename_i h; have z := mod_wd (i := 4) z (Decidable.not_not.1 h)
  split
  · rename_i h; exact g 5 h z _ rfl (by decide)
  rename_i h; have z := mod_wd (i := 5) z (Decidable.not_not.1 h)
  have : a = 0 := by rw [Nat.mod_eq_of_lt ha] at z; exact z
  rw [if_pos this]
  rfl

/-! ### bits, shifts -/
theorem wide_Of_g {x : Nat} (h : x < 18446744073709551616) : wide_Of.g (x : Int) = some (W6.of x) := by
  unfold wide_Of.g; rw [W6.of_small h]
theorem wide_OfBits_g {n : Nat} (h : n < 2 ^ 128) : wide_OfBits.g (B2.of n) = some (W6.of n) := by
  unfold wide_OfBits.g
  have h2 : wd n 2 = 0 := wd_high h
  have h3 : wd n 3 = 0 := wd_high (Nat.lt_trans h (by decide))
  have h4 : wd n 4 = 0 := wd_high (Nat.lt_trans h (by decide))
  have h5 : wd n 5 = 0 := wd_high (Nat.lt_trans h (by decide))
  simp only [W6.of, h2, h3, h4, h5, B2.of]
  rfl
theorem wide_count_g (n : Int) : wide_count.g n = some ((min n.toNat 384 : Nat) : Int) := by
  unfold wide_count.g
  rw [maxI_eq, minI_eq]
  congr 1
  omega
theorem wide_And_g (a b : Nat) : wide_And.g (W6.of a) (W6.of b) = some (W6.of (a &&& b)) := by
  unfold wide_And.g
  simp only [of_w0, of_w1, of_w2, of_w3, of_w4, of_w5, and_u64 (wd_lt a _) (wd_lt b _)]
  simp only [W6.of, wd_and]
theorem wide_Mask_g (n : Int) : wide_Mask.g n = some (W6.of (2 ^ (min n.toNat 384) - 1)) := by
  unfold wide_Mask.g
  have w : ∀ k : Int, 0 ≤ k → k ≤ 320 → IntKind.i64.wrap (((min n.toNat 384 : Nat) : Int) - k) = ((min n.toNat 384 : Nat) : Int) - k := fun k _ _ => wrap_i64 (by omega) (by omega)
  simp only [wide_count_g, Option.bind_some, word_Mask_g]
  rw [w 0 (by decide) (by decide), w 64 (by decide) (by decide), w 128 (by decide) (by decide), w 192 (by decide) (by decide), w 256 (by decide) (by decide), w 320 (by decide) (by decide)]
  simp only [W6.of, wd_mask]
  generalize min n.toNat 384 = k
  rw [show ((k : Int) - 0).toNat = k - 64 * 0 by omega, show ((k : Int) - 64).toNat = k - 64 * 1 by omega, show ((k : Int) - 128).toNat = k - 64 * 2 by omega, show ((k : Int) - 192).toNat = k - 64 * 3 by omega, show ((k : Int) - 256).toNat = k - 64 * 4 by omega, show ((k : Int) - 320).toNat = k - 64 * 5 by omega]

theorem bit_word {a k : Nat} (hk : k < 384) : (andI IntKind.u64 (shrI IntKind.u64 ((W6.of a).get (k / 64)) ((k % 64 : Nat) : Int)) (1 : Int) == (1 : Int)) = a.testBit k := by
  rw [W6.get_of a (by omega), shr_u64, Nat.min_eq_left (by omega), show (1 : Int) = ((1 : Nat) : Int) from rfl, and_u64 (Nat.lt_of_le_of_lt (Nat.div_le_self _ _) (wd_lt _ _)) (by decide), Nat.and_one_is_mod]
  have h := testBit_wd a (k / 64) (k % 64)
  rw [decide_eq_true (by omega : k % 64 < 64), Bool.true_and, show k % 64 + 64 * (k / 64) = k by omega, Nat.testBit_eq_decide_div_mod_eq] at h
  rw [← h, Bool.eq_iff_iff]
  simp only [beq_iff_eq, decide_eq_true_eq]
  omega

theorem wide_Bit_g {a : Nat} (ha : a < 2 ^ 384) (i : Int) : wide_Bit.g (W6.of a) i = some (decide (0 ≤ i) && a.testBit i.toNat) := by
  unfold wide_Bit.g
  simp only [Bool.cond_decide]
  split
  · rename_i h
    obtain ⟨k, rfl⟩ := Int.eq_ofNat_of_zero_le h
    rw [Int.toNat_natCast, decide_eq_true h, Bool.true_and]
    split
    · rename_i h2
      have hk : k < 384 := by omega
      have e : IntKind.i64.wrap ((k : Int).tdiv 64) = ((k / 64 : Nat) : Int) := by
        rw [show (64 : Int) = ((64 : Nat) : Int) from rfl, div_nat, wrap_i64 (by omega) (by omega)]
      have e2 : IntKind.u64.wrap ((k : Int).tmod 64) = ((k % 64 : Nat) : Int) := by
        rw [show (64 : Int) = ((64 : Nat) : Int) from rfl, mod_nat, wrap_u64 (by omega) (by omega)]
      rw [e, e2, decide_eq_true (by omega : (0 : Int) ≤ ((k / 64 : Nat) : Int)), decide_eq_true (by omega : ((k / 64 : Nat) : Int) < 6), Int.toNat_natCast]
      rw [show (k / 64).blt 6 = true from by simp only [nblt]; exact decide_eq_true (by omega)]
      simp only [Bool.and_self, cond_true]
      rw [bit_word hk]
    · rw [testBit_big ha (by omega)]
  · rename_i h
    rw [decide_eq_false h]; rfl

theorem wide_ToBits_g {a : Nat} (ha : a < 2 ^ 384) : wide_ToBits.g (W6.of a) = if a < 2 ^ 128 then some (B2.of a, true) else some (B2.of 0, false) := by
  unfold wide_ToBits.g
  have hor : ∀ x y : Nat, x < 18446744073709551616 → y < 18446744073709551616 → x ||| y < 18446744073709551616 := fun x y hx hy => by
    simpa using Nat.or_lt_two_pow (n := 64) (by simpa using hx) (by simpa using hy)
  simp only [of_w0, of_w1, of_w2, of_w3, of_w4, of_w5]
  rw [or_u64 (wd_lt _ _) (wd_lt _ _), or_u64 (hor _ _ (wd_lt _ _) (wd_lt _ _)) (wd_lt _ _), or_u64 (hor _ _ (hor _ _ (wd_lt _ _) (wd_lt _ _)) (wd_lt _ _)) (wd_lt _ _), bne0, Bool.cond_decide]
  have hA := words_lt ha
  have a0 := wd_lt a 0; have a1 := wd_lt a 1
  by_cases h : a < 2 ^ 128
  · have h2 : wd a 2 = 0 := wd_high h
    have h3 : wd a 3 = 0 := wd_high (Nat.lt_trans h (by decide))
    have h4 : wd a 4 = 0 := wd_high (Nat.lt_trans h (by decide))
    have h5 : wd a 5 = 0 := wd_high (Nat.lt_trans h (by decide))
    rw [if_pos h, h2, h3, h4, h5, if_neg (by decide)]
    rfl
  · rw [if_neg h, if_pos]
    · simp [B2.of, wd]
    · simp only [ne_eq, Nat.or_eq_zero_iff]
      rintro ⟨⟨⟨h2, h3⟩, h4⟩, h5⟩
      omega

end Go.Proofs.YtnfbcofieobkkaaDoor
