/- What the bits of a format are: the parts. -/
import Derived.Test.YtnfbcofieobkkaaDoorM8
namespace Go.Proofs.YtnfbcofieobkkaaDoor
open Go Go.Proofs Ev
set_option linter.unusedVariables false
set_option exponentiation.threshold 512
set_option linter.unusedSimpArgs false

theorem exF_lt {f b : Nat} (h : f ≤ 3) : exF f b ≤ 2 * eF f + 1 := by
  have h7 := (factsF h).2.2.2.2.2.2.1
  have : exF f b < 2 ^ (wF f - pF f) := Nat.mod_lt _ (Nat.pow_pos (by decide))
  omega

theorem zeroPts : ({ cls := (0 : Int), sig := { w0 := (0 : Int), w1 := (0 : Int), w2 := (0 : Int), w3 := (0 : Int), w4 := (0 : Int), w5 := (0 : Int) : W6 }, exp := (0 : Int), frac := { w0 := (0 : Int), w1 := (0 : Int), w2 := (0 : Int), w3 := (0 : Int), w4 := (0 : Int), w5 := (0 : Int) : W6 } : Pts }) = ⟨0, W6.of 0, 0, W6.of 0⟩ := by rw [zeroW]

theorem kind_Unpack_no {f b : Nat} (hf : f < 256) (hb : b < 2 ^ 128) (h : ¬ (f ≤ 3 ∧ b < 2 ^ wF f)) : kind_Unpack.g (f : Int) (B2.of b) = some (⟨0, W6.of 0, 0, W6.of 0⟩, 2) := by
  unfold kind_Unpack.g
  rw [shape_Fits_g hf hb, Option.bind_some, decide_eq_false h, zeroW]
  rfl

theorem normal_exp {f e : Nat} (h : f ≤ 3) (he : e ≤ 2 * eF f + 1) : IntKind.i64.wrap (IntKind.i64.wrap (IntKind.i64.wrap (IntKind.i64.wrap ((e : Int) - (1 : Int)) + (1 - ((eF f : Nat) : Int))) - ((pF f : Nat) : Int)) + (1 : Int)) = (e : Int) - eF f - pF f + 1 := by
  obtain ⟨h1, h2, h3, h4, h5, h6, h7, h8, h9⟩ := factsF h
  rw [wrap_i64 (x := (e : Int) - 1) (by omega) (by omega), wrap_i64 (x := (e : Int) - 1 + (1 - ((eF f : Nat) : Int))) (by omega) (by omega), wrap_i64 (x := (e : Int) - 1 + (1 - ((eF f : Nat) : Int)) - ((pF f : Nat) : Int)) (by omega) (by omega), wrap_i64 (by omega) (by omega)]
  omega
theorem sub_exp {f : Nat} (h : f ≤ 3) : IntKind.i64.wrap (IntKind.i64.wrap (IntKind.i64.wrap (((0 : Nat) : Int) + (1 - ((eF f : Nat) : Int))) - ((pF f : Nat) : Int)) + (1 : Int)) = 2 - (eF f : Int) - pF f := by
  obtain ⟨h1, h2, h3, h4, h5, h6, h7, h8, h9⟩ := factsF h
  rw [wrap_i64 (x := ((0 : Nat) : Int) + (1 - ((eF f : Nat) : Int))) (by omega) (by omega), wrap_i64 (x := ((0 : Nat) : Int) + (1 - ((eF f : Nat) : Int)) - ((pF f : Nat) : Int)) (by omega) (by omega), wrap_i64 (by omega) (by omega)]
  omega

theorem kind_Unpack_g {f b : Nat} (h : f ≤ 3) (hb : b < 2 ^ wF f) : kind_Unpack.g (f : Int) (B2.of b) = some (ptsF f b, 0) := by
  obtain ⟨h1, h2, h3, h4, h5, h6, h7, h8, h9⟩ := factsF h
  have hb128 : b < 2 ^ 128 := Nat.lt_of_lt_of_le hb (Nat.pow_le_pow_right (by decide) h4)
  have he := exF_lt (b := b) h
  unfold kind_Unpack.g
  rw [shape_Fits_g (by omega) hb128, Option.bind_some, decide_eq_true ⟨h, hb⟩, Bool.not_true, cond_false, shape_Precision_g h, Option.bind_some, kind_fields_g h hb, Option.bind_some, kind_class_g h hb, Option.bind_some, zeroW]
  have w1 : IntKind.i64.wrap (((pF f : Nat) : Int) - (1 : Int)) = ((pF f - 1 : Nat) : Int) := by rw [wrap_i64 (by omega) (by omega)]; omega
  have hk : pF f - 1 < 384 := by omega
  have hset := setbit (trF f b) hk
  have hor : trF f b ||| 2 ^ (pF f - 1) = 2 ^ (pF f - 1) + trF f b := by rw [or_pow (trF_lt h), Nat.add_comm]
  rw [hor] at hset
  have d1 : decide ((0 : Int) ≤ (((pF f - 1) / 64 : Nat) : Int)) = true := decide_eq_true (by omega)
  have d2 : decide ((((pF f - 1) / 64 : Nat) : Int) < (6 : Int)) = true := decide_eq_true (by omega)
  have d3 : ((pF f - 1) / 64).blt 6 = true := by rw [nblt]; exact decide_eq_true (by omega)
  have d4 : ((pF f - 1) / 64 + 1).ble 6 = true := Nat.ble_eq_true_of_le (by omega)
  simp only [w1, divI (pF f - 1) (by omega), modU (pF f - 1) (by omega), d1, d2, d3, d4, Int.toNat_natCast, Bool.and_self, cond_true, hset, shape_Emin_g h, Option.bind_some, normal_exp h he]
  have hc9 := clsF_le f b
  have hn : clsF f b = 1 ∨ clsF f b = 6 → exF f b ≠ 0 := fun hc => (cls_norm hc).1
  have hs : clsF f b = 2 ∨ clsF f b = 5 → exF f b = 0 := fun hc => (cls_sub hc).1
  unfold ptsF sigF xpF
  generalize clsF f b = c at *
  have hcs : c = 0 ∨ c = 1 ∨ c = 2 ∨ c = 3 ∨ c = 4 ∨ c = 5 ∨ c = 6 ∨ c = 7 ∨ c = 8 ∨ c = 9 := by omega
  rcases hcs with rfl | rfl | rfl | rfl | rfl | rfl | rfl | rfl | rfl | rfl
  · rfl
  · have e0 := hn (Or.inl rfl)
    rw [if_pos e0, if_pos e0]; rfl
  · have e0 := hs (Or.inl rfl)
    rw [e0, sub_exp h, if_neg (by decide), if_neg (by decide)]; rfl
  · rfl
  · rfl
  · have e0 := hs (Or.inr rfl)
    rw [e0, sub_exp h, if_neg (by decide), if_neg (by decide)]; rfl
  · have e0 := hn (Or.inr rfl)
    rw [if_pos e0, if_pos e0]; rfl
  · rfl
  · rfl
  · rfl

theorem ref08_Unpack_g {f b : Nat} (h : f ≤ 3) (hb : b < 2 ^ wF f) : ref08_Unpack.g (f : Int) (B2.of b) = some (ptsF f b) := by
  obtain ⟨h1, h2, h3, h4, h5, h6, h7, h8, h9⟩ := factsF h
  have he := exF_lt (b := b) h
  have hp : (2 : Nat) ^ (pF f - 1) ≤ 2 ^ 127 := Nat.pow_le_pow_right (by decide) (by omega)
  have p384 : (2 : Nat) ^ 127 + 2 ^ 127 < 2 ^ 384 := by decide
  have ht := trF_lt (b := b) h
  unfold ref08_Unpack.g
  have hO : ref02_Of.g (1 : Int) = some (W6.of 1) := ref02_Of_g (x := 1) (by decide)
  have w1 : IntKind.i64.wrap (((pF f : Nat) : Int) - (1 : Int)) = ((pF f - 1 : Nat) : Int) := by rw [wrap_i64 (by omega) (by omega)]; omega
  have hL : ref02_Left.g (W6.of 1) ((pF f - 1 : Nat) : Int) = some (W6.of (2 ^ (pF f - 1)), decide (2 ^ 384 ≤ 2 ^ (pF f - 1))) := by
    rw [ref02_Left_g (by decide), Int.toNat_natCast, Nat.min_eq_left (by omega), Nat.one_mul]
  have hA : ref02_Add.g (W6.of (2 ^ (pF f - 1))) (W6.of (trF f b)) = some (W6.of (2 ^ (pF f - 1) + trF f b), decide (2 ^ 384 ≤ 2 ^ (pF f - 1) + trF f b)) := ref02_Add_g (by omega) (by omega)
  have x1 : IntKind.i64.wrap (IntKind.i64.wrap (IntKind.i64.wrap (((exF f b : Nat) : Int) - ((eF f : Nat) : Int)) - ((pF f : Nat) : Int)) + (1 : Int)) = (exF f b : Int) - eF f - pF f + 1 := by
    rw [wrap_i64 (x := ((exF f b : Nat) : Int) - ((eF f : Nat) : Int)) (by omega) (by omega), wrap_i64 (x := ((exF f b : Nat) : Int) - ((eF f : Nat) : Int) - ((pF f : Nat) : Int)) (by omega) (by omega), wrap_i64 (by omega) (by omega)]
  have x2 : IntKind.i64.wrap (IntKind.i64.wrap (1 - ((eF f : Nat) : Int) - ((pF f : Nat) : Int)) + (1 : Int)) = 2 - (eF f : Int) - pF f := by
    rw [wrap_i64 (x := 1 - ((eF f : Nat) : Int) - ((pF f : Nat) : Int)) (by omega) (by omega), wrap_i64 (by omega) (by omega)]
    omega
  simp only [ref08_Class_g h hb, ref07_Fields_g h hb, ref07_Precision_g h, ref07_Emin_g h, ref07_Emax_g h, Option.bind_some, hO, w1, hL, hA, x1, x2, zeroW]
  have hc9 := clsF_le f b
  have hn : clsF f b = 1 ∨ clsF f b = 6 → exF f b ≠ 0 := fun hc => (cls_norm hc).1
  have hs : clsF f b = 2 ∨ clsF f b = 5 → exF f b = 0 := fun hc => (cls_sub hc).1
  unfold ptsF sigF xpF
  generalize clsF f b = c at *
  have hcs : c = 0 ∨ c = 1 ∨ c = 2 ∨ c = 3 ∨ c = 4 ∨ c = 5 ∨ c = 6 ∨ c = 7 ∨ c = 8 ∨ c = 9 := by omega
  rcases hcs with rfl | rfl | rfl | rfl | rfl | rfl | rfl | rfl | rfl | rfl
  · rfl
  · have e0 := hn (Or.inl rfl)
    rw [if_pos e0, if_pos e0]; rfl
  · have e0 := hs (Or.inl rfl)
    rw [e0, if_neg (by decide), if_neg (by decide)]; rfl
  · rfl
  · rfl
  · have e0 := hs (Or.inr rfl)
    rw [e0, if_neg (by decide), if_neg (by decide)]; rfl
  · have e0 := hn (Or.inr rfl)
    rw [if_pos e0, if_pos e0]; rfl
  · rfl
  · rfl
  · rfl

theorem kind_Class_g {f b : Nat} (hf : f < 256) (hb : b < 2 ^ 128) : kind_Class.g (f : Int) (B2.of b) = some (if f ≤ 3 ∧ b < 2 ^ wF f then (((clsF f b : Nat) : Int), 0) else (0, 2)) := by
  unfold kind_Class.g
  rw [shape_Fits_g hf hb, Option.bind_some]
  by_cases h : f ≤ 3 ∧ b < 2 ^ wF f
  · rw [decide_eq_true h, if_pos h, Bool.not_true, cond_false, kind_class_g h.1 h.2]; rfl
  · rw [decide_eq_false h, if_neg h]; rfl

/-- A finite number's magnitude. -/
theorem sigF_lt {f b : Nat} (h : f ≤ 3) : sigF f b < 2 ^ pF f := by
  have h1 := (factsF h).1
  have ht := trF_lt (b := b) h
  have e : (2 : Nat) ^ pF f = 2 ^ (pF f - 1) + 2 ^ (pF f - 1) := by
    rw [← Nat.two_mul, ← Nat.pow_succ']
    congr 1
    omega
  unfold sigF
  split <;> omega
theorem sigF_384 {f b : Nat} (h : f ≤ 3) : sigF f b < 2 ^ 384 :=
  Nat.lt_of_lt_of_le (sigF_lt h) (Nat.pow_le_pow_right (by decide) (by have := factsF h; omega))
theorem sigF_pos {f b : Nat} (hc : finF f b) : sigF f b ≠ 0 := by
  unfold finF at hc
  unfold sigF
  by_cases hn : clsF f b = 1 ∨ clsF f b = 6
  · rw [if_pos (cls_norm hn).1]
    have : 0 < 2 ^ (pF f - 1) := Nat.pow_pos (by decide)
    omega
  · have hs := cls_sub (f := f) (b := b) (by omega)
    rw [if_neg (by simp [hs.1])]
    exact hs.2
theorem xpF_bounds {f b : Nat} (h : f ≤ 3) (hc : finF f b) : 2 - (eF f : Int) - pF f ≤ xpF f b ∧ xpF f b ≤ (eF f : Int) - pF f + 1 := by
  have he := exF_lt (b := b) h
  have h5 := factsF h
  unfold finF at hc
  unfold xpF
  by_cases hn : clsF f b = 1 ∨ clsF f b = 6
  · have := cls_norm hn
    rw [if_pos this.1]
    omega
  · have hs := cls_sub (f := f) (b := b) (by omega)
    rw [if_neg (by simp [hs.1])]
    omega
theorem ptsF_fin {f b : Nat} (hc : finF f b) : ptsF f b = ⟨((clsF f b : Nat) : Int), W6.of (sigF f b), xpF f b, W6.of 0⟩ := by
  unfold ptsF ptsC
  unfold finF at hc
  rw [if_neg (by omega), if_pos hc]

end Go.Proofs.YtnfbcofieobkkaaDoor
