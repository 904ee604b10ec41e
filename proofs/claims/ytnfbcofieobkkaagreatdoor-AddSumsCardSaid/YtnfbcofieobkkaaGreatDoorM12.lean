/- Rounding once: what is delivered, and that the document's rule delivers it. -/
import Derived.Test.YtnfbcofieobkkaaGreatDoorM11
namespace Go.Proofs.YtnfbcofieobkkaaGreatDoor
open Go Go.Proofs Ev
set_option linter.unusedVariables false
set_option exponentiation.threshold 512
set_option maxRecDepth 100000
set_option linter.unusedSimpArgs false

/-- The multiple of 2^at that is taken, of a magnitude that is told by its whole parts. -/
def tkF (m : Nat) (neg : Bool) (F : Int → Nat) (X : Int → Bool) (at_ : Int) : Nat := takS m neg (F at_) (F (at_ - 1)) (X at_) (X (at_ - 1))
def emF (f : Nat) : Int := 1 - (eF f : Int)
def tinS (f m : Nat) (neg : Bool) (top : Int) (F : Int → Nat) (X : Int → Bool) : Bool :=
  if emF f ≤ top then false else if top < emF f - 1 then true else decide (bl (tkF m neg F X (top - pF f + 1)) ≤ pF f)
def ovrN (f m : Nat) (neg : Bool) : Nat := if m = 1 ∨ (m = 2 ∧ neg = false) ∨ (m = 3 ∧ neg = true) then greN f neg else infN f neg
def atF (f : Nat) (top : Int) : Int := max top (emF f) - pF f + 1
def encN (f : Nat) (neg : Bool) (at_ : Int) (n : Nat) : Nat := (at_ - emF f + pF f - 1).toNat * 2 ^ (pF f - 1) + n + sgF f neg
def delS (f m : Nat) (neg : Bool) (top : Int) (F : Int → Nat) (X : Int → Bool) : Nat × Nat :=
  if (eF f : Int) < top then (ovrN f m neg, 5)
  else if (eF f : Int) < (bl (tkF m neg F X (atF f top)) : Int) - 1 + atF f top then (ovrN f m neg, 5)
  else (encN f neg (atF f top) (tkF m neg F X (atF f top)), if X (atF f top) then 0 else if tinS f m neg top F X then 3 else 1)

/-- Whole parts that are a magnitude's. -/
structure Mag (F : Int → Nat) (X : Int → Bool) (top : Int) : Prop where
  hb : ∀ at_, ((bl (F at_) : Nat) : Int) = max 0 (top - at_ + 1)
  hx : ∀ at_, X at_ = true → F at_ ≠ 0

theorem Mag.frac {n d : Nat} (hn : n ≠ 0) (hd : d ≠ 0) (e : Int) : Mag (fun at_ => flq n d (e - at_)) (fun at_ => exq n d (e - at_)) (topQ n d + e) :=
  ⟨fun at_ => by rw [bl_flq hn hd]; congr 1; omega, fun at_ h => exq_ne hn hd h⟩
theorem topQ_1 {n : Nat} (hn : n ≠ 0) : topQ n 1 = (bl n : Int) - 1 := by
  have h1 := bl_pos hn
  have h2 := bl_le hn
  have e1 : bl 1 = 1 := bl_unique (k := 0) (by decide) (by decide)
  unfold topQ
  rw [e1, if_pos (by omega), Nat.one_mul, if_pos h2]
  rfl

/-- What is delivered depends on what stands above the last place but one alone. -/
theorem delS_congr {f m : Nat} {neg : Bool} {top : Int} {F F' : Int → Nat} {X X' : Int → Bool} (h : ∀ at_, top - pF f ≤ at_ → F at_ = F' at_ ∧ X at_ = X' at_) : delS f m neg top F X = delS f m neg top F' X' := by
  have h0 : ∀ at_, top - pF f + 1 ≤ at_ → tkF m neg F X at_ = tkF m neg F' X' at_ ∧ X at_ = X' at_ := by
    intro at_ ha
    unfold tkF
    rw [(h at_ (by omega)).1, (h at_ (by omega)).2, (h (at_ - 1) (by omega)).1, (h (at_ - 1) (by omega)).2]
    exact ⟨rfl, rfl⟩
  have ha : top - pF f + 1 ≤ atF f top := by unfold atF; omega
  unfold delS tinS
  rw [(h0 _ ha).1, (h0 _ ha).2, (h0 (top - pF f + 1) (Int.le_refl _)).1]

theorem tkF_bl {m : Nat} {neg : Bool} {F : Int → Nat} {X : Int → Bool} {top : Int} (M : Mag F X top) {at_ : Int} {k : Nat} (h : top - at_ + 1 ≤ k) : F at_ < 2 ^ k ∧ tkF m neg F X at_ ≤ 2 ^ k := by
  have h1 := M.hb at_
  have h2 : F at_ < 2 ^ k := bl_le_iff.1 (by omega)
  have h3 := (takS_le m neg (F at_) (F (at_ - 1)) (X at_) (X (at_ - 1))).2
  exact ⟨h2, by unfold tkF; omega⟩

/-! ### a number of a format -/
theorem flq_0 (n : Nat) : flq n 1 0 = n ∧ exq n 1 0 = true := by
  have := flq_up n 0
  rw [show ((0 : Nat) : Int) = 0 from rfl, Nat.pow_zero, Nat.mul_one] at this
  exact this
theorem flq_odd' {n : Nat} (h : n ≠ 0) (k : Int) : flq (oddN n) 1 (k + tz n) = flq n 1 k ∧ exq (oddN n) 1 (k + tz n) = exq n 1 k := by
  have := flq_scale (oddN n) 1 (tz n) k
  rw [oddN_mul h] at this
  exact ⟨this.1.symm, this.2.symm⟩
theorem bl_oddN {n : Nat} (h : n ≠ 0) : bl (oddN n) + tz n = bl n := by
  have := bl_mul_pow (oddN_ne h) (tz n)
  rw [oddN_mul h] at this
  exact this.symm

theorem enc_one {E P n s : Nat} (h : P ≤ n) : (E + 1) * P + (n - P) + s = E * P + n + s := by
  rw [Nat.add_mul, Nat.one_mul]; omega
theorem enc_two {E P n s : Nat} (h : n = P + P) : (E + 2) * P + 0 + s = E * P + n + s := by
  rw [Nat.add_mul, Nat.two_mul]; omega

theorem ref08_Of_g {f n : Nat} {at_ : Int} (neg : Bool) (h : f ≤ 3) (hn0 : n ≠ 0) (hn : n ≤ 2 ^ pF f) (hat : emF f - pF f + 1 ≤ at_) (hcase : at_ = emF f - pF f + 1 ∨ 2 ^ (pF f - 1) ≤ n) (hat2 : at_ ≤ 20000) :
    ref08_Of.g (f : Int) ⟨neg, sOf (oddN n), sOf 1, at_ + tz n⟩ = some (if (eF f : Int) < (bl n : Int) - 1 + at_ then (B2.of 0, false) else (B2.of (encN f neg at_ n), true)) := by
  obtain ⟨h1, h2, h3, h4, h5, h6, h7, h8, h9⟩ := factsF h
  have hem : emF f = 1 - (eF f : Int) := rfl
  have ho := oddN_ne hn0
  have hbo := bl_oddN hn0
  have hbn : bl n ≤ pF f + 1 := bl_le_iff.2 (by rw [Nat.pow_succ]; have : 0 < 2 ^ pF f := Nat.pow_pos (by decide); omega)
  have hnbo : nb (oddN n) ≤ 16384 := bl_dvd_nb (by omega)
  have hnb : nb n ≤ 48 := bl_dvd_nb (by omega)
  have hb1 := bl_pos hn0
  have hT := ref06_Top_g neg (n := oddN n) (d := 1) (e := at_ + tz n) hnbo (by rw [nb_one]; omega) ho (by decide) (by omega)
  rw [topQ_1 ho, show ((bl (oddN n) : Nat) : Int) - 1 + (at_ + ((tz n : Nat) : Int)) = (bl n : Int) - 1 + at_ by omega] at hT
  have hp1 : (2 : Nat) ^ pF f = 2 ^ (pF f - 1) + 2 ^ (pF f - 1) := by
    rw [← Nat.two_mul, ← Nat.pow_succ']
    congr 1
    omega
  have hpp : 0 < (2 : Nat) ^ (pF f - 1) := Nat.pow_pos (by decide)
  have n384 : n < 2 ^ 384 := Nat.lt_of_le_of_lt hn (Nat.pow_lt_pow_right (by decide) (by omega))
  unfold ref08_Of.g
  rw [hT]
  simp only [emptyS, oneS, strEq_sOf, decide_eq_false ho, bF, ref07_Precision_g h, ref07_Emax_g h, ref07_Emin_g h, obind, decide_true, Bool.not_true, zeroB]
  by_cases hov : (eF f : Int) < (bl n : Int) - 1 + at_
  · rw [decide_eq_true hov, cond_true, if_pos hov]
  · rw [decide_eq_false hov, cond_false, if_neg hov]
    by_cases hlow : (bl n : Int) - 1 + at_ < 1 - (eF f : Int)
    · have hblp : bl n < pF f := by omega
      have hnlt : n < 2 ^ (pF f - 1) := bl_le_iff.1 (by omega)
      have hate : at_ = emF f - pF f + 1 := by
        rcases hcase with h | h
        · exact h
        · omega
      have w1 : IntKind.i64.wrap (IntKind.i64.wrap (1 - (eF f : Int) - ((pF f : Nat) : Int)) + 1) = at_ := by
        rw [wrap_i64 (x := 1 - (eF f : Int) - ((pF f : Nat) : Int)) (by omega) (by omega), wrap_i64 (by omega) (by omega)]
        omega
      have hfl := ref06_Floor_g neg (n := oddN n) (d := 1) (e := at_ + tz n) (at_ := at_) hnbo (by rw [nb_one]; omega) ho (by decide) (by omega) (by omega) (by intro _; omega)
      rw [show at_ + ((tz n : Nat) : Int) - at_ = 0 + tz n by omega, (flq_odd' hn0 0).1, (flq_0 n).1] at hfl
      have hB := ref07_Build_g h neg (e := 0) (t := n) (by rw [Nat.zero_mul, Nat.zero_add]; have : (2 : Nat) ^ (pF f - 1) ≤ 2 ^ (wF f - 1) := Nat.pow_le_pow_right (by decide) (by omega); omega)
      rw [decide_eq_true hlow, cond_true]
      simp only [w1, decide_eq_false (show ¬ at_ + ((tz n : Nat) : Int) < at_ by omega), bF, hfl, obind, ref05_ToWide_g hnb, ref02_Len_g n384, decide_eq_true (show ((bl n : Nat) : Int) < ((pF f : Nat) : Int) by omega), bT]
      rw [show (0 : Int) = ((0 : Nat) : Int) from rfl, hB, Option.bind_some]
      unfold encN
      rw [show (at_ - emF f + pF f - 1).toNat = 0 by omega]
    · have hblp : pF f ≤ bl n := by
        rcases hcase with h | h
        · omega
        · have := lt_bl_iff.2 h; omega
      rw [decide_eq_false hlow, cond_false]
      have w1 : IntKind.i64.wrap (IntKind.i64.wrap ((bl n : Int) - 1 + at_ - ((pF f : Nat) : Int)) + 1) = (bl n : Int) + at_ - pF f := by
        rw [wrap_i64 (x := (bl n : Int) - 1 + at_ - ((pF f : Nat) : Int)) (by omega) (by omega), wrap_i64 (by omega) (by omega)]
        omega
      have wm : IntKind.i64.wrap (((pF f : Nat) : Int) - 1) = ((pF f - 1 : Nat) : Int) := by rw [wrap_i64 (by omega) (by omega)]; omega
      have w2 : IntKind.i64.wrap (IntKind.i64.wrap ((bl n : Int) + at_ - pF f - (1 - (eF f : Int))) + ((pF f : Nat) : Int)) = (((bl n : Int) + at_ - 1 + eF f).toNat : Int) := by
        rw [wrap_i64 (x := (bl n : Int) + at_ - pF f - (1 - (eF f : Int))) (by omega) (by omega), wrap_i64 (by omega) (by omega)]
        omega
      by_cases hbe : bl n = pF f
      · have hfl := ref06_Floor_g neg (n := oddN n) (d := 1) (e := at_ + tz n) (at_ := (bl n : Int) + at_ - pF f) hnbo (by rw [nb_one]; omega) ho (by decide) (by omega) (by omega) (by intro _; omega)
        rw [show at_ + ((tz n : Nat) : Int) - ((bl n : Int) + at_ - pF f) = 0 + tz n by omega, (flq_odd' hn0 0).1, (flq_0 n).1] at hfl
        have hlt : n < 2 ^ pF f := bl_le_iff.1 (by omega)
        have hge : 2 ^ (pF f - 1) ≤ n := lt_bl_iff.1 (by omega)
        have hmod : n % 2 ^ (pF f - 1) = n - 2 ^ (pF f - 1) := by
          rw [Nat.mod_eq_sub_mod hge, Nat.mod_eq_of_lt (by omega)]
        have hB := ref07_Build_g h neg (e := ((bl n : Int) + at_ - 1 + eF f).toNat) (t := n - 2 ^ (pF f - 1)) (top_field h (by omega) (by omega))
        simp only [w1, decide_eq_false (show ¬ at_ + ((tz n : Nat) : Int) < (bl n : Int) + at_ - pF f by omega), bF, hfl, obind, ref05_ToWide_g hnb, ref02_Len_g n384, decide_eq_false (show ¬ ((bl n : Nat) : Int) < ((pF f : Nat) : Int) by omega), wm, ref02_Mask_g, Int.toNat_natCast, Nat.min_eq_left (show pF f - 1 ≤ 384 by omega), ref02_And_g, Nat.and_two_pow_sub_one_eq_mod, hmod, w2, hB]
        unfold encN
        refine congrArg (fun z => some (B2.of z, true)) ?_
        obtain ⟨E, hE⟩ : ∃ E : Nat, (at_ - emF f + pF f - 1).toNat = E := ⟨_, rfl⟩
        have hE1 : ((bl n : Int) + at_ - 1 + eF f).toNat = E + 1 := by clear n384 hB hfl; omega
        rw [hE, hE1]
        exact enc_one hge
      · have hbe1 : bl n = pF f + 1 := by omega
        have hn2 : n = 2 ^ pF f := by
          have := lt_bl_iff.1 (show pF f < bl n by omega)
          omega
        have htz : tz n = pF f := by
          rw [hn2]
          have := tz_mul_pow (show (1 : Nat) ≠ 0 by decide) (pF f)
          rw [Nat.one_mul, tz_one] at this
          omega
        have hfl := ref06_Floor_g neg (n := oddN n) (d := 1) (e := at_ + tz n) (at_ := (bl n : Int) + at_ - pF f) hnbo (by rw [nb_one]; omega) ho (by decide) (by omega) (by omega) (by intro _; omega)
        rw [show at_ + ((tz n : Nat) : Int) - ((bl n : Int) + at_ - pF f) = -((1 : Nat) : Int) + tz n by omega, (flq_odd' hn0 _).1, (flq_1 n 1).1, Nat.pow_one] at hfl
        have hhalf : n / 2 = 2 ^ (pF f - 1) := by omega
        rw [hhalf] at hfl
        have hbh : bl (2 ^ (pF f - 1)) = pF f := by
          have := bl_unique (n := 2 ^ (pF f - 1)) (k := pF f - 1) (Nat.le_refl _) (Nat.pow_lt_pow_right (by decide) (by omega))
          omega
        have h48 : nb (2 ^ (pF f - 1)) ≤ 48 := bl_dvd_nb (by omega)
        have hB := ref07_Build_g h neg (e := ((bl n : Int) + at_ - 1 + eF f).toNat) (t := 0) (top_field h (by omega) hpp)
        simp only [w1, decide_eq_false (show ¬ at_ + ((tz n : Nat) : Int) < (bl n : Int) + at_ - pF f by omega), bF, hfl, obind, ref05_ToWide_g h48, ref02_Len_g (show 2 ^ (pF f - 1) < 2 ^ 384 by omega), hbh, decide_eq_false (show ¬ ((pF f : Nat) : Int) < ((pF f : Nat) : Int) by omega), wm, ref02_Mask_g, Int.toNat_natCast, Nat.min_eq_left (show pF f - 1 ≤ 384 by omega), ref02_And_g, Nat.and_two_pow_sub_one_eq_mod, Nat.mod_self, w2, hB]
        unfold encN
        refine congrArg (fun z => some (B2.of z, true)) ?_
        obtain ⟨E, hE⟩ : ∃ E : Nat, (at_ - emF f + pF f - 1).toNat = E := ⟨_, rfl⟩
        have hE1 : ((bl n : Int) + at_ - 1 + eF f).toNat = E + 2 := by clear n384 hB hfl; omega
        rw [hE, hE1]
        exact enc_two (hn2.trans hp1)

/-! ### the rule's steps -/
theorem ref09_last_g {a : Nat} (ha : nb a ≤ 16384) : ref09_last.g (sOf a) = some (decide (a % 2 = 1)) := ref06_odd_g ha
theorem ref09_up_g (m : Nat) (neg : Bool) {F0 : Nat} (hn : nb F0 ≤ 16384) (at_ half : Int) (X : Bool) : ref09_up.g (m : Int) neg ⟨sOf F0, at_, half, X⟩ = some (upS m neg (decide (F0 % 2 = 1)) half X) := by
  unfold ref09_up.g upS
  dsimp only
  rw [show ((m : Int) == 0) = decide (m = 0) from beqN m 0, show ((m : Int) == 2) = decide (m = 2) from beqN m 2, show ((m : Int) == 3) = decide (m = 3) from beqN m 3, show ((m : Int) == 4) = decide (m = 4) from beqN m 4, ref09_last_g hn]
  have hh : (half == (0 : Int)) = decide (half = 0) := by rw [Bool.eq_iff_iff, beq_iff_eq, decide_eq_true_eq]
  rw [hh]
  cases X
  · by_cases h0 : m = 0
    · subst h0
      by_cases h1 : 0 < half
      · simp [h1]
      · by_cases h2 : half = 0 <;> simp [h1, h2]
    · by_cases h4 : m = 4
      · subst h4; simp
      · by_cases h2 : m = 2
        · subst h2; simp
        · by_cases h3 : m = 3
          · subst h3; simp
          · simp [h0, h4, h2, h3]
  · simp
theorem ref09_taken_g (m : Nat) (neg : Bool) {F0 F1 : Nat} {X0 X1 : Bool} (hn : bl F0 ≤ 100000) (at_ : Int) : ref09_taken.g (m : Int) neg ⟨sOf F0, at_, halfS F1 X0 X1, X0⟩ = some (sOf (takS m neg F0 F1 X0 X1)) := by
  unfold ref09_taken.g
  rw [ref09_up_g m neg (bl_dvd_nb (by omega)), Option.bind_some, oneS, ref05_Add_g (bl_dvd_nb (by have := bl_succ_le' hn; omega))]
  unfold takS
  cases upS m neg (decide (F0 % 2 = 1)) (halfS F1 X0 X1) X0 <;> rfl
theorem ref09_Over_g {f : Nat} (h : f ≤ 3) (m : Nat) (neg : Bool) : ref09_Over.g (f : Int) (m : Int) neg = some (B2.of (ovrN f m neg)) := by
  unfold ref09_Over.g ovrN
  rw [show ((m : Int) == 1) = decide (m = 1) from beqN m 1, show ((m : Int) == 2) = decide (m = 2) from beqN m 2, show ((m : Int) == 3) = decide (m = 3) from beqN m 3, ref07_Greatest_g h, ref07_Inf_g h]
  by_cases h1 : m = 1
  · subst h1; simp
  · by_cases h2 : m = 2
    · subst h2; cases neg <;> simp
    · by_cases h3 : m = 3
      · subst h3; cases neg <;> simp
      · simp [h1, h2, h3]

/-- What the rule finds, near the top. -/
def Finds (x : Exc) (root : Bool) (F : Int → Nat) (X : Int → Bool) (lo hi : Int) : Prop :=
  ∀ at_, lo ≤ at_ → at_ ≤ hi → ref09_find.g x root at_ = some ⟨sOf (F at_), at_, halfS (F (at_ - 1)) (X at_) (X (at_ - 1)), X at_⟩

theorem ref09_tiny_g {f : Nat} (h : f ≤ 3) (m : Nat) {x : Exc} {root : Bool} {F : Int → Nat} {X : Int → Bool} {top : Int} (M : Mag F X top) (htop : ref09_top.g x root = some top) (hf : Finds x root F X (top - pF f + 1) (atF f top)) (ht : -100000 ≤ top ∧ top ≤ 100000) :
    ref09_tiny.g (f : Int) (m : Int) x root = some (tinS f m x.neg top F X) := by
  obtain ⟨h1, h2, h3, h4, h5, h6, h7, h8, h9⟩ := factsF h
  unfold ref09_tiny.g tinS emF
  rw [htop, Option.bind_some, ref07_Emin_g h, Option.bind_some, wrap_i64 (x := 1 - (eF f : Int) - 1) (by omega) (by omega)]
  by_cases c1 : 1 - (eF f : Int) ≤ top
  · rw [decide_eq_true c1, cond_true, if_pos c1]
  · rw [decide_eq_false c1, cond_false, if_neg c1]
    by_cases c2 : top < 1 - (eF f : Int) - 1
    · rw [decide_eq_true c2, cond_true, if_pos c2]
    · rw [decide_eq_false c2, cond_false, if_neg c2, ref07_Precision_g h, Option.bind_some, wrap_i64 (x := top - ((pF f : Nat) : Int)) (by omega) (by omega), wrap_i64 (x := top - ((pF f : Nat) : Int) + 1) (by omega) (by omega), hf _ (Int.le_refl _) (by unfold atF; omega), Option.bind_some]
      have hb := tkF_bl (m := m) (neg := x.neg) M (at_ := top - pF f + 1) (k := pF f) (by omega)
      have hF : bl (F (top - pF f + 1)) ≤ 100000 := Nat.le_trans (bl_le_iff.2 hb.1) (by omega)
      rw [ref09_taken_g m x.neg hF, Option.bind_some]
      have ht2 : takS m x.neg (F (top - pF f + 1)) (F (top - pF f + 1 - 1)) (X (top - pF f + 1)) (X (top - pF f + 1 - 1)) = tkF m x.neg F X (top - pF f + 1) := rfl
      rw [ht2]
      have hbt : bl (tkF m x.neg F X (top - pF f + 1)) ≤ pF f + 1 := bl_le_iff.2 (by rw [Nat.pow_succ]; have : 0 < 2 ^ pF f := Nat.pow_pos (by decide); omega)
      rw [ref05_Len_g (bl_dvd_nb (by omega)), Option.bind_some, Option.bind_some]
      exact congrArg some (decide_eq_decide.2 (by omega))

theorem ref09_deliver_g {f : Nat} (h : f ≤ 3) (m : Nat) {x : Exc} {root : Bool} {F : Int → Nat} {X : Int → Bool} {top : Int} (M : Mag F X top) (htop : ref09_top.g x root = some top) (hf : Finds x root F X (top - pF f + 1) (atF f top)) (ht : -100000 ≤ top ∧ top ≤ 100000) :
    ref09_deliver.g (f : Int) (m : Int) x root = some (B2.of (delS f m x.neg top F X).1, (((delS f m x.neg top F X).2 : Nat) : Int)) := by
  obtain ⟨h1, h2, h3, h4, h5, h6, h7, h8, h9⟩ := factsF h
  have hem : emF f = 1 - (eF f : Int) := rfl
  have hatd : atF f top = max top (emF f) - pF f + 1 := rfl
  unfold ref09_deliver.g delS
  rw [htop, Option.bind_some, ref07_Precision_g h, Option.bind_some, ref07_Emax_g h, Option.bind_some]
  by_cases c0 : (eF f : Int) < top
  · rw [decide_eq_true c0, cond_true, if_pos c0, ref09_Over_g h]
    rfl
  · rw [decide_eq_false c0, cond_false, if_neg c0]
    have w1 : ∀ y : Int, -200000 ≤ y → y ≤ 200000 → IntKind.i64.wrap (IntKind.i64.wrap (y - ((pF f : Nat) : Int)) + 1) = y - pF f + 1 := fun y _ _ => by
      rw [wrap_i64 (x := y - ((pF f : Nat) : Int)) (by omega) (by omega), wrap_i64 (by omega) (by omega)]
    simp only [ref07_Emin_g h, obind, w1 (1 - (eF f : Int)) (by omega) (by omega), w1 top (by omega) (by omega), ref09_tiny_g h m M htop hf ht]
    -- both ways come to one place
    have hA : ∀ at_ : Int, at_ = atF f top → ((ref09_find.g x root at_).bind fun (r : Fnd) => (ref09_taken.g (m : Int) x.neg r).bind fun (r_4 : ByteArray) => (ref06_Make.g x.neg r_4 { data := { toList := [(1 : UInt8)] : Array UInt8 } : ByteArray } r.at_).bind fun (r_5 : Exc × Int) => bif strEq r_5.fst.num { data := { toList := [] : Array UInt8 } : ByteArray } then (ref07_Zero.g (f : Int) x.neg).bind fun (r : B2) => some (r, (3 : Int)) else (ref08_Of.g (f : Int) r_5.fst).bind fun (r_6 : B2 × Bool) => bif !r_6.snd then (ref09_Over.g (f : Int) (m : Int) x.neg).bind fun (r : B2) => some (r, (5 : Int)) else bif r.exact then some (r_6.fst, (0 : Int)) else bif tinS f m x.neg top F X then some (r_6.fst, (3 : Int)) else some (r_6.fst, (1 : Int))) = some (B2.of (if (eF f : Int) < (bl (tkF m x.neg F X (atF f top)) : Int) - 1 + atF f top then (ovrN f m x.neg, 5) else (encN f x.neg (atF f top) (tkF m x.neg F X (atF f top)), if X (atF f top) then 0 else if tinS f m x.neg top F X then 3 else 1)).1, (((if (eF f : Int) < (bl (tkF m x.neg F X (atF f top)) : Int) - 1 + atF f top then (ovrN f m x.neg, 5) else (encN f x.neg (atF f top) (tkF m x.neg F X (atF f top)), if X (atF f top) then 0 else if tinS f m x.neg top F X then 3 else 1)).2 : Nat) : Int)) := by
      rintro _ rfl
      have hb := tkF_bl (m := m) (neg := x.neg) M (at_ := atF f top) (k := pF f) (by omega)
      have hF : bl (F (atF f top)) ≤ 100000 := Nat.le_trans (bl_le_iff.2 hb.1) (by omega)
      have hT0 : takS m x.neg (F (atF f top)) (F (atF f top - 1)) (X (atF f top)) (X (atF f top - 1)) = tkF m x.neg F X (atF f top) := rfl
      rw [hf _ (by omega) (Int.le_refl _), Option.bind_some, ref09_taken_g m x.neg hF, Option.bind_some, hT0]
      dsimp only
      have hMag0 := M.hb (atF f top)
      have hge : F (atF f top) ≤ tkF m x.neg F X (atF f top) := (takS_le m x.neg _ _ _ _).1
      have htk := hb.2
      have hXx := M.hx (atF f top)
      have hex : X (atF f top) = true → tkF m x.neg F X (atF f top) = F (atF f top) := fun hx => by unfold tkF; rw [hx, takS_exact]
      have hcase : atF f top = emF f - pF f + 1 ∨ 2 ^ (pF f - 1) ≤ tkF m x.neg F X (atF f top) := by
        by_cases c : top ≤ emF f
        · left; omega
        · right
          have : 2 ^ (pF f - 1) ≤ F (atF f top) := lt_bl_iff.1 (by omega)
          omega
      generalize hn : tkF m x.neg F X (atF f top) = n at *
      have hbn : bl n ≤ pF f + 1 := bl_le_iff.2 (by rw [Nat.pow_succ]; have : 0 < 2 ^ pF f := Nat.pow_pos (by decide); omega)
      rw [oneS, emptyS]
      by_cases h0 : n = 0
      · subst h0
        rw [ref06_Make_zero x.neg (by rw [nb_one]; omega) (by decide) (by omega), Option.bind_some]
        dsimp only
        rw [strEq_sOf, decide_eq_true rfl, cond_true, ref07_Zero_g h, Option.bind_some]
        have hat0 : atF f top = emF f - pF f + 1 := by
          rcases hcase with h | h
          · exact h
          · have : 0 < 2 ^ (pF f - 1) := Nat.pow_pos (by decide)
            omega
        have hF0 : F (atF f top) = 0 := by omega
        have hXf : X (atF f top) = false := by
          cases hX : X (atF f top)
          · rfl
          · exact absurd hF0 (hXx hX)
        have htop0 : top < atF f top := by
          rw [hF0, bl_zero] at hMag0
          omega
        have htin : tinS f m x.neg top F X = true := by
          unfold tinS
          rw [if_neg (by omega), if_pos (by omega)]
        rw [if_neg (by rw [bl_zero]; omega), hXf, htin]
        unfold encN
        rw [show (atF f top - emF f + pF f - 1).toNat = 0 by omega, Nat.zero_mul, Nat.zero_add]
        rfl
      · have hnb : nb n ≤ 16384 := bl_dvd_nb (by omega)
        have htz := tz_le_bl n
        rw [ref06_Make_1 x.neg hnb h0 (by omega) (by omega), Option.bind_some]
        dsimp only
        rw [strEq_sOf, decide_eq_false (oddN_ne h0), cond_false, ref08_Of_g x.neg h h0 htk (by omega) hcase (by omega), Option.bind_some]
        by_cases hov : (eF f : Int) < (bl n : Int) - 1 + atF f top
        · rw [if_pos hov, if_pos hov, ref09_Over_g h]
          rfl
        · rw [if_neg hov, if_neg hov]
          cases X (atF f top)
          · cases tinS f m x.neg top F X <;> rfl
          · rfl
    by_cases clow : top < 1 - (eF f : Int)
    · rw [decide_eq_true clow, cond_true]
      exact hA _ (by omega)
    · rw [decide_eq_false clow, cond_false]
      exact hA _ (by omega)

end Go.Proofs.YtnfbcofieobkkaaGreatDoor
