/- Sums: what is jammed is rounded as what is exact; a number of a format gives its own bits; the document's sum. -/
import Derived.Test.YtnfbcofieobkkaaGreatDoorM16
namespace Go.Proofs.YtnfbcofieobkkaaGreatDoor
open Go Go.Proofs Ev
set_option linter.unusedVariables false
set_option exponentiation.threshold 512
set_option maxRecDepth 100000
set_option linter.unusedSimpArgs false

theorem odd_scale {N A i j : Nat} (hN : N ≠ 0) (hA : A ≠ 0) (h : N * 2 ^ i = A * 2 ^ j) : oddN N = oddN A ∧ tz N + i = tz A + j := by
  have o1 := odd_mul_pow hN i
  have o2 := odd_mul_pow hA j
  have t1 := tz_mul_pow hN i
  have t2 := tz_mul_pow hA j
  rw [h] at o1 t1
  exact ⟨o1.symm.trans o2, by omega⟩

/-- A number with a last bit that tells what is beneath it is rounded as the exact one. -/
theorem jam_Round {f m : Nat} (h : f ≤ 3) (hm : m ≤ 4) (neg : Bool) {A V g : Nat} {e0 : Int} (hA : A ≠ 0) (hV0 : V ≠ 0) (hV : V < 2 ^ 384) (he : -40000 ≤ e0 ∧ e0 ≤ 40000) (hg : g ≤ 40000)
    (hj : A = V * 2 ^ g ∨ (V % 2 = 1 ∧ (V - 1) * 2 ^ g < A ∧ A < (V + 1) * 2 ^ g ∧ pF f + 2 ≤ bl V)) :
    round_Pack.g (f : Int) (m : Int) ⟨neg, W6.of V, e0, false⟩ = ref09_Round.g (f : Int) (m : Int) ⟨neg, sOf (oddN A), sOf 1, e0 - g + tz A⟩ := by
  rcases hj with rfl | ⟨ho, h1, h2, h3⟩
  · rw [odd_mul_pow hV0, tz_mul_pow hV0, show e0 - (g : Int) + ((tz V + g : Nat) : Int) = e0 + tz V by omega]
    exact (exact_Round h hm neg hV0 hV (by omega)).symm
  · have hF := factsF h
    have hp : 0 < 2 ^ g := Nat.pow_pos (by decide)
    have hb384 : bl V ≤ 384 := bl_le_iff.2 hV
    have q1 : A / 2 ^ g = V - 1 ∨ A / 2 ^ g = V := by
      have a1 : V - 1 ≤ A / 2 ^ g := (Nat.le_div_iff_mul_le hp).2 (Nat.le_of_lt h1)
      have a2 : A / 2 ^ g < V + 1 := (Nat.div_lt_iff_lt_mul hp).2 h2
      omega
    have q2 : A / 2 ^ (g + 1) = V / 2 := by
      rw [Nat.pow_succ, ← Nat.div_div_eq_div_mul]
      omega
    have q3 : ∀ k, A / 2 ^ (g + (k + 1)) = V / 2 ^ (k + 1) := by
      intro k
      rw [show g + (k + 1) = g + 1 + k by omega, Nat.pow_add, ← Nat.div_div_eq_div_mul, q2, Nat.pow_succ, Nat.mul_comm (2 ^ k), ← Nat.div_div_eq_div_mul]
    have q4 : ∀ k, A % 2 ^ (g + (k + 1)) ≠ 0 := by
      intro k hc
      have e := Nat.div_mul_cancel (Nat.dvd_of_mod_eq_zero hc)
      have e' : (2 : Nat) ^ (g + (k + 1)) = 2 ^ (k + 1) * 2 ^ g := by rw [Nat.pow_add, Nat.mul_comm]
      rw [q3, e', ← Nat.mul_assoc] at e
      have l1 : V - 1 < V / 2 ^ (k + 1) * 2 ^ (k + 1) := Nat.lt_of_mul_lt_mul_right (a := 2 ^ g) (by rw [e]; exact h1)
      have l2 : V / 2 ^ (k + 1) * 2 ^ (k + 1) ≤ V := Nat.div_mul_le_self _ _
      have l3 : V / 2 ^ (k + 1) * 2 ^ (k + 1) % 2 = 0 := by rw [Nat.pow_succ, ← Nat.mul_assoc, Nat.mul_mod_left]
      omega
    have q5 : ∀ k, V % 2 ^ (k + 1) ≠ 0 := by
      intro k hc
      have e := Nat.div_mul_cancel (Nat.dvd_of_mod_eq_zero hc)
      have l3 : V / 2 ^ (k + 1) * 2 ^ (k + 1) % 2 = 0 := by rw [Nat.pow_succ, ← Nat.mul_assoc, Nat.mul_mod_left]
      omega
    have hbA : bl A = bl V + g := by
      have b1 := bl_div_pow A (g + 1)
      have b2 := bl_div_pow V 1
      rw [Nat.pow_one] at b2
      rw [q2] at b1
      omega
    have hoA := oddN_ne hA
    have hbo := bl_oddN hA
    have hlt := tz_lt_bl hA
    have htop : topQ (oddN A) 1 + (e0 - g + ((tz A : Nat) : Int)) = (bl V : Int) - 1 + e0 := by rw [topQ_1 hoA]; omega
    rw [ref09_Round_g h hm neg (bl_dvd_nb (by omega)) (by rw [nb_one]; omega) (oddN_odd hA) (by decide) (Nat.gcd_one_right _) (by omega) (by omega) (by omega), round_Pack_g h hm neg false hV0 hV (by omega) (by intro hc; cases hc), htop]
    rw [delS_congr (F := FR V e0) (X := XR V e0 false) (F' := fun at_ => flq (oddN A) 1 (e0 - g + ((tz A : Nat) : Int) - at_)) (X' := fun at_ => exq (oddN A) 1 (e0 - g + ((tz A : Nat) : Int) - at_)) (fun at_ hat => ?_)]
    obtain ⟨k, hk⟩ : ∃ k : Nat, at_ = e0 + ((k + 1 : Nat) : Int) := ⟨(at_ - e0).toNat - 1, by omega⟩
    have e1 : e0 - at_ = -((k + 1 : Nat) : Int) := by omega
    have e2 : e0 - g + ((tz A : Nat) : Int) - at_ = -((g + (k + 1) : Nat) : Int) + ((tz A : Nat) : Int) := by omega
    unfold FR XR
    rw [e1, e2, (flq_odd' hA _).1, (flq_odd' hA _).2, (flq_1 V _).1, (flq_1 V _).2, (flq_1 A _).1, (flq_1 A _).2, q3, decide_eq_false (q4 k), decide_eq_false (q5 k)]
    exact ⟨rfl, rfl⟩

theorem bl_add_le {a b k : Nat} (ha : bl a ≤ k) (hb : bl b ≤ k) : bl (a + b) ≤ k + 1 := by
  rw [bl_le_iff] at ha hb ⊢
  rw [Nat.pow_succ]
  omega

/-! ### bits -/
theorem bits_dec {f b : Nat} (h : f ≤ 3) (hb : b < 2 ^ wF f) : b = exF f b * 2 ^ (pF f - 1) + trF f b + sgF f (neF f b) := by
  obtain ⟨h1, h2, h3, h4, h5, h6, h7, h8, h9⟩ := factsF h
  have e1 := Nat.mod_add_div b (2 ^ (pF f - 1))
  have e2 := Nat.mod_add_div (b / 2 ^ (pF f - 1)) (2 ^ (wF f - pF f))
  have e3 : b / 2 ^ (pF f - 1) / 2 ^ (wF f - pF f) = b / 2 ^ (wF f - 1) := by
    rw [Nat.div_div_eq_div_mul, ← Nat.pow_add, show pF f - 1 + (wF f - pF f) = wF f - 1 by omega]
  have e4 : (2 : Nat) ^ (wF f - 1) = 2 ^ (pF f - 1) * 2 ^ (wF f - pF f) := by
    rw [← Nat.pow_add, show pF f - 1 + (wF f - pF f) = wF f - 1 by omega]
  have hw : (2 : Nat) ^ wF f = 2 ^ (wF f - 1) * 2 := by rw [← Nat.pow_succ]; congr 1; omega
  have e5 : b / 2 ^ (wF f - 1) < 2 := (Nat.div_lt_iff_lt_mul (Nat.pow_pos (by decide))).2 (by rw [Nat.mul_comm, ← hw]; exact hb)
  have hs : sgF f (neF f b) = 2 ^ (wF f - 1) * (b / 2 ^ (wF f - 1)) := by
    unfold sgF neF
    rw [Nat.testBit_eq_decide_div_mod_eq]
    clear e1 e2 e3
    generalize b / 2 ^ (wF f - 1) = t at *
    by_cases c : t % 2 = 1
    · have ht : t = 1 := by omega
      subst ht
      rw [decide_eq_true rfl, if_pos rfl, Nat.mul_one]
    · have ht : t = 0 := by omega
      subst ht
      rw [decide_eq_false c, Nat.mul_zero]
      rfl
  rw [hs, e4]
  rw [e3] at e2
  rw [← e2, Nat.mul_add, ← Nat.mul_assoc, e4] at e1
  unfold exF trF
  rw [Nat.mul_comm (_ % _)]
  omega
theorem cls_inf {f b : Nat} (h : clsF f b = 0 ∨ clsF f b = 7) : exF f b = 2 * eF f + 1 ∧ trF f b = 0 := by
  unfold clsF at h
  repeat' split at h
  all_goals simp_all
theorem cls_bits {f a b : Nat} (h : f ≤ 3) (ha : a < 2 ^ wF f) (hb : b < 2 ^ wF f) (hk : (clsF f a = 0 ∨ clsF f a = 7) ∧ (clsF f b = 0 ∨ clsF f b = 7) ∨ (clsF f a = 3 ∨ clsF f a = 4) ∧ (clsF f b = 3 ∨ clsF f b = 4)) : clsF f a = clsF f b ↔ a = b := by
  constructor
  · intro hc
    have ea := bits_dec h ha
    have eb := bits_dec h hb
    have hn : neF f a = neF f b := by rw [neF_cls (by omega), neF_cls (by omega), hc]
    rcases hk with ⟨k1, k2⟩ | ⟨k1, k2⟩
    · rw [(cls_inf k1).1, (cls_inf k1).2, hn] at ea
      rw [(cls_inf k2).1, (cls_inf k2).2] at eb
      omega
    · rw [(cls_zero k1).1, (cls_zero k1).2, hn] at ea
      rw [(cls_zero k2).1, (cls_zero k2).2] at eb
      omega
  · intro hc; rw [hc]
theorem b2_eq {a b : Nat} (ha : a < 2 ^ 128) (hb : b < 2 ^ 128) : ((B2.of a).hi == (B2.of b).hi && ((B2.of a).lo == (B2.of b).lo && true)) = decide (a = b) := by
  have h1 : (B2.of a).hi = ((wd a 1 : Nat) : Int) := rfl
  have h2 : (B2.of b).hi = ((wd b 1 : Nat) : Int) := rfl
  have h3 : (B2.of a).lo = ((wd a 0 : Nat) : Int) := rfl
  have h4 : (B2.of b).lo = ((wd b 0 : Nat) : Int) := rfl
  rw [h1, h2, h3, h4, beqN, beqN, Bool.and_true, Bool.eq_iff_iff, Bool.and_eq_true, decide_eq_true_eq, decide_eq_true_eq, decide_eq_true_eq]
  constructor
  · rintro ⟨k1, k2⟩
    rw [words2 ha, words2 hb, k1, k2]
  · rintro rfl; exact ⟨rfl, rfl⟩

/-- A number of the format, delivered, is its own bits. -/
theorem delS_self {f b : Nat} (m : Nat) (h : f ≤ 3) (hb : b < 2 ^ wF f) (hf : finF f b) : delS f m (neF f b) ((bl (sigF f b) : Int) - 1 + xpF f b) (FR (sigF f b) (xpF f b)) (XR (sigF f b) (xpF f b) false) = (b, 0) := by
  obtain ⟨h1, h2, h3, h4, h5, h6, h7, h8, h9⟩ := factsF h
  have dec := bits_dec h hb
  have hp := sigF_pos hf
  have hbp := bl_pos hp
  have htr := trF_lt (b := b) h
  have hex := exF_lt (b := b) h
  have key : atF f ((bl (sigF f b) : Int) - 1 + xpF f b) = xpF f b ∧ (bl (sigF f b) : Int) - 1 + xpF f b ≤ eF f ∧ (xpF f b - emF f + pF f - 1).toNat * 2 ^ (pF f - 1) + sigF f b = exF f b * 2 ^ (pF f - 1) + trF f b := by
    unfold atF emF
    by_cases hn : clsF f b = 1 ∨ clsF f b = 6
    · have hc := cls_norm hn
      have hs : sigF f b = 2 ^ (pF f - 1) + trF f b := by unfold sigF; rw [if_pos hc.1]
      have hx : xpF f b = (exF f b : Int) - eF f - pF f + 1 := by unfold xpF; rw [if_pos hc.1]
      have hbl : bl (sigF f b) = pF f - 1 + 1 := bl_unique (by omega) (by rw [Nat.pow_succ]; omega)
      refine ⟨by omega, by omega, ?_⟩
      rw [hs, hx, show ((exF f b : Int) - eF f - pF f + 1 - (1 - (eF f : Int)) + pF f - 1).toNat = exF f b - 1 by omega]
      obtain ⟨k, hk⟩ : ∃ k, exF f b = k + 1 := ⟨exF f b - 1, by omega⟩
      rw [hk, Nat.add_sub_cancel, Nat.add_mul, Nat.one_mul]
      omega
    · have hc := cls_sub (f := f) (b := b) (by unfold finF at hf; omega)
      have hs : sigF f b = trF f b := by unfold sigF; rw [if_neg (by simp [hc.1])]
      have hx : xpF f b = 2 - (eF f : Int) - pF f := by unfold xpF; rw [if_neg (by simp [hc.1])]
      have hbl : bl (sigF f b) ≤ pF f - 1 := bl_le_iff.2 (by omega)
      refine ⟨by omega, by omega, ?_⟩
      rw [hs, hx, hc.1, show (2 - (eF f : Int) - pF f - (1 - (eF f : Int)) + pF f - 1).toNat = 0 by omega]
  obtain ⟨k1, k2, k3⟩ := key
  have hX : XR (sigF f b) (xpF f b) false (xpF f b) = true := by
    unfold XR
    rw [Int.sub_self, (flq_0 _).2]
    rfl
  have hFv : FR (sigF f b) (xpF f b) (xpF f b) = sigF f b := by
    unfold FR
    rw [Int.sub_self, (flq_0 _).1]
  have hT : tkF m (neF f b) (FR (sigF f b) (xpF f b)) (XR (sigF f b) (xpF f b) false) (xpF f b) = sigF f b := by
    unfold tkF
    rw [hX, takS_exact, hFv]
  unfold delS
  rw [k1, hT, hX, if_neg (by omega), if_neg (by omega), if_pos rfl]
  unfold encN
  rw [k3, ← dec]

theorem Round_self {f m b : Nat} (h : f ≤ 3) (hm : m ≤ 4) (hb : b < 2 ^ wF f) (hf : finF f b) : ref09_Round.g (f : Int) (m : Int) (valF f b) = some (B2.of b, 0, 0) := by
  have hx := xpF_bounds h hf
  have hF := factsF h
  rw [valF_fin hf, exact_Round h hm (neF f b) (sigF_pos hf) (sigF_384 (b := b) h) (by omega), round_Pack_g h hm (neF f b) false (sigF_pos hf) (sigF_384 (b := b) h) (by omega) (by intro hc; cases hc), delS_self m h hb hf]
  rfl

/-! ### the document's sum -/
theorem ref06_Two_g (na nb_ : Bool) {a b : Nat} {ea eb : Int} (ha : bl a ≤ 1000) (hb : bl b ≤ 1000) (h1 : -40000 ≤ ea ∧ ea ≤ 40000) (h2 : -40000 ≤ eb ∧ eb ≤ 40000) :
    ref06_Two.g ⟨na, sOf a, sOf 1, ea⟩ ⟨nb_, sOf b, sOf 1, eb⟩ = some (sOf (a * 2 ^ (ea - min ea eb).toNat), sOf (b * 2 ^ (eb - min ea eb).toNat), min ea eb, 0) := by
  have n1 : nb a ≤ 125 := bl_dvd_nb (by omega)
  have n2 : nb b ≤ 125 := bl_dvd_nb (by omega)
  have m1 : ref05_Mul.g (sOf a) (sOf 1) = some (sOf a, 0) := by
    have := ref05_Mul_g (a := a) (b := 1) (by rw [nb_one]; omega) (by rw [Nat.mul_one]; omega)
    rwa [Nat.mul_one] at this
  have m2 : ref05_Mul.g (sOf b) (sOf 1) = some (sOf b, 0) := by
    have := ref05_Mul_g (a := b) (b := 1) (by rw [nb_one]; omega) (by rw [Nat.mul_one]; omega)
    rwa [Nat.mul_one] at this
  have z : (!((0 : Int) == 0)) = false := rfl
  unfold ref06_Two.g
  dsimp only
  by_cases c : eb < ea
  · obtain ⟨k, hk⟩ : ∃ k : Nat, ea - eb = k := ⟨(ea - eb).toNat, by omega⟩
    have l1 := ref05_Left_g (a := a) (k := k) (by omega) (by intro _; omega)
    have l2 := ref05_Left_g (a := b) (k := 0) (by omega) (by intro _; omega)
    rw [show ((0 : Nat) : Int) = (0 : Int) from rfl] at l2
    have w1 : IntKind.i64.wrap (k : Int) = (k : Int) := i64_nat (by omega)
    have w2 : IntKind.i64.wrap (0 : Int) = (0 : Int) := rfl
    rw [decide_eq_true c, bT, show min ea eb = eb by omega, hk, Int.sub_self, Int.toNat_natCast]
    simp only [m1, m2, obind, z, bF, w1, w2, l1, l2]
    rfl
  · obtain ⟨k, hk⟩ : ∃ k : Nat, eb - ea = k := ⟨(eb - ea).toNat, by omega⟩
    have l1 := ref05_Left_g (a := b) (k := k) (by omega) (by intro _; omega)
    have l2 := ref05_Left_g (a := a) (k := 0) (by omega) (by intro _; omega)
    rw [show ((0 : Nat) : Int) = (0 : Int) from rfl] at l2
    have w1 : IntKind.i64.wrap (k : Int) = (k : Int) := i64_nat (by omega)
    have w2 : IntKind.i64.wrap (0 : Int) = (0 : Int) := rfl
    rw [decide_eq_false c, bF, show min ea eb = ea by omega, hk, Int.sub_self, Int.toNat_natCast]
    simp only [m1, m2, obind, z, bF, w1, w2, l1, l2]
    rfl

/-- The sum of two numbers: what stands in the lower one's unit. -/
def sumN (na nb_ : Bool) (A B : Nat) : Nat := if na = nb_ then A + B else if B ≤ A then A - B else B - A
def sumS (na nb_ : Bool) (A B : Nat) : Bool := if na = nb_ then na else if B ≤ A then na else nb_
theorem sumN_mul (na nb_ : Bool) (A B k : Nat) (hk : 0 < k) : sumN na nb_ (A * k) (B * k) = sumN na nb_ A B * k ∧ sumS na nb_ (A * k) (B * k) = sumS na nb_ A B := by
  have hle : B * k ≤ A * k ↔ B ≤ A := Nat.mul_le_mul_right_iff hk
  unfold sumN sumS
  by_cases h : na = nb_
  · rw [if_pos h, if_pos h, if_pos h, if_pos h, Nat.add_mul]; exact ⟨rfl, rfl⟩
  · rw [if_neg h, if_neg h, if_neg h, if_neg h]
    by_cases c : B ≤ A
    · rw [if_pos c, if_pos c, if_pos (hle.2 c), if_pos (hle.2 c), Nat.sub_mul]; exact ⟨rfl, rfl⟩
    · rw [if_neg c, if_neg c, if_neg (fun q => c (hle.1 q)), if_neg (fun q => c (hle.1 q)), Nat.sub_mul]; exact ⟨rfl, rfl⟩
theorem sumN_le (na nb_ : Bool) (A B : Nat) : sumN na nb_ A B ≤ A + B := by
  unfold sumN; split
  · omega
  · split <;> omega

theorem ref06_Add_g (na nb_ : Bool) {a b : Nat} {ea eb : Int} (ha0 : a ≠ 0) (hb0 : b ≠ 0) (ha : bl a ≤ 1000) (hb : bl b ≤ 1000) (h1 : -40000 ≤ ea ∧ ea ≤ 40000) (h2 : -40000 ≤ eb ∧ eb ≤ 40000) :
    ref06_Add.g ⟨na, sOf a, sOf 1, ea⟩ ⟨nb_, sOf b, sOf 1, eb⟩ = ref06_Make.g (sumS na nb_ (a * 2 ^ (ea - min ea eb).toNat) (b * 2 ^ (eb - min ea eb).toNat)) (sOf (sumN na nb_ (a * 2 ^ (ea - min ea eb).toNat) (b * 2 ^ (eb - min ea eb).toNat))) (sOf 1) (min ea eb) := by
  have b1 : bl (a * 2 ^ (ea - min ea eb).toNat) ≤ 81000 := by rw [bl_mul_pow ha0]; omega
  have b2 : bl (b * 2 ^ (eb - min ea eb).toNat) ≤ 81000 := by rw [bl_mul_pow hb0]; omega
  have h11 : ref05_Mul.g (sOf 1) (sOf 1) = some (sOf 1, 0) := ref05_Mul_g (a := 1) (b := 1) (by rw [nb_one]; omega) (by rw [Nat.mul_one, nb_one]; omega)
  have z : (!((0 : Int) == 0)) = false := rfl
  unfold ref06_Add.g
  rw [ref06_Two_g na nb_ ha hb h1 h2, obind, h11]
  dsimp only
  rw [emptyS, strEq_sOf, decide_eq_false ha0, bF, strEq_sOf, decide_eq_false hb0, bF, z, bF, obind, z, bF]
  generalize a * 2 ^ (ea - min ea eb).toNat = A at *
  generalize b * 2 ^ (eb - min ea eb).toNat = B at *
  have nA : nb A ≤ 16384 := bl_dvd_nb (by omega)
  have nB : nb B ≤ 16384 := bl_dvd_nb (by omega)
  have eta : ∀ o : Option (Exc × Int), (o.bind fun (r : Exc × Int) => some (r.fst, r.snd)) = o := by intro o; cases o <;> rfl
  unfold sumN sumS
  by_cases hs : na = nb_
  · subst hs
    have hab : bl (A + B) ≤ 81000 + 1 := bl_add_le b1 b2
    rw [beq_self_eq_true, bT, ref05_Add_g (bl_dvd_nb (by omega)), obind, z, bF, eta, if_pos rfl, if_pos rfl]
  · rw [show (na == nb_) = false by rw [beq_eq_false_iff_ne]; exact hs, bF, ref05_Cmp_g (by omega) (by omega), obind, if_neg hs, if_neg hs]
    unfold cmpN
    by_cases c : B ≤ A
    · rw [if_neg (by omega), decide_eq_true (by split <;> decide), bT, ref05_Sub_g (by omega) c, obind, eta, if_pos c, if_pos c]
    · rw [if_pos (by omega), decide_eq_false (by decide), bF, ref05_Sub_g (by omega) (by omega), obind, eta, if_neg c, if_neg c]

/-- The sum of two numbers, told by their own figures. -/
theorem Add_sig (na nb_ : Bool) {a b : Nat} {xa xb l : Int} {i j : Nat} (ha0 : a ≠ 0) (hb0 : b ≠ 0) (ha : bl a ≤ 1000) (hb : bl b ≤ 1000) (h1 : -38000 ≤ xa ∧ xa ≤ 38000) (h2 : -38000 ≤ xb ∧ xb ≤ 38000) (hi : xa = l + i) (hj : xb = l + j) (hl : -40000 ≤ l) :
    ref06_Add.g ⟨na, sOf (oddN a), sOf 1, xa + tz a⟩ ⟨nb_, sOf (oddN b), sOf 1, xb + tz b⟩ = some (if sumN na nb_ (a * 2 ^ i) (b * 2 ^ j) = 0 then ⟨false, sOf 0, sOf 1, 0⟩ else ⟨sumS na nb_ (a * 2 ^ i) (b * 2 ^ j), sOf (oddN (sumN na nb_ (a * 2 ^ i) (b * 2 ^ j))), sOf 1, l + tz (sumN na nb_ (a * 2 ^ i) (b * 2 ^ j))⟩, 0) := by
  have oa := oddN_ne ha0
  have ob := oddN_ne hb0
  have ba := bl_oddN ha0
  have bb := bl_oddN hb0
  have ta := tz_lt_bl ha0
  have tb := tz_lt_bl hb0
  rw [ref06_Add_g na nb_ oa ob (by omega) (by omega) (by omega) (by omega)]
  obtain ⟨e, he⟩ : ∃ e, min (xa + ((tz a : Nat) : Int)) (xb + ((tz b : Nat) : Int)) = e := ⟨_, rfl⟩
  rw [he]
  obtain ⟨k, hk⟩ : ∃ k : Nat, e = l + k := ⟨(e - l).toNat, by omega⟩
  have eA : oddN a * 2 ^ (xa + ((tz a : Nat) : Int) - e).toNat * 2 ^ k = a * 2 ^ i := by
    rw [Nat.mul_assoc, ← Nat.pow_add, show (xa + ((tz a : Nat) : Int) - e).toNat + k = tz a + i by omega, Nat.pow_add, ← Nat.mul_assoc, oddN_mul ha0]
  have eB : oddN b * 2 ^ (xb + ((tz b : Nat) : Int) - e).toNat * 2 ^ k = b * 2 ^ j := by
    rw [Nat.mul_assoc, ← Nat.pow_add, show (xb + ((tz b : Nat) : Int) - e).toNat + k = tz b + j by omega, Nat.pow_add, ← Nat.mul_assoc, oddN_mul hb0]
  have bA : bl (oddN a * 2 ^ (xa + ((tz a : Nat) : Int) - e).toNat) ≤ 81000 := by rw [bl_mul_pow oa]; omega
  have bB : bl (oddN b * 2 ^ (xb + ((tz b : Nat) : Int) - e).toNat) ≤ 81000 := by rw [bl_mul_pow ob]; omega
  have hm := sumN_mul na nb_ (oddN a * 2 ^ (xa + ((tz a : Nat) : Int) - e).toNat) (oddN b * 2 ^ (xb + ((tz b : Nat) : Int) - e).toNat) (2 ^ k) (Nat.pow_pos (by decide))
  rw [eA, eB] at hm
  have hle := sumN_le na nb_ (oddN a * 2 ^ (xa + ((tz a : Nat) : Int) - e).toNat) (oddN b * 2 ^ (xb + ((tz b : Nat) : Int) - e).toNat)
  generalize oddN a * 2 ^ (xa + ((tz a : Nat) : Int) - e).toNat = A at *
  generalize oddN b * 2 ^ (xb + ((tz b : Nat) : Int) - e).toNat = B at *
  rw [hm.1, hm.2]
  have bT' : bl (sumN na nb_ A B) ≤ 81001 := by
    exact Nat.le_trans (bl_mono hle) (bl_add_le bA bB)
  generalize sumN na nb_ A B = T at *
  by_cases h0 : T = 0
  · subst h0
    rw [ref06_Make_zero _ (by rw [nb_one]; omega) (by decide) (by omega), Nat.zero_mul, if_pos rfl]
  · have h0' : T * 2 ^ k ≠ 0 := Nat.mul_ne_zero h0 (Nat.ne_of_gt (Nat.pow_pos (by decide)))
    have tT := tz_lt_bl h0
    rw [ref06_Make_1 _ (bl_dvd_nb (by omega)) h0 (by omega) (by omega), if_neg h0', odd_mul_pow h0, tz_mul_pow h0]
    rw [show e + ((tz T : Nat) : Int) = l + ((tz T + k : Nat) : Int) by omega]

/-- A sum with a jammed lower part, against the exact one. -/
theorem jam_sum {nh nl : Bool} {H L W g k : Nat} (hL : L * 2 ^ g = W ∨ (L % 2 = 1 ∧ H % 2 = 0 ∧ (L - 1) * 2 ^ g < W ∧ W < (L + 1) * 2 ^ g ∧ L + 2 ^ k ≤ H)) :
    sumS nh nl H L = sumS nh nl (H * 2 ^ g) W ∧ (sumN nh nl (H * 2 ^ g) W = sumN nh nl H L * 2 ^ g ∨ (sumN nh nl H L % 2 = 1 ∧ (sumN nh nl H L - 1) * 2 ^ g < sumN nh nl (H * 2 ^ g) W ∧ sumN nh nl (H * 2 ^ g) W < (sumN nh nl H L + 1) * 2 ^ g ∧ k + 1 ≤ bl (sumN nh nl H L))) := by
  have hp : 0 < 2 ^ g := Nat.pow_pos (by decide)
  rcases hL with rfl | ⟨h1, h2, h3, h4, h5⟩
  · have := sumN_mul nh nl H L (2 ^ g) hp
    exact ⟨this.2.symm, Or.inl this.1⟩
  · have hk : 0 < 2 ^ k := Nat.pow_pos (by decide)
    have e1 : (L + 1) * 2 ^ g ≤ H * 2 ^ g := Nat.mul_le_mul_right _ (by omega)
    unfold sumS sumN
    by_cases hs : nh = nl
    · rw [if_pos hs, if_pos hs, if_pos hs, if_pos hs]
      have hb : 2 ^ k ≤ H + L := by omega
      refine ⟨rfl, Or.inr ⟨by omega, ?_, ?_, lt_bl_iff.2 hb⟩⟩
      · rw [show H + L - 1 = H + (L - 1) by omega, Nat.add_mul]; omega
      · rw [Nat.add_assoc, Nat.add_mul]; omega
    · rw [if_neg hs, if_neg hs, if_neg hs, if_neg hs, if_pos (by omega), if_pos (by omega), if_pos (by omega), if_pos (by omega)]
      have hb : 2 ^ k ≤ H - L := by omega
      refine ⟨rfl, Or.inr ⟨by omega, ?_, ?_, lt_bl_iff.2 hb⟩⟩
      · rw [show H - L - 1 = H - (L + 1) by omega, Nat.sub_mul]; omega
      · rw [show H - L + 1 = H - (L - 1) by omega, Nat.sub_mul]
        have : (L - 1) * 2 ^ g ≤ H * 2 ^ g := Nat.mul_le_mul_right _ (by omega)
        omega
/-- What is moved right with a last bit that tells the rest. -/
theorem jam_low {W g : Nat} : (W / 2 ^ g ||| (decide (W % 2 ^ g ≠ 0)).toNat) * 2 ^ g = W ∧ W % 2 ^ g = 0 ∨ (W % 2 ^ g ≠ 0 ∧ (W / 2 ^ g ||| (decide (W % 2 ^ g ≠ 0)).toNat) % 2 = 1 ∧ ((W / 2 ^ g ||| (decide (W % 2 ^ g ≠ 0)).toNat) - 1) * 2 ^ g < W ∧ W < ((W / 2 ^ g ||| (decide (W % 2 ^ g ≠ 0)).toNat) + 1) * 2 ^ g ∧ (W / 2 ^ g ||| (decide (W % 2 ^ g ≠ 0)).toNat) ≤ W / 2 ^ g + 1) := by
  have hp : 0 < 2 ^ g := Nat.pow_pos (by decide)
  have e := Nat.mod_add_div W (2 ^ g)
  have hm := Nat.mod_lt W hp
  by_cases h : W % 2 ^ g = 0
  · left
    rw [decide_eq_false (by omega), Bool.toNat_false, Nat.or_zero, Nat.mul_comm]
    exact ⟨by omega, h⟩
  · right
    rw [decide_eq_true h, Bool.toNat_true]
    generalize W / 2 ^ g = q at *
    generalize W % 2 ^ g = r at *
    generalize 2 ^ g = P at *
    have ho : q ||| 1 = if q % 2 = 1 then q else q + 1 := by
      obtain ⟨t, ht⟩ : ∃ t, q = 2 * t ∨ q = 2 * t + 1 := ⟨q / 2, by omega⟩
      have key : ∀ t : Nat, t * 2 ^ 1 ||| 1 = t * 2 ^ 1 + 1 := fun t => by rw [Nat.mul_comm, Nat.two_pow_add_eq_or_of_lt (by decide)]
      rcases ht with rfl | rfl
      · rw [if_neg (by omega)]
        have := key t
        rwa [Nat.pow_one, Nat.mul_comm] at this
      · rw [if_pos (by omega)]
        have := key t
        rw [Nat.pow_one, Nat.mul_comm] at this
        rw [← this, Nat.or_assoc]
        rfl
    rw [ho]
    split
    · rename_i hq
      refine ⟨h, hq, ?_, ?_, by omega⟩
      · rw [Nat.sub_mul, Nat.one_mul, Nat.mul_comm q]; omega
      · rw [Nat.add_mul, Nat.one_mul, Nat.mul_comm q]; omega
    · rename_i hq
      refine ⟨h, by omega, ?_, ?_, by omega⟩
      · rw [Nat.add_sub_cancel, Nat.mul_comm q]; omega
      · rw [Nat.add_mul, Nat.add_mul, Nat.one_mul, Nat.mul_comm q]; omega

theorem jam_Right_g {a : Nat} (ha : a < 2 ^ 384) (n : Int) : jam_Right.g (W6.of a) n = some (W6.of (a / 2 ^ (min n.toNat 384) ||| (decide (a % 2 ^ (min n.toNat 384) ≠ 0)).toNat)) := by
  unfold jam_Right.g
  rw [wide_Right_g ha, obind]
  by_cases h : a % 2 ^ (min n.toNat 384) ≠ 0
  · rw [decide_eq_true h, bT]
    simp only [of_w0, of_w1, of_w2, of_w3, of_w4, of_w5]
    rw [show (1 : Int) = ((1 : Nat) : Int) from rfl, or_u64 (wd_lt _ _) (by decide)]
    simp only [W6.of, wd_or, Bool.toNat_true, wd_of_lt (show 1 < 2 ^ 64 by decide) (show 0 < 1 by decide), wd_of_lt (show 1 < 2 ^ 64 by decide) (show 0 < 2 by decide), wd_of_lt (show 1 < 2 ^ 64 by decide) (show 0 < 3 by decide), wd_of_lt (show 1 < 2 ^ 64 by decide) (show 0 < 4 by decide), wd_of_lt (show 1 < 2 ^ 64 by decide) (show 0 < 5 by decide), Nat.or_zero]
    rfl
  · rw [decide_eq_false h, bF, Bool.toNat_false, Nat.or_zero]

end Go.Proofs.YtnfbcofieobkkaaGreatDoor
