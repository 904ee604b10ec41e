/- Sums and differences: the program's answer and the document's. -/
import Derived.Test.YtnfbcofieobkkaaGreatDoorMA0
import Derived.Test.YtnfbcofieobkkaaGreatDoorH1
import Derived.Test.YtnfbcofieobkkaaGreatDoorCA
import Derived.Test.YtnfbcofieobkkaaGreatDoorPL11
namespace Go.Proofs.YtnfbcofieobkkaaGreatDoor
open Go Go.Proofs Ev
set_option linter.unusedVariables false
set_option exponentiation.threshold 512
set_option maxRecDepth 100000
set_option linter.unusedSimpArgs false

/-- The document's answer to a finite sum. -/
def docS (f m : Nat) (s : Bool) (T : Nat) (l : Int) : Option (B2 × Int × Int) := if T = 0 then some (B2.of (sgF f (decide (m = 2))), 0, 0) else ref09_Round.g (f : Int) (m : Int) ⟨s, sOf (oddN T), sOf 1, l + tz T⟩

theorem low_jam {s d : Nat} (hs : bl s ≤ 113) (hd : 200 ≤ d) : jam_Right.g (W6.of (s * 2 ^ 2)) ((d - 200 : Nat) : Int) = some (W6.of (s * 2 ^ 2 / 2 ^ (d - 200) ||| (decide (s * 2 ^ 2 % 2 ^ (d - 200) ≠ 0)).toNat)) := by
  have h1 : s * 2 ^ 2 < 2 ^ 115 := by
    have := bl_le_iff.1 hs
    omega
  have h384 : s * 2 ^ 2 < 2 ^ 384 := Nat.lt_trans h1 (by decide)
  rw [jam_Right_g h384, Int.toNat_natCast]
  by_cases c : d - 200 ≤ 384
  · rw [Nat.min_eq_left c]
  · rw [Nat.min_eq_right (by omega)]
    have hbig : s * 2 ^ 2 < 2 ^ (d - 200) := Nat.lt_of_lt_of_le h384 (Nat.pow_le_pow_right (by decide) (by omega))
    rw [Nat.div_eq_of_lt h384, Nat.mod_eq_of_lt h384, Nat.div_eq_of_lt hbig, Nat.mod_eq_of_lt hbig]

theorem sum_core {f m : Nat} (h : f ≤ 3) (hm : m ≤ 4) (nh nl : Bool) {sh sl d : Nat} {xh xl : Int} (h0 : sh ≠ 0) (l0 : sl ≠ 0) (hh : bl sh ≤ 113) (hl : bl sl ≤ 113) (hx : xh = xl + d) (b1 : -18000 ≤ xl ∧ xl ≤ 18000) (b2 : -18000 ≤ xh ∧ xh ≤ 18000) :
    ((wide_Left.g (W6.of sh) (minI (IntKind.i64.wrap (xh - xl)) (200 : Int))).bind fun (r_11 : W6 × Bool) => (wide_Left.g (W6.of sl) (2 : Int)).bind fun (r_12 : W6 × Bool) => (wide_Left.g r_11.fst (2 : Int)).bind fun (r_13 : W6 × Bool) => (jam_Right.g r_12.fst (IntKind.i64.wrap (IntKind.i64.wrap (xh - minI (IntKind.i64.wrap (xh - xl)) (200 : Int)) - xl))).bind fun (r_14 : W6) => bif nh == nl then (wide_Add.g r_13.fst r_14).bind fun (r_18 : W6 × Bool) => (round_Pack.g (f : Int) (m : Int) { neg := nh, sig := r_18.fst, exp := IntKind.i64.wrap (IntKind.i64.wrap (xh - minI (IntKind.i64.wrap (xh - xl)) (200 : Int)) - (2 : Int)), more := false : Rgh }).bind fun (r : B2 × Int × Int) => some (r.fst, r.snd.fst, r.snd.snd) else (wide_Cmp.g r_13.fst r_14).bind fun (r_18 : Int) => bif r_18 == (0 : Int) then some (B2.of (sgF f (decide (m = 2))), (0 : Int), (0 : Int)) else bif r_18 == (1 : Int) then (wide_Sub.g r_13.fst r_14).bind fun (r_19 : W6 × Bool) => (round_Pack.g (f : Int) (m : Int) { neg := nh, sig := r_19.fst, exp := IntKind.i64.wrap (IntKind.i64.wrap (xh - minI (IntKind.i64.wrap (xh - xl)) (200 : Int)) - (2 : Int)), more := false : Rgh }).bind fun (r : B2 × Int × Int) => some (r.fst, r.snd.fst, r.snd.snd) else (wide_Sub.g r_14 r_13.fst).bind fun (r_19 : W6 × Bool) => (round_Pack.g (f : Int) (m : Int) { neg := nl, sig := r_19.fst, exp := IntKind.i64.wrap (IntKind.i64.wrap (xh - minI (IntKind.i64.wrap (xh - xl)) (200 : Int)) - (2 : Int)), more := false : Rgh }).bind fun (r : B2 × Int × Int) => some (r.fst, r.snd.fst, r.snd.snd)) = docS f m (sumS nh nl (sh * 2 ^ d) sl) (sumN nh nl (sh * 2 ^ d) sl) xl := by
  have hF := factsF h
  have hsh := bl_le_iff.1 hh
  have hsl := bl_le_iff.1 hl
  have p384 : (2 : Nat) ^ 113 * 2 ^ 210 < 2 ^ 384 := by decide
  obtain ⟨n, hn⟩ : ∃ n : Nat, n = min d 200 := ⟨_, rfl⟩
  obtain ⟨g, hg⟩ : ∃ g : Nat, g = d - n := ⟨_, rfl⟩
  have hmin : minI (IntKind.i64.wrap (xh - xl)) (200 : Int) = (n : Int) := by
    rw [wrap_i64 (by omega) (by omega), minI_eq]; omega
  have hn2 : sh * 2 ^ n < 2 ^ 384 := by
    have : 2 ^ n ≤ 2 ^ 210 := Nat.pow_le_pow_right (by decide) (by omega)
    have := Nat.mul_le_mul (Nat.le_of_lt hsh) this
    omega
  have hH : sh * 2 ^ n * 2 ^ 2 < 2 ^ 383 := bl_le_iff.1 (by rw [bl_mul_pow (Nat.mul_ne_zero h0 (Nat.ne_of_gt (Nat.pow_pos (by decide)))), bl_mul_pow h0]; omega)
  have p383 : (2 : Nat) ^ 383 + 2 ^ 383 = 2 ^ 384 := by decide
  have p116 : (2 : Nat) ^ 116 < 2 ^ 383 := by decide
  have L2 : ∀ x, x < 2 ^ 384 → wide_Left.g (W6.of x) (2 : Int) = some (W6.of (x * 2 ^ 2), decide (2 ^ 384 ≤ x * 2 ^ 2)) := fun x hx => wide_Left_g hx 2
  have hge : IntKind.i64.wrap (IntKind.i64.wrap (xh - (n : Int)) - xl) = (g : Int) := by
    rw [wrap_i64 (x := xh - (n : Int)) (by omega) (by omega), wrap_i64 (by omega) (by omega)]; omega
  have he : IntKind.i64.wrap (IntKind.i64.wrap (xh - (n : Int)) - (2 : Int)) = xl - 2 + g := by
    rw [wrap_i64 (x := xh - (n : Int)) (by omega) (by omega), wrap_i64 (by omega) (by omega)]; omega
  obtain ⟨L, hL, hLt, hLj⟩ : ∃ L, jam_Right.g (W6.of (sl * 2 ^ 2)) (g : Int) = some (W6.of L) ∧ L < 2 ^ 116 ∧ (L * 2 ^ g = sl * 2 ^ 2 ∨ (L % 2 = 1 ∧ (sh * 2 ^ n * 2 ^ 2) % 2 = 0 ∧ (L - 1) * 2 ^ g < sl * 2 ^ 2 ∧ sl * 2 ^ 2 < (L + 1) * 2 ^ g ∧ L + 2 ^ 190 ≤ sh * 2 ^ n * 2 ^ 2)) := by
    by_cases c : d ≤ 200
    · have g0 : g = 0 := by omega
      subst g0
      refine ⟨sl * 2 ^ 2, ?_, by omega, Or.inl (by rw [Nat.pow_zero, Nat.mul_one])⟩
      rw [jam_Right_g (by omega), show min (((0 : Nat) : Int)).toNat 384 = 0 from rfl, Nat.pow_zero, Nat.div_one, Nat.mod_one]
      simp
    · have hj := low_jam hl (show 200 ≤ d by omega)
      rw [show d - 200 = g by omega] at hj
      have q : sl * 2 ^ 2 / 2 ^ g ≤ sl * 2 ^ 2 := Nat.div_le_self _ _
      rcases jam_low (W := sl * 2 ^ 2) (g := g) with ⟨k1, k2⟩ | ⟨k1, k2, k3, k4, k5⟩
      · refine ⟨_, hj, ?_, Or.inl k1⟩
        rw [k2, decide_eq_false (by omega), Bool.toNat_false, Nat.or_zero]
        omega
      · refine ⟨_, hj, by omega, Or.inr ⟨k2, by omega, k3, k4, ?_⟩⟩
        have hb : 2 ^ 200 ≤ sh * 2 ^ n := by
          rw [show n = 200 by omega]
          exact Nat.le_mul_of_pos_left _ (by omega)
        have p200 : (2 : Nat) ^ 116 + 2 ^ 190 ≤ 2 ^ 200 := by decide
        omega
  have hJ := jam_sum (nh := nh) (nl := nl) (H := sh * 2 ^ n * 2 ^ 2) (k := 190) hLj
  have hA : sh * 2 ^ n * 2 ^ 2 * 2 ^ g = sh * 2 ^ d * 2 ^ 2 := by
    rw [Nat.mul_assoc, Nat.mul_comm (2 ^ 2), ← Nat.mul_assoc, Nat.mul_assoc sh, ← Nat.pow_add, show n + g = d by omega]
  rw [hA] at hJ
  have hM := sumN_mul nh nl (sh * 2 ^ d) sl (2 ^ 2) (by decide)
  rw [hM.1, hM.2] at hJ
  -- what is packed
  have pack : ∀ V : Nat, V = sumN nh nl (sh * 2 ^ n * 2 ^ 2) L → V ≠ 0 → (round_Pack.g (f : Int) (m : Int) ⟨sumS nh nl (sh * 2 ^ d) sl, W6.of V, xl - 2 + g, false⟩).bind (fun (r : B2 × Int × Int) => some (r.fst, r.snd.fst, r.snd.snd)) = docS f m (sumS nh nl (sh * 2 ^ d) sl) (sumN nh nl (sh * 2 ^ d) sl) xl := by
    intro V hV hV0
    have eta : ∀ o : Option (B2 × Int × Int), (o.bind fun (r : B2 × Int × Int) => some (r.fst, r.snd.fst, r.snd.snd)) = o := by intro o; cases o <;> rfl
    rw [← hV] at hJ
    have hT : sumN nh nl (sh * 2 ^ d) sl ≠ 0 := by
      intro hc
      rw [hc, Nat.zero_mul] at hJ
      rcases hJ.2 with k | ⟨_, k, _⟩
      · have := Nat.mul_ne_zero hV0 (Nat.ne_of_gt (Nat.pow_pos (n := g) (show 0 < 2 by decide)))
        omega
      · omega
    have hV384 : V < 2 ^ 384 := by
      have := sumN_le nh nl (sh * 2 ^ n * 2 ^ 2) L
      omega
    rw [eta, jam_Round h hm _ (A := sumN nh nl (sh * 2 ^ d) sl * 2 ^ 2) (g := g) (Nat.mul_ne_zero hT (by decide)) hV0 hV384 (by omega) (by omega) (by
      rcases hJ.2 with k | ⟨k1, k2, k3, k4⟩
      · exact Or.inl k
      · exact Or.inr ⟨k1, k2, k3, by omega⟩)]
    unfold docS
    rw [if_neg hT, odd_mul_pow hT, tz_mul_pow hT, show xl - 2 + (g : Int) - g + ((tz (sumN nh nl (sh * 2 ^ d) sl) + 2 : Nat) : Int) = xl + ((tz (sumN nh nl (sh * 2 ^ d) sl) : Nat) : Int) by omega]
  rw [hmin, wide_Left_g (Nat.lt_trans hsh (by decide)), obind, L2 sl (by omega), obind, Int.toNat_natCast, Nat.min_eq_left (by omega)]
  dsimp only
  rw [L2 _ hn2, obind]
  dsimp only
  rw [hge, hL, obind, he]
  rw [← hJ.1] at pack
  by_cases hs : nh = nl
  · subst hs
    have hv : sumN nh nh (sh * 2 ^ n * 2 ^ 2) L = sh * 2 ^ n * 2 ^ 2 + L := by unfold sumN; rw [if_pos rfl]
    have hsg : sumS nh nh (sh * 2 ^ n * 2 ^ 2) L = nh := by unfold sumS; rw [if_pos rfl]
    have hpos : sh * 2 ^ n * 2 ^ 2 ≠ 0 := Nat.mul_ne_zero (Nat.mul_ne_zero h0 (Nat.ne_of_gt (Nat.pow_pos (by decide)))) (by decide)
    rw [beq_self_eq_true, bT, wide_Add_g (by omega) (by omega), obind]
    have := pack _ hv.symm (by omega)
    rw [hsg] at this
    rw [hJ.1.symm, hsg]
    exact this
  · have hz : (nh == nl) = false := by rw [beq_eq_false_iff_ne]; exact hs
    rw [hz, bF, wide_Cmp_g (by omega) (by omega), obind]
    generalize hHH : sh * 2 ^ n * 2 ^ 2 = H at *
    have hv : sumN nh nl H L = if L ≤ H then H - L else L - H := by unfold sumN; rw [if_neg hs]
    have hsg : sumS nh nl H L = if L ≤ H then nh else nl := by unfold sumS; rw [if_neg hs]
    unfold cmpN
    rcases Nat.lt_trichotomy H L with c | c | c
    · rw [if_pos c, show ((-1 : Int) == 0) = false from rfl, bF, show ((-1 : Int) == 1) = false from rfl, bF, wide_Sub_g (by omega) (by omega), obind]
      dsimp only
      rw [show (L + 2 ^ 384 - H) % 2 ^ 384 = L - H by rw [show L + 2 ^ 384 - H = L - H + 2 ^ 384 by omega, Nat.add_mod_right, Nat.mod_eq_of_lt (by omega)]]
      rw [if_neg (by omega)] at hv hsg
      have := pack _ hv.symm (by omega)
      rw [hsg] at this
      rw [hJ.1.symm, hsg]
      exact this
    · subst c
      rw [if_neg (Nat.lt_irrefl _), if_neg (Nat.lt_irrefl _), show ((0 : Int) == 0) = true from rfl, bT]
      rw [if_pos (Nat.le_refl _), Nat.sub_self] at hv
      have hT : sumN nh nl (sh * 2 ^ d) sl = 0 := by
        rw [hv] at hJ
        rcases hJ.2 with k | ⟨k, _⟩
        · rw [Nat.zero_mul] at k
          omega
        · omega
      unfold docS
      rw [if_pos hT]
    · rw [if_neg (by omega), if_pos c, show ((1 : Int) == 0) = false from rfl, bF, show ((1 : Int) == 1) = true from rfl, bT, wide_Sub_g (by omega) (by omega), obind]
      dsimp only
      rw [show (H + 2 ^ 384 - L) % 2 ^ 384 = H - L by rw [show H + 2 ^ 384 - L = H - L + 2 ^ 384 by omega, Nat.add_mod_right, Nat.mod_eq_of_lt (by omega)]]
      rw [if_pos (by omega)] at hv hsg
      have := pack _ hv.symm (by omega)
      rw [hsg] at this
      rw [hJ.1.symm, hsg]
      exact this

end Go.Proofs.YtnfbcofieobkkaaGreatDoor
