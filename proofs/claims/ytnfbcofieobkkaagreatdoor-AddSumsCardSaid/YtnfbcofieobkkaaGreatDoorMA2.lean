/- The laws of sums. -/
import Derived.Test.YtnfbcofieobkkaaGreatDoorMA
namespace Go.Proofs.YtnfbcofieobkkaaGreatDoor
open Go Go.Proofs Ev
set_option linter.unusedVariables false
set_option exponentiation.threshold 512
set_option maxRecDepth 100000
set_option linter.unusedSimpArgs false

theorem ref11_Nought_g {f : Nat} (m : Nat) (h : f ≤ 3) : ref11_Nought.g (f : Int) (m : Int) = some (B2.of (sgF f (decide (m = 2)))) := by
  unfold ref11_Nought.g
  rw [show ((m : Int) == 2) = decide (m = 2) from beqN m 2, ref07_Zero_g h, obind]

theorem sumS_swap {na nb_ : Bool} {A B : Nat} (h : sumN na nb_ A B ≠ 0) : sumS na nb_ A B = sumS nb_ na B A ∧ sumN na nb_ A B = sumN nb_ na B A := by
  unfold sumN sumS at *
  by_cases hs : na = nb_
  · subst hs
    rw [if_pos rfl, if_pos rfl, if_pos rfl, if_pos rfl, Nat.add_comm]
    exact ⟨rfl, rfl⟩
  · have hs' : ¬ nb_ = na := fun q => hs q.symm
    rw [if_neg hs] at h
    rw [if_neg hs, if_neg hs, if_neg hs', if_neg hs']
    rcases Nat.lt_trichotomy A B with c | c | c
    · simp only [if_neg (show ¬ B ≤ A by omega), if_pos (show A ≤ B by omega), and_self]
    · subst c
      rw [if_pos (Nat.le_refl _), Nat.sub_self] at h
      exact absurd rfl h
    · simp only [if_pos (show B ≤ A by omega), if_neg (show ¬ A ≤ B by omega), and_self]
theorem sumN_swap (na nb_ : Bool) (A B : Nat) : sumN na nb_ A B = sumN nb_ na B A := by
  unfold sumN
  by_cases hs : na = nb_
  · subst hs
    rw [if_pos rfl, if_pos rfl, Nat.add_comm]
  · have hs' : ¬ nb_ = na := fun q => hs q.symm
    rw [if_neg hs, if_neg hs']
    split <;> split <;> omega
theorem docS_swap (f m : Nat) (na nb_ : Bool) (A B : Nat) (l : Int) : docS f m (sumS na nb_ A B) (sumN na nb_ A B) l = docS f m (sumS nb_ na B A) (sumN nb_ na B A) l := by
  by_cases h : sumN na nb_ A B = 0
  · unfold docS
    rw [if_pos h, if_pos (by rw [← sumN_swap]; exact h)]
  · have := sumS_swap h
    rw [this.1, this.2]

theorem docS_some {f m : Nat} (h : f ≤ 3) (hm : m ≤ 4) (s : Bool) {T : Nat} {l : Int} (hT : bl T ≤ 36300) (hl : -18000 ≤ l ∧ l ≤ 18000) : ∃ v, docS f m s T l = some v := by
  unfold docS
  by_cases h0 : T = 0
  · rw [if_pos h0]; exact ⟨_, rfl⟩
  · have ho := oddN_ne h0
    have hb := bl_oddN h0
    have ht := tz_lt_bl h0
    rw [if_neg h0, ref09_Round_g h hm s (bl_dvd_nb (by omega)) (by rw [nb_one]; omega) (oddN_odd h0) (by decide) (Nat.gcd_one_right _) (by omega) (by rw [topQ_1 ho]; omega) (by omega)]
    exact ⟨_, rfl⟩

/-- The document's sum, rounded. -/
theorem doc_sum {f m a b : Nat} (h : f ≤ 3) {l : Int} {i j : Nat} (fa : finF f a) (fb : finF f b) (hi : xpF f a = l + i) (hj : xpF f b = l + j) (hl : -18000 ≤ l) :
    ((ref06_Add.g (valF f a) (valF f b)).bind fun (r : Exc × Int) => bif strEq r.fst.num { data := { toList := [] : Array UInt8 } : ByteArray } then some (B2.of (sgF f (decide (m = 2))), (0 : Int), (0 : Int)) else (ref09_Round.g (f : Int) (m : Int) r.fst).bind fun (r : B2 × Int × Int) => some (r.fst, r.snd.fst, r.snd.snd)) = docS f m (sumS (neF f a) (neF f b) (sigF f a * 2 ^ i) (sigF f b * 2 ^ j)) (sumN (neF f a) (neF f b) (sigF f a * 2 ^ i) (sigF f b * 2 ^ j)) l := by
  have sa := sig_small (b := a) h
  have sb := sig_small (b := b) h
  have xa := xpF_bounds h fa
  have xb := xpF_bounds h fb
  have hF := factsF h
  have eta : ∀ o : Option (B2 × Int × Int), (o.bind fun (r : B2 × Int × Int) => some (r.fst, r.snd.fst, r.snd.snd)) = o := by intro o; cases o <;> rfl
  rw [valF_fin fa, valF_fin fb, Add_sig (neF f a) (neF f b) (sigF_pos fa) (sigF_pos fb) (by omega) (by omega) (by omega) (by omega) hi hj (by omega), obind]
  dsimp only
  generalize sumN (neF f a) (neF f b) (sigF f a * 2 ^ i) (sigF f b * 2 ^ j) = T
  generalize sumS (neF f a) (neF f b) (sigF f a * 2 ^ i) (sigF f b * 2 ^ j) = s
  unfold docS
  by_cases h0 : T = 0
  · rw [if_pos h0, if_pos h0]
    dsimp only
    rw [emptyS, strEq_sOf, decide_eq_true rfl, bT]
  · rw [if_neg h0, if_neg h0]
    dsimp only
    rw [emptyS, strEq_sOf, decide_eq_false (oddN_ne h0), bF, eta]

theorem add_agree {f m a b : Nat} (hf : f < 256) (ha : a < 2 ^ 128) (hb : b < 2 ^ 128) : ∃ v, add_Add.g (f : Int) (m : Int) (B2.of a) (B2.of b) = some v ∧ ref11_Add.g (f : Int) (m : Int) (B2.of a) (B2.of b) = some v := by
  unfold add_Add.g ref11_Add.g
  rw [ref11_Fits_2_g ha hb, obind]
  by_cases hg : (f ≤ 3 ∧ m ≤ 4) ∧ a < 2 ^ wF f ∧ b < 2 ^ wF f
  · rw [decide_eq_true hg]
    obtain ⟨⟨h, hm⟩, ga, gb⟩ := hg
    rw [add_open_2_ok h hm ga gb, obind]
    simp only [Bool.not_true, bF, add_nan_g, add_below_g, add_inf_g, add_nought_g, obind, add_canonical_2_g a b h, ref08_IsNaN_g h ga, ref08_IsNaN_g h gb, ref11_Canonical_2_g h ga gb, ref08_IsInf_g h ga, ref08_IsInf_g h gb, ref08_IsZero_g h ga, ref08_IsZero_g h gb, shape_NaN_g h, ref07_NaN_g h, shape_Zero_g h, ref11_Nought_g m h, ptsF_cls, beqN, b2_eq ha hb, show ((m : Int) == 2) = decide (m = 2) from beqN m 2]
    by_cases na : 8 ≤ clsF f a
    · simp only [decide_eq_true na, bT, obind]
      exact ⟨_, rfl, rfl⟩
    · by_cases nb_ : 8 ≤ clsF f b
      · simp only [decide_eq_false na, decide_eq_true nb_, bT, bF, obind]
        exact ⟨_, rfl, rfl⟩
      · rw [← neF_cls (f := f) (b := a) (by omega), ← neF_cls (f := f) (b := b) (by omega)]
        simp only [decide_eq_false na, decide_eq_false nb_, bF]
        by_cases ia : clsF f a = 0 ∨ clsF f a = 7
        · by_cases ib : clsF f b = 0 ∨ clsF f b = 7
          · have hc : decide (clsF f a = clsF f b) = decide (a = b) := decide_eq_decide.2 (cls_bits h ga gb (Or.inl ⟨ia, ib⟩))
            simp only [decide_eq_true ia, decide_eq_true ib, bT, bF, obind, hc]
            cases decide (a = b)
            · exact ⟨_, rfl, rfl⟩
            · exact ⟨_, rfl, rfl⟩
          · simp only [decide_eq_true ia, decide_eq_false ib, bT, bF, obind]
            exact ⟨_, rfl, rfl⟩
        · by_cases ib : clsF f b = 0 ∨ clsF f b = 7
          · simp only [decide_eq_false ia, decide_eq_true ib, bT, bF, obind]
            exact ⟨_, rfl, rfl⟩
          · by_cases za : clsF f a = 3 ∨ clsF f a = 4
            · by_cases zb : clsF f b = 3 ∨ clsF f b = 4
              · have hc : decide (clsF f a = clsF f b) = decide (a = b) := decide_eq_decide.2 (cls_bits h ga gb (Or.inr ⟨za, zb⟩))
                simp only [decide_eq_false ia, decide_eq_false ib, decide_eq_true za, decide_eq_true zb, bT, bF, obind, hc]
                cases decide (a = b)
                · exact ⟨_, rfl, rfl⟩
                · exact ⟨_, rfl, rfl⟩
              · have fb : finF f b := by rcases cls_cases f b with c | c | c | c | c <;> first | exact c | (exfalso; omega)
                have va : valF f a = ⟨false, sOf 0, sOf 1, 0⟩ := valF_zero (by unfold finF; omega)
                have hA : ref06_Add.g ⟨false, sOf 0, sOf 1, 0⟩ (valF f b) = some (valF f b, 0) := by
                  unfold ref06_Add.g
                  dsimp only
                  rw [emptyS, strEq_sOf, decide_eq_true rfl, bT]
                have hnum : strEq (valF f b).num (sOf 0) = false := by
                  rw [valF_fin fb]
                  dsimp only
                  rw [strEq_sOf, decide_eq_false (oddN_ne (sigF_pos fb))]
                have cb := fin_cls fb
                simp only [decide_eq_false ia, decide_eq_false ib, decide_eq_true za, decide_eq_false zb, bT, bF, obind, ref08_Value_g h ga (show clsF f a ≠ 0 ∧ clsF f a < 7 by omega), ref08_Value_g h gb (show clsF f b ≠ 0 ∧ clsF f b < 7 by omega), va, hA, emptyS, hnum, Round_self h hm gb fb]
                exact ⟨_, rfl, rfl⟩
            · by_cases zb : clsF f b = 3 ∨ clsF f b = 4
              · have fa : finF f a := by rcases cls_cases f a with c | c | c | c | c <;> first | exact c | (exfalso; omega)
                have vb : valF f b = ⟨false, sOf 0, sOf 1, 0⟩ := valF_zero (by unfold finF; omega)
                have hnum : strEq (valF f a).num (sOf 0) = false := by
                  rw [valF_fin fa]
                  dsimp only
                  rw [strEq_sOf, decide_eq_false (oddN_ne (sigF_pos fa))]
                have hA : ref06_Add.g (valF f a) ⟨false, sOf 0, sOf 1, 0⟩ = some (valF f a, 0) := by
                  unfold ref06_Add.g
                  dsimp only
                  rw [emptyS, hnum, bF, strEq_sOf, decide_eq_true rfl, bT]
                have ca := fin_cls fa
                simp only [decide_eq_false ia, decide_eq_false ib, decide_eq_false za, decide_eq_true zb, bT, bF, obind, ref08_Value_g h ga (show clsF f a ≠ 0 ∧ clsF f a < 7 by omega), ref08_Value_g h gb (show clsF f b ≠ 0 ∧ clsF f b < 7 by omega), vb, hA, emptyS, hnum, Round_self h hm ga fa]
                exact ⟨_, rfl, rfl⟩
              · have fa : finF f a := by rcases cls_cases f a with c | c | c | c | c <;> first | exact c | (exfalso; omega)
                have fb : finF f b := by rcases cls_cases f b with c | c | c | c | c <;> first | exact c | (exfalso; omega)
                have ca := fin_cls fa
                have cb := fin_cls fb
                have xa := xpF_bounds h fa
                have xb := xpF_bounds h fb
                have sa := sig_small (b := a) h
                have sb := sig_small (b := b) h
                have hF := factsF h
                simp only [decide_eq_false ia, decide_eq_false ib, decide_eq_false za, decide_eq_false zb, bT, bF, obind, ptsF_fin fa, ptsF_fin fb, ref08_Value_g h ga (show clsF f a ≠ 0 ∧ clsF f a < 7 by omega), ref08_Value_g h gb (show clsF f b ≠ 0 ∧ clsF f b < 7 by omega)]
                have fin : ∀ (s : Bool) (x : Nat) (A B : Nat) (l : Int), bl A ≤ 36200 → bl B ≤ 36200 → -18000 ≤ l ∧ l ≤ 18000 → ∃ v, docS f m s (sumN (neF f a) (neF f b) A B) l = some v := fun s x A B l k1 k2 k3 => docS_some h hm s (Nat.le_trans (bl_mono (sumN_le _ _ A B)) (Nat.le_trans (bl_add_le k1 k2) (by decide))) k3
                have hpa := sigF_pos fa
                have hpb := sigF_pos fb
                by_cases hx : xpF f a < xpF f b
                · obtain ⟨d, hd⟩ : ∃ d : Nat, xpF f b = xpF f a + d := ⟨(xpF f b - xpF f a).toNat, by omega⟩
                  have D := doc_sum (m := m) h fa fb (l := xpF f a) (i := 0) (j := d) (by omega) hd (by omega)
                  have C := sum_core h hm (neF f b) (neF f a) (sigF_pos fb) (sigF_pos fa) sb.2 sa.2 hd (by omega) (by omega)
                  rw [Nat.pow_zero, Nat.mul_one, docS_swap] at D
                  rw [decide_eq_true hx, bT]
                  obtain ⟨v, hv⟩ := fin (sumS (neF f b) (neF f a) (sigF f b * 2 ^ d) (sigF f a)) 0 (sigF f a) (sigF f b * 2 ^ d) (xpF f a) (by omega) (by rw [bl_mul_pow hpb]; omega) (by omega)
                  rw [sumN_swap] at hv
                  exact ⟨v, C.trans hv, D.trans hv⟩
                · obtain ⟨d, hd⟩ : ∃ d : Nat, xpF f a = xpF f b + d := ⟨(xpF f a - xpF f b).toNat, by omega⟩
                  have D := doc_sum (m := m) h fa fb (l := xpF f b) (i := d) (j := 0) hd (by omega) (by omega)
                  have C := sum_core h hm (neF f a) (neF f b) (sigF_pos fa) (sigF_pos fb) sa.2 sb.2 hd (by omega) (by omega)
                  rw [Nat.pow_zero, Nat.mul_one] at D
                  rw [decide_eq_false hx, bF]
                  obtain ⟨v, hv⟩ := fin (sumS (neF f a) (neF f b) (sigF f a * 2 ^ d) (sigF f b)) 0 (sigF f a * 2 ^ d) (sigF f b) (xpF f b) (by rw [bl_mul_pow hpa]; omega) (by omega) (by omega)
                  exact ⟨v, C.trans hv, D.trans hv⟩
  · obtain ⟨q, hq⟩ := add_open_2_bad hf ha hb hg
    rw [hq, obind, decide_eq_false hg]
    exact ⟨_, rfl, rfl⟩

/-! ### the sign, turned -/
def flN (f b : Nat) : Nat := exF f b * 2 ^ (pF f - 1) + trF f b + sgF f (!neF f b)
theorem body_lt {f b : Nat} (h : f ≤ 3) : exF f b * 2 ^ (pF f - 1) + trF f b < 2 ^ (wF f - 1) := top_field h (exF_lt h) (trF_lt h)
theorem flN_lt {f b : Nat} (h : f ≤ 3) : flN f b < 2 ^ wF f := by
  have hF := factsF h
  have h1 := body_lt (b := b) h
  have hw : (2 : Nat) ^ wF f = 2 ^ (wF f - 1) * 2 := by rw [← Nat.pow_succ]; congr 1; omega
  unfold flN sgF
  split <;> omega
theorem xor_top {n k : Nat} (hn : n < 2 ^ k) : n ^^^ 2 ^ k = n + 2 ^ k := by
  have e : n + 2 ^ k = 2 ^ k ||| n := by
    have := Nat.two_pow_add_eq_or_of_lt hn 1
    rw [Nat.mul_one] at this
    omega
  rw [e]
  apply Nat.eq_of_testBit_eq
  intro i
  rw [Nat.testBit_xor, Nat.testBit_or, Nat.testBit_two_pow]
  by_cases c : k = i
  · subst c
    rw [Nat.testBit_lt_two_pow hn]
    simp
  · rw [decide_eq_false c]
    simp
theorem xor_sign {f b : Nat} (h : f ≤ 3) (hb : b < 2 ^ wF f) : b ^^^ 2 ^ (wF f - 1) = flN f b := by
  have d := bits_dec h hb
  have hl := body_lt (b := b) h
  unfold flN
  rw (occs := .pos [1]) [d]
  generalize exF f b * 2 ^ (pF f - 1) + trF f b = n at *
  unfold sgF
  cases neF f b
  · simp only [Bool.not_false, if_true, Bool.false_eq_true, if_false, Nat.add_zero]
    exact xor_top hl
  · simp only [Bool.not_true, if_true, Bool.false_eq_true, if_false, Nat.add_zero]
    rw [← xor_top hl, Nat.xor_assoc, Nat.xor_self, Nat.xor_zero]
theorem wd_xor (a b i : Nat) : wd (a ^^^ b) i = wd a i ^^^ wd b i := by
  apply Nat.eq_of_testBit_eq
  intro j
  rw [testBit_wd, Nat.testBit_xor, Nat.testBit_xor, testBit_wd, testBit_wd]
  cases decide (j < 64) <;> simp
theorem kind_Flip_g {f b : Nat} (h : f ≤ 3) (hb : b < 2 ^ wF f) : kind_Flip.g (f : Int) (B2.of b) = some (B2.of (flN f b)) := by
  have hF := factsF h
  have h128 : b < 2 ^ 128 := Nat.lt_of_lt_of_le hb (Nat.pow_le_pow_right (by decide) (by omega))
  unfold kind_Flip.g
  rw [shape_Fits_g (by omega) h128, obind, decide_eq_true ⟨h, hb⟩, Bool.not_true, bF, shape_Zero_g h, obind]
  have e1 : (B2.of b).hi = ((wd b 1 : Nat) : Int) := rfl
  have e2 : (B2.of b).lo = ((wd b 0 : Nat) : Int) := rfl
  have e3 : (B2.of (sgF f true)).hi = ((wd (2 ^ (wF f - 1)) 1 : Nat) : Int) := rfl
  have e4 : (B2.of (sgF f true)).lo = ((wd (2 ^ (wF f - 1)) 0 : Nat) : Int) := rfl
  rw [e1, e2, e3, e4, xor_u64 (wd_lt _ _) (wd_lt _ _), xor_u64 (wd_lt _ _) (wd_lt _ _), ← wd_xor, ← wd_xor, xor_sign h hb]
  rfl
theorem ref08_Flip_g {f b : Nat} (h : f ≤ 3) (hb : b < 2 ^ wF f) : ref08_Flip.g (f : Int) (B2.of b) = some (B2.of (flN f b)) := by
  have hF := factsF h
  have h128 : b < 2 ^ 128 := Nat.lt_of_lt_of_le hb (Nat.pow_le_pow_right (by decide) (by omega))
  unfold ref08_Flip.g
  rw [ref07_Fits_g h128, obind, decide_eq_true ⟨h, hb⟩, Bool.not_true, bF, ref07_Fields_g h hb, obind]
  dsimp only
  rw [ref07_Build_g h _ (body_lt h), obind]
  rfl

theorem sub_agree {f m a b : Nat} (hf : f < 256) (ha : a < 2 ^ 128) (hb : b < 2 ^ 128) : ∃ v, add_Sub.g (f : Int) (m : Int) (B2.of a) (B2.of b) = some v ∧ ref11_Sub.g (f : Int) (m : Int) (B2.of a) (B2.of b) = some v := by
  unfold add_Sub.g ref11_Sub.g
  rw [shape_Fits_g hf hb, obind, ref11_Fits_2_g ha hb, obind]
  by_cases gb : f ≤ 3 ∧ b < 2 ^ wF f
  · have hF := factsF gb.1
    have hfl : flN f b < 2 ^ 128 := Nat.lt_of_lt_of_le (flN_lt gb.1) (Nat.pow_le_pow_right (by decide) (by omega))
    rw [decide_eq_true gb, Bool.not_true, bF, kind_Flip_g gb.1 gb.2, obind]
    obtain ⟨v, h1, h2⟩ := add_agree (m := m) hf ha hfl
    rw [h1, obind]
    by_cases hg : (f ≤ 3 ∧ m ≤ 4) ∧ a < 2 ^ wF f ∧ b < 2 ^ wF f
    · rw [decide_eq_true hg, Bool.not_true, bF, ref08_Flip_g gb.1 gb.2, obind, h2, obind]
      exact ⟨_, rfl, rfl⟩
    · have hv : v = (B2.of 0, 0, 2) := by
        obtain ⟨q, hq⟩ := add_open_2_bad (a := a) (b := flN f b) hf ha hfl (fun hc => hg ⟨hc.1, hc.2.1, gb.2⟩)
        have : add_Add.g (f : Int) (m : Int) (B2.of a) (B2.of (flN f b)) = some (B2.of 0, 0, 2) := by
          unfold add_Add.g
          rw [hq, obind, zeroB]
          rfl
        rw [this] at h1
        exact (Option.some.inj h1).symm
      rw [decide_eq_false hg, Bool.not_false, bT, hv, zeroB]
      exact ⟨_, rfl, rfl⟩
  · rw [decide_eq_false gb, decide_eq_false (fun hc => gb ⟨hc.1.1, hc.2.2⟩)]
    exact ⟨_, rfl, rfl⟩

theorem alive11 : law11_alive.g = some true := by kernel_rfl

theorem plain_AddSums (f m a b : Nat) (hf : f < 256) (hm : m < 256) (ha : a < 2 ^ 128) (hb : b < 2 ^ 128) : law11_AddSums.g (f : Int) (m : Int) (B2.of a) (B2.of b) = some true := by
  obtain ⟨v, h1, h2⟩ := add_agree (m := m) hf ha hb
  obtain ⟨w, h3, h4⟩ := sub_agree (m := m) hf ha hb
  unfold law11_AddSums.g
  rw [h1, h2, h3, h4, alive11]
  simp only [obind, beq_self_eq_true, Bool.and_self, bT]

end Go.Proofs.YtnfbcofieobkkaaGreatDoor
