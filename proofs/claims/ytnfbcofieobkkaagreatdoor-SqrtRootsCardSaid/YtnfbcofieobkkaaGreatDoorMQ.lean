/- Roots: the program's answer and the document's. -/
import Derived.Test.YtnfbcofieobkkaaGreatDoorMQ0
import Derived.Test.YtnfbcofieobkkaaGreatDoorH1
import Derived.Test.YtnfbcofieobkkaaGreatDoorCQ
import Derived.Test.YtnfbcofieobkkaaGreatDoorPL14
namespace Go.Proofs.YtnfbcofieobkkaaGreatDoor
open Go Go.Proofs Ev
set_option linter.unusedVariables false
set_option exponentiation.threshold 512
set_option maxRecDepth 100000
set_option linter.unusedSimpArgs false

theorem root_core {f m : Nat} (h : f ≤ 3) (hm : m ≤ 4) {sig S : Nat} {x : Int} (hs : sig ≠ 0) (hl : bl sig ≤ pF f) (hx : -20000 ≤ x ∧ x ≤ 20000) (hS : 2 * pF f + 6 ≤ bl sig + S) (hS2 : bl sig + S ≤ 380) (hev : (x - S) % 2 = 0) :
    round_Pack.g (f : Int) (m : Int) ⟨false, W6.of (isq (sig * 2 ^ S)), (x - S) / 2, !decide (sig * 2 ^ S - isq (sig * 2 ^ S) * isq (sig * 2 ^ S) = 0)⟩ = ref09_Root.g (f : Int) (m : Int) ⟨false, sOf (oddN sig), sOf 1, x + tz sig⟩ := by
  have hF := factsF h
  have ho := oddN_ne hs
  have hbo := bl_oddN hs
  have hB : bl (sig * 2 ^ S) = bl sig + S := bl_mul_pow hs S
  have hB0 : sig * 2 ^ S ≠ 0 := Nat.mul_ne_zero hs (Nat.ne_of_gt (Nat.pow_pos (by decide)))
  have hr := bl_isq (sig * 2 ^ S)
  have hr0 : isq (sig * 2 ^ S) ≠ 0 := fun hc => hB0 (isq_zero.1 hc)
  rw [round_Pack_g h hm false _ hr0 (bl_le_iff.1 (by omega)) (by omega) (fun _ => by omega), ref09_Root_g h hm (by omega) (oddN_odd hs) (by omega)]
  rw [show ((bl (isq (sig * 2 ^ S)) : Nat) : Int) - 1 + (x - S) / 2 = ((bl (oddN sig) : Nat) - 1 + (x + ((tz sig : Nat) : Int))) / 2 by omega]
  rw [delS_congr (F' := FS (oddN sig) (x + ((tz sig : Nat) : Int))) (X' := XS (oddN sig) (x + ((tz sig : Nat) : Int))) (fun at_ hat => ?_)]
  obtain ⟨k, hk⟩ : ∃ k : Nat, at_ = (x - S) / 2 + k := ⟨(at_ - (x - S) / 2).toNat, by omega⟩
  have e1 : (x - S) / 2 - at_ = -(k : Int) := by omega
  have e2 : x + ((tz sig : Nat) : Int) - 2 * at_ = (-((2 * k : Nat) : Int) + S) + ((tz sig : Nat) : Int) := by omega
  unfold FR XR FS XS
  rw [e1, e2, (flq_odd' hs _).1, (flq_odd' hs _).2, ← (flq_scale sig 1 S _).1, ← (flq_scale sig 1 S _).2, (flq_1 _ (2 * k)).1, (flq_1 _ (2 * k)).2, (flq_1 _ k).1, (flq_1 _ k).2]
  refine ⟨(isq_div _ _).symm, ?_⟩
  have := isq_exact (sig * 2 ^ S) k
  rw [this]
  congr 1
  by_cases c : sig * 2 ^ S - isq (sig * 2 ^ S) * isq (sig * 2 ^ S) = 0 <;> simp [c]

theorem delS_mid {f m : Nat} {neg : Bool} {top : Int} {F : Int → Nat} {X : Int → Bool} (h : f ≤ 3) (M : Mag F X top) (h1 : emF f ≤ top) (h2 : top + 1 ≤ eF f) : (delS f m neg top F X).2 = 0 ∨ (delS f m neg top F X).2 = 1 := by
  have hF := factsF h
  have ha : atF f top = top - pF f + 1 := by unfold atF; omega
  have ht := (tkF_bl (m := m) (neg := neg) M (at_ := atF f top) (k := pF f) (by omega)).2
  have hb : bl (tkF m neg F X (atF f top)) ≤ pF f + 1 := bl_le_iff.2 (by rw [Nat.pow_succ]; have : 0 < 2 ^ pF f := Nat.pow_pos (by decide); omega)
  have e : tinS f m neg top F X = false := by unfold tinS; rw [if_pos h1]
  unfold delS
  rw [if_neg (by omega), if_neg (by omega), e]
  cases X (atF f top)
  · right; rfl
  · left; rfl

theorem sqrt_agree {f m a : Nat} (hf : f < 256) (ha : a < 2 ^ 128) : ∃ b : B2, ∃ fl er : Int, sqrt_Sqrt.g (f : Int) (m : Int) (B2.of a) = some (b, fl, er) ∧ ref14_Sqrt.g (f : Int) (m : Int) (B2.of a) = some (b, fl, er) ∧ (fl = 0 ∨ fl = 1 ∨ fl = 16) := by
  unfold sqrt_Sqrt.g ref14_Sqrt.g
  rw [ref11_Fits_1_g ha, obind]
  by_cases hg : (f ≤ 3 ∧ m ≤ 4) ∧ a < 2 ^ wF f
  · rw [decide_eq_true hg]
    obtain ⟨⟨h, hm⟩, ga⟩ := hg
    rw [sqrt_open_1_ok h hm ga, obind]
    simp only [Bool.not_true, bF, sqrt_nan_g, sqrt_below_g, sqrt_inf_g, sqrt_nought_g, obind, sqrt_canonical_1_g a h, ref08_IsNaN_g h ga, ref11_Canonical_1_g h ga, ref08_Sign_g h ga, ref08_IsInf_g h ga, ref08_IsZero_g h ga, shape_NaN_g h, ref07_NaN_g h]
    by_cases na : 8 ≤ clsF f a
    · simp only [decide_eq_true na, bT, obind]
      exact ⟨_, _, _, rfl, rfl, by split <;> simp⟩
    · rw [← neF_cls (f := f) (b := a) (by omega)]
      simp only [decide_eq_false na, bF]
      by_cases za : clsF f a = 3 ∨ clsF f a = 4
      · simp only [decide_eq_true za, bT, obind]
        exact ⟨_, _, _, rfl, rfl, Or.inl rfl⟩
      · simp only [decide_eq_false za, bF]
        cases hne : neF f a
        · simp only [bF]
          by_cases ia : clsF f a = 0 ∨ clsF f a = 7
          · simp only [decide_eq_true ia, bT, obind]
            exact ⟨_, _, _, rfl, rfl, Or.inl rfl⟩
          · have fa : finF f a := by rcases cls_cases f a with c | c | c | c | c <;> first | exact c | (exfalso; omega)
            have ca := fin_cls fa
            have xa := xpF_bounds h fa
            have hF := factsF h
            have hp := sigF_pos fa
            have h384 := sigF_384 (b := a) h
            have hl : bl (sigF f a) ≤ pF f := bl_le_iff.2 (sigF_lt (b := a) h)
            have hbp := bl_pos hp
            have hbo := bl_oddN hp
            have M := Mag.root (oddN_ne hp) (xpF f a + ((tz (sigF f a) : Nat) : Int))
            have hd := delS_mid (m := m) (neg := false) h M (by unfold emF; omega) (by omega)
            have core : ∀ S : Nat, 2 * pF f + 6 ≤ bl (sigF f a) + S → bl (sigF f a) + S ≤ 380 → (xpF f a - S) % 2 = 0 → ∃ b : B2, ∃ fl er : Int, round_Pack.g (f : Int) (m : Int) ⟨false, W6.of (isq (sigF f a * 2 ^ S)), (xpF f a - S) / 2, !decide (sigF f a * 2 ^ S - isq (sigF f a * 2 ^ S) * isq (sigF f a * 2 ^ S) = 0)⟩ = some (b, fl, er) ∧ ref09_Root.g (f : Int) (m : Int) ⟨false, sOf (oddN (sigF f a)), sOf 1, xpF f a + tz (sigF f a)⟩ = some (b, fl, er) ∧ (fl = 0 ∨ fl = 1 ∨ fl = 16) := by
              intro S s1 s2 s3
              rw [root_core h hm hp hl (by omega) s1 s2 s3, ref09_Root_g h hm (by omega) (oddN_odd hp) (by omega)]
              exact ⟨_, _, _, rfl, rfl, by omega⟩
            obtain ⟨S0, hS0⟩ : ∃ S0 : Nat, 2 * pF f + 6 = bl (sigF f a) + S0 := ⟨2 * pF f + 6 - bl (sigF f a), by omega⟩
            have hmax : maxI (0 : Int) (IntKind.i64.wrap (IntKind.i64.wrap ((2 : Int) * IntKind.i64.wrap (((pF f : Nat) : Int) + (3 : Int))) - ((bl (sigF f a) : Nat) : Int))) = (S0 : Int) := by
              rw [wrap_i64 (x := ((pF f : Nat) : Int) + 3) (by omega) (by omega), wrap_i64 (x := 2 * (((pF f : Nat) : Int) + 3)) (by omega) (by omega), wrap_i64 (by omega) (by omega), maxI_eq]
              omega
            simp only [decide_eq_false ia, bF, obind, ptsF_fin fa, shape_Precision_g h, wide_Len_g h384, hmax, ref08_Value_g h ga (show clsF f a ≠ 0 ∧ clsF f a < 7 by omega), valF_fin fa, hne]
            rw [wrap_i64 (x := xpF f a - (S0 : Int)) (by omega) (by omega), and_one_i64]
            by_cases hodd : (xpF f a - S0) % 2 = 0
            · obtain ⟨b, fl, er, c1, c2, c3⟩ := core S0 (by omega) (by omega) hodd
              have hB : sigF f a * 2 ^ S0 < 2 ^ 384 := bl_le_iff.1 (by rw [bl_mul_pow hp]; omega)
              have hz : sigF f a * 2 ^ S0 - isq (sigF f a * 2 ^ S0) * isq (sigF f a * 2 ^ S0) < 2 ^ 384 := Nat.lt_of_le_of_lt (Nat.sub_le _ _) hB
              rw [hodd, show (!((0 : Int) == 0)) = false from rfl, bF, wide_Left_g h384, obind, Int.toNat_natCast, Nat.min_eq_left (by omega)]
              dsimp only
              rw [quot_Sqrt_g hB, obind]
              dsimp only
              rw [isz hz, shr_one_i64, c1, obind, c2, obind]
              exact ⟨_, _, _, rfl, rfl, c3⟩
            · obtain ⟨b, fl, er, c1, c2, c3⟩ := core (S0 + 1) (by omega) (by omega) (by omega)
              have hB : sigF f a * 2 ^ (S0 + 1) < 2 ^ 384 := bl_le_iff.1 (by rw [bl_mul_pow hp]; omega)
              have hz : sigF f a * 2 ^ (S0 + 1) - isq (sigF f a * 2 ^ (S0 + 1)) * isq (sigF f a * 2 ^ (S0 + 1)) < 2 ^ 384 := Nat.lt_of_le_of_lt (Nat.sub_le _ _) hB
              rw [show (xpF f a - (S0 : Int)) % 2 = 1 by omega, show (!((1 : Int) == 0)) = true from rfl, bT, show (S0 : Int) + 1 = ((S0 + 1 : Nat) : Int) by omega, wrap_i64 (x := ((S0 + 1 : Nat) : Int)) (by omega) (by omega), wide_Left_g h384, obind, Int.toNat_natCast, Nat.min_eq_left (by omega)]
              dsimp only
              rw [quot_Sqrt_g hB, obind]
              dsimp only
              rw [isz hz, wrap_i64 (x := xpF f a - ((S0 + 1 : Nat) : Int)) (by omega) (by omega), shr_one_i64, c1, obind, c2, obind]
              exact ⟨_, _, _, rfl, rfl, c3⟩
        · simp only [bT, obind]
          exact ⟨_, _, _, rfl, rfl, Or.inr (Or.inr rfl)⟩
  · obtain ⟨q, hq⟩ := sqrt_open_1_bad hf ha hg
    rw [hq, obind, decide_eq_false hg]
    exact ⟨_, _, _, rfl, rfl, Or.inl rfl⟩

theorem alive14 : law14_alive.g = some true := by kernel_rfl

theorem plain_SqrtRoots (f m a : Nat) (hf : f < 256) (hm : m < 256) (ha : a < 2 ^ 128) : law14_SqrtRoots.g (f : Int) (m : Int) (B2.of a) = some true := by
  obtain ⟨b, fl, er, h1, h2, h3⟩ := sqrt_agree (m := m) hf ha
  unfold law14_SqrtRoots.g
  rw [h1, h2, alive14]
  simp only [obind, beq_self_eq_true, Bool.and_self, bT]
  rcases h3 with rfl | rfl | rfl <;> rfl

end Go.Proofs.YtnfbcofieobkkaaGreatDoor
