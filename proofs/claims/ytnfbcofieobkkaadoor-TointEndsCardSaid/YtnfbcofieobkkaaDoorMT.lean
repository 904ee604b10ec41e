/- Numbers as whole ones: the program's answer and the document's. -/
import Derived.Test.YtnfbcofieobkkaaDoorM11
import Derived.Test.YtnfbcofieobkkaaDoorPT
namespace Go.Proofs.YtnfbcofieobkkaaDoor
open Go Go.Proofs Ev
set_option linter.unusedVariables false
set_option exponentiation.threshold 512
set_option linter.unusedSimpArgs false

theorem flq_odd {n : Nat} (h : n ≠ 0) (k : Int) : flq (oddN n) 1 (k + tz n) = flq n 1 k ∧ exq (oddN n) 1 (k + tz n) = exq n 1 k := by
  have := flq_scale (oddN n) 1 (tz n) k
  rw [oddN_mul h] at this
  exact ⟨this.1.symm, this.2.symm⟩

/-- A finite number as a whole one. -/
def whoF (f m b : Nat) : Nat := if finF f b then takS m (neF f b) (flq (sigF f b) 1 (xpF f b)) (flq (sigF f b) 1 (xpF f b + 1)) (exq (sigF f b) 1 (xpF f b)) (exq (sigF f b) 1 (xpF f b + 1)) else 0
def whxF (f b : Nat) : Bool := if finF f b then exq (sigF f b) 1 (xpF f b) else true

theorem flq_bl {n : Nat} {k : Int} (hk : k ≤ 17000) (hn : bl n ≤ 113) : bl (flq n 1 k) ≤ 17113 := by
  rcases Int.le_total 0 k with h | h
  · obtain ⟨j, rfl⟩ := Int.eq_ofNat_of_zero_le h
    rw [(flq_up n j).1]
    by_cases h0 : n = 0
    · subst h0; rw [Nat.zero_mul, bl_zero]; omega
    · rw [bl_mul_pow h0]; omega
  · obtain ⟨j, hj⟩ : ∃ j : Nat, k = -(j : Int) := ⟨(-k).toNat, by omega⟩
    rw [hj, (flq_1 n j).1, bl_div_pow]; omega
theorem bl_succ_le {n k : Nat} (h : bl n ≤ k) : bl (n + 1) ≤ k + 1 := by
  rw [bl_le_iff] at h ⊢
  rw [Nat.pow_succ]; omega
theorem bl_tak {m : Nat} {neg : Bool} {F0 F1 : Nat} {X0 X1 : Bool} {k : Nat} (h : bl F0 ≤ k) : bl (takS m neg F0 F1 X0 X1) ≤ k + 1 := by
  have := (takS_le m neg F0 F1 X0 X1).2
  exact Nat.le_trans (bl_mono this) (bl_succ_le h)

theorem whoF_bl {f m b : Nat} (h : f ≤ 3) : bl (whoF f m b) ≤ 17114 := by
  unfold whoF
  split
  · rename_i hf
    have hx := xpF_bounds h hf
    have hs := sig_small (b := b) h
    have hF := factsF h
    exact bl_tak (flq_bl (by omega) hs.2)
  · rw [bl_zero]; omega

theorem odd_low (x : Nat) : (decide (tz x = 0) && !decide (x = 0)) = decide (x % 2 = 1) := by
  by_cases h0 : x = 0
  · subst h0; simp
  · by_cases h1 : x % 2 = 1
    · rw [tz_odd h1, decide_eq_false h0, decide_eq_true h1]; rfl
    · have : tz x ≠ 0 := by
        intro hc
        have := (tz_spec x h0).2
        rw [hc, Nat.pow_zero, Nat.div_one] at this
        exact h1 this
      rw [decide_eq_false this, decide_eq_false h1]; rfl

theorem ref19_Rounded_g {f b : Nat} (m : Nat) (h : f ≤ 3) (hb : b < 2 ^ wF f) (hc : clsF f b ≠ 0 ∧ clsF f b < 7) : ref19_Rounded.g (f : Int) (m : Int) (B2.of b) = some (sOf (whoF f m b), whxF f b) := by
  have hs := sig_small (b := b) h
  have hF := factsF h
  unfold ref19_Rounded.g whoF whxF
  rw [ref08_Value_g h hb hc, Option.bind_some]
  unfold valF
  by_cases hf : finF f b
  · have hx := xpF_bounds h hf
    have hp := sigF_pos hf
    have ht := tz_lt_bl hp
    have ho := oddN_ne hp
    have hle := bl_mono (oddN_le (sigF f b))
    have hnb : nb (oddN (sigF f b)) ≤ 16384 := Nat.le_trans (nb_mono (oddN_le _)) (by omega)
    rw [if_pos hf, if_pos hf, if_pos hf]
    rw [ref06_Floor_g (neF f b) hnb (by rw [nb_one]; omega) ho (by decide) (by omega) (by omega) (by intro _; omega)]
    rw [show xpF f b + ((tz (sigF f b) : Nat) : Int) - 0 = xpF f b + tz (sigF f b) by omega, (flq_odd hp (xpF f b)).1, (flq_odd hp (xpF f b)).2, Option.bind_some]
    rw [ref06_Floor_g (neF f b) hnb (by rw [nb_one]; omega) ho (by decide) (by omega) (by omega) (by intro _; omega)]
    rw [show xpF f b + ((tz (sigF f b) : Nat) : Int) - -1 = (xpF f b + 1) + tz (sigF f b) by omega, (flq_odd hp (xpF f b + 1)).1, (flq_odd hp (xpF f b + 1)).2, Option.bind_some]
    have b0 := flq_bl (n := sigF f b) (k := xpF f b) (by omega) hs.2
    have b1 := flq_bl (n := sigF f b) (k := xpF f b + 1) (by omega) hs.2
    generalize flq (sigF f b) 1 (xpF f b) = F0 at *
    generalize flq (sigF f b) 1 (xpF f b + 1) = F1 at *
    generalize exq (sigF f b) 1 (xpF f b) = X0 at *
    generalize exq (sigF f b) 1 (xpF f b + 1) = X1 at *
    generalize neF f b = neg at *
    have n0 : nb F0 ≤ 16384 := bl_dvd_nb (by omega)
    have n1 : nb F1 ≤ 16384 := bl_dvd_nb (by omega)
    cases X0
    · have key : ∀ (od : Bool) (hf : Int), od = decide (F0 % 2 = 1) → hf = halfS F1 false X1 → ((ref10_Up.g (m : Int) neg od hf false).bind fun (r : Bool) => bif r then (ref05_Add.g (sOf F0) (sOf 1)).bind fun (r : ByteArray × Int) => some (r.fst, false) else some (sOf F0, false)) = some (sOf (takS m neg F0 F1 false X1), false) := by
        rintro od hf rfl rfl
        rw [ref10_Up_g, Option.bind_some, ref05_Add_g (bl_dvd_nb (by have := bl_succ_le b0; omega))]
        unfold takS
        cases upS m neg (decide (F0 % 2 = 1)) (halfS F1 false X1) false <;> rfl
      simp only [cond_false, emptyS, oneS, strEq_sOf, ref05_Low_g n1, ref05_Low_g n0, Option.bind_some]
      rw [show (((tz F1 : Nat) : Int) == 0) = decide (tz F1 = 0) from beqN _ 0, show (((tz F0 : Nat) : Int) == 0) = decide (tz F0 = 0) from beqN _ 0]
      have o1 := odd_low F1
      have o0 := odd_low F0
      have z0 : F0 = 0 → decide (F0 % 2 = 1) = false := by rintro rfl; rfl
      by_cases a1 : tz F1 = 0
      · rw [decide_eq_true a1] at o1 ⊢
        by_cases a2 : F1 = 0
        · rw [decide_eq_true a2] at o1 ⊢
          have hh : halfS F1 false X1 = -1 := by
            unfold halfS
            have : ¬ F1 % 2 = 1 := by subst a2; decide
            simp [this]
          by_cases a3 : F0 = 0
          · rw [decide_eq_true a3]
            exact key _ _ (z0 a3).symm hh.symm
          · rw [decide_eq_false a3] at o0 ⊢
            rw [Bool.not_false, Bool.and_true] at o0
            exact key _ _ o0 hh.symm
        · rw [decide_eq_false a2] at o1 ⊢
          have hodd : F1 % 2 = 1 := by simpa using o1.symm
          have hh : halfS F1 false X1 = if X1 then 0 else 1 := by
            unfold halfS
            simp [hodd]
          cases X1
          · by_cases a3 : F0 = 0
            · rw [decide_eq_true a3]
              exact key _ _ (z0 a3).symm hh.symm
            · rw [decide_eq_false a3] at o0 ⊢
              rw [Bool.not_false, Bool.and_true] at o0
              exact key _ _ o0 hh.symm
          · by_cases a3 : F0 = 0
            · rw [decide_eq_true a3]
              exact key _ _ (z0 a3).symm hh.symm
            · rw [decide_eq_false a3] at o0 ⊢
              rw [Bool.not_false, Bool.and_true] at o0
              exact key _ _ o0 hh.symm
      · rw [decide_eq_false a1] at o1 ⊢
        have hodd : ¬ F1 % 2 = 1 := by simpa using o1.symm
        have hh : halfS F1 false X1 = -1 := by
          unfold halfS
          simp [hodd]
        by_cases a3 : F0 = 0
        · rw [decide_eq_true a3]
          exact key _ _ (z0 a3).symm hh.symm
        · rw [decide_eq_false a3] at o0 ⊢
          rw [Bool.not_false, Bool.and_true] at o0
          exact key _ _ o0 hh.symm
    · rw [takS_exact]; rfl
  · rw [if_neg hf, if_neg hf, if_neg hf]
    unfold ref06_Floor.g
    simp only [emptyS, strEq_sOf, decide_true, cond_true]
    rfl

/-! ### the program's whole numbers -/
theorem toint_Whole_g {f m b : Nat} (h : f ≤ 3) (hb : b < 2 ^ wF f) (hm : m ≤ 4) : toint_Whole.g (f : Int) (m : Int) (B2.of b) =
    some (if clsF f b = 0 ∨ 7 ≤ clsF f b then (false, W6.of 0, false, 80) else if 2 ^ 384 ≤ whoF f m b then (false, W6.of 0, false, 4) else (neF f b && decide (whoF f m b ≠ 0), W6.of (whoF f m b), whxF f b, 0)) := by
  have hs := sig_small (b := b) h
  have h384 := sigF_384 (b := b) h
  have hF := factsF h
  unfold toint_Whole.g
  rw [kind_Unpack_g h hb, Option.bind_some, shape_CheckMode_g, if_pos hm]
  simp only [beq_self_eq_true, Bool.not_true, cond_false, Option.bind_some, zeroW]
  have hcls : (ptsF f b).cls = ((clsF f b : Nat) : Int) := by
    unfold ptsF ptsC
    repeat' split
    all_goals rfl
  rw [hcls, show (((clsF f b : Nat) : Int) == 0) = decide (clsF f b = 0) from beqN _ 0]
  by_cases c0 : clsF f b = 0
  · rw [decide_eq_true c0, cond_true, if_pos (Or.inl c0)]
  · by_cases c7 : 7 ≤ clsF f b
    · rw [decide_eq_false c0, cond_false, decide_eq_true (by omega : (7 : Int) ≤ ((clsF f b : Nat) : Int)), cond_true, if_pos (Or.inr c7)]
    · rw [decide_eq_false c0, cond_false, decide_eq_false (by omega : ¬ (7 : Int) ≤ ((clsF f b : Nat) : Int)), cond_false, if_neg (by omega)]
      have hneg : decide (((clsF f b : Nat) : Int) < (4 : Int)) = neF f b := by
        rw [neF_cls (by omega)]
        exact decide_eq_decide.2 (by omega)
      rw [hneg]
      unfold whoF whxF
      by_cases hf : finF f b
      · have hx := xpF_bounds h hf
        have hp := sigF_pos hf
        rw [ptsF_fin hf, if_pos hf, if_pos hf]
        dsimp only
        rcases Int.lt_or_le (xpF f b) 0 with hneg0 | hpos
        · obtain ⟨k, hk⟩ : ∃ k : Nat, xpF f b = -((k + 1 : Nat) : Int) := ⟨(-(xpF f b)).toNat - 1, by omega⟩
          have hk1 : xpF f b + 1 = -(k : Int) := by omega
          have hkk : k ≤ 20000 := by omega
          rw [hk1, hk, (flq_1 _ (k + 1)).1, (flq_1 _ (k + 1)).2, (flq_1 _ k).1, (flq_1 _ k).2, decide_eq_false (by omega : ¬ (0 : Int) ≤ -((k + 1 : Nat) : Int)), cond_false, show (0 : Int) - -((k + 1 : Nat) : Int) = ((k + 1 : Nat) : Int) by omega, i64_nat (by omega), jam_Cut_g h384 (by omega) (by omega), Option.bind_some]
          dsimp only
          rw [Nat.add_sub_cancel]
          have hq : sigF f b / 2 ^ (k + 1) < 2 ^ 113 := by
            have := Nat.div_le_self (sigF f b) (2 ^ (k + 1))
            have h113 := bl_le_iff.1 hs.2
            omega
          have q384 : (2 : Nat) ^ 113 + 1 < 2 ^ 384 := by decide
          have hodd : (andI IntKind.u64 (W6.of (sigF f b / 2 ^ (k + 1))).w0 (1 : Int) == (1 : Int)) = decide (sigF f b / 2 ^ (k + 1) % 2 = 1) := by
            rw [of_w0, show (1 : Int) = ((1 : Nat) : Int) from rfl, and_u64 (wd_lt _ _) (by decide), Nat.and_one_is_mod, beqN]
            refine decide_eq_decide.2 ?_
            unfold wd
            rw [Nat.mul_zero, Nat.pow_zero, Nat.div_one]
            omega
          rw [hodd, round_Up_g, Option.bind_some]
          unfold takS
          generalize sigF f b / 2 ^ (k + 1) = F0 at *
          generalize halfS (sigF f b / 2 ^ k) (decide (sigF f b % 2 ^ (k + 1) = 0)) (decide (sigF f b % 2 ^ k = 0)) = hf at *
          generalize decide (sigF f b % 2 ^ (k + 1) = 0) = X0 at *
          have hO : wide_Of.g (1 : Int) = some (W6.of 1) := wide_Of_g (x := 1) (by decide)
          have fin : ∀ n : Nat, n < 2 ^ 384 → (bif neF f b then some (!((W6.of n).w0 == (0 : Int) && ((W6.of n).w1 == (0 : Int) && ((W6.of n).w2 == (0 : Int) && ((W6.of n).w3 == (0 : Int) && ((W6.of n).w4 == (0 : Int) && ((W6.of n).w5 == (0 : Int) && true)))))), W6.of n, X0, (0 : Int)) else some (false, W6.of n, X0, (0 : Int))) = some (if 2 ^ 384 ≤ n then (false, W6.of 0, false, 4) else (neF f b && decide (n ≠ 0), W6.of n, X0, 0)) := by
            intro n hn
            rw [isz hn, if_neg (Nat.not_le_of_lt hn)]
            cases neF f b
            · rfl
            · by_cases h0 : n = 0 <;> simp [h0]
          cases upS m (neF f b) (decide (F0 % 2 = 1)) hf X0
          · rw [cond_false]
            simp only [Bool.false_eq_true, if_false]
            exact fin F0 (by omega)
          · simp only [if_true]
            rw [cond_true, hO, Option.bind_some, wide_Add_g (by omega) (by decide), Option.bind_some]
            exact fin (F0 + 1) (by omega)
        · obtain ⟨k, hk⟩ := Int.eq_ofNat_of_zero_le hpos
          have hk1 : xpF f b + 1 = ((k + 1 : Nat) : Int) := by omega
          rw [hk1, hk, (flq_up _ k).1, (flq_up _ k).2, (flq_up _ (k + 1)).2, takS_exact, decide_eq_true (by omega : (0 : Int) ≤ ((k : Nat) : Int)), cond_true, wide_Left_g h384, Option.bind_some, Int.toNat_natCast]
          have hbig : 2 ^ 384 ≤ sigF f b * 2 ^ (min k 384) ↔ 2 ^ 384 ≤ sigF f b * 2 ^ k := by
            rw [← lt_bl_iff, ← lt_bl_iff, bl_mul_pow hp, bl_mul_pow hp]
            have := bl_pos hp
            omega
          dsimp only
          by_cases hl : 2 ^ 384 ≤ sigF f b * 2 ^ k
          · rw [decide_eq_true (hbig.2 hl), cond_true, if_pos hl]
          · have hk384 : k ≤ 384 := by
              rw [← lt_bl_iff, bl_mul_pow hp] at hl
              omega
            rw [decide_eq_false (fun hc => hl (hbig.1 hc)), cond_false, if_neg hl, Nat.min_eq_left hk384, isz (Nat.lt_of_not_le hl)]
            cases neF f b
            · rfl
            · by_cases h0 : sigF f b * 2 ^ k = 0 <;> simp [h0]
      · have hz : clsF f b = 3 ∨ clsF f b = 4 := by unfold finF at hf; omega
        have hpt : ptsF f b = ⟨((clsF f b : Nat) : Int), W6.of 0, 0, W6.of 0⟩ := by
          unfold ptsF ptsC
          unfold finF at hf
          rw [if_neg (by omega), if_neg hf]
        rw [hpt, if_neg hf, if_neg hf, if_neg (Nat.not_le_of_lt (Nat.pow_pos (by decide)))]
        dsimp only
        rw [decide_eq_true (by omega : (0 : Int) ≤ 0), cond_true, wide_Left_g (Nat.pow_pos (by decide)), Nat.zero_mul, Option.bind_some, decide_eq_false (Nat.not_le_of_lt (Nat.pow_pos (by decide))), cond_false]
        dsimp only
        rw [isz (Nat.pow_pos (by decide))]
        cases neF f b <;> rfl

theorem toint_Whole_no {f m b : Nat} (hf : f < 256) (hb : b < 2 ^ 128) (h : ¬ ((f ≤ 3 ∧ b < 2 ^ wF f) ∧ m ≤ 4)) : toint_Whole.g (f : Int) (m : Int) (B2.of b) = some (false, W6.of 0, false, 2) := by
  unfold toint_Whole.g
  simp only [zeroW]
  by_cases h1 : f ≤ 3 ∧ b < 2 ^ wF f
  · rw [kind_Unpack_g h1.1 h1.2, Option.bind_some, shape_CheckMode_g, if_neg (fun hm => h ⟨h1, hm⟩)]
    rfl
  · rw [kind_Unpack_no hf hb h1]
    rfl

/-! ### a kind's words -/
def tld (x : Nat) : Nat := if x / 2147483648 % 2 = 1 then x % 4294967296 + 18446744069414584320 else x % 4294967296
theorem tld_eq (x : Nat) : IntKind.u64.wrap (IntKind.i64.wrap (IntKind.i32.wrap (IntKind.u32.wrap (x : Int)))) = ((tld x : Nat) : Int) := by
  rw [wrap_u32_mod, wrap_i32_eq, wrap_i64 (by omega) (by omega), wrap_u64_mod]
  unfold tld
  split <;> omega
end Go.Proofs.YtnfbcofieobkkaaDoor
