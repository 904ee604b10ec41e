/- The rule, of a fraction; the program's rounding of a number of 384 bits, and something more. -/
import Derived.Test.YtnfbcofieobkkaaGreatDoorM12
namespace Go.Proofs.YtnfbcofieobkkaaGreatDoor
open Go Go.Proofs Ev
set_option linter.unusedVariables false
set_option exponentiation.threshold 512
set_option linter.unusedSimpArgs false
set_option maxRecDepth 100000

/-! ### the rule, of a fraction -/
theorem frac_finds (neg : Bool) {n d : Nat} {e lo hi : Int} (hn : nb n ≤ 16384) (hd : nb d ≤ 16384) (hn0 : n ≠ 0) (hd0 : d ≠ 0) (he : -1000000 ≤ e ∧ e ≤ 1000000) (hlo : -1000000 ≤ lo) (hhi : hi ≤ 1000000) (hb : (bl n : Int) + (e - lo) + 1 ≤ 131072) :
    Finds ⟨neg, sOf n, sOf d, e⟩ false (fun at_ => flq n d (e - at_)) (fun at_ => exq n d (e - at_)) lo hi := by
  intro at_ h1 h2
  unfold ref09_find.g
  have f0 := ref06_Floor_g neg (e := e) (at_ := at_) hn hd hn0 hd0 (by omega) (by omega) (by intro _; omega)
  have f1 := ref06_Floor_g neg (e := e) (at_ := at_ - 1) hn hd hn0 hd0 (by omega) (by omega) (by intro _; omega)
  rw [Bool.not_false, cond_true, f0, Option.bind_some]
  dsimp only
  cases hx : exq n d (e - at_)
  · rw [cond_false, wrap_i64 (by omega) (by omega), f1, Option.bind_some]
    dsimp only
    have hT := bl_flq hn0 hd0 (e - (at_ - 1))
    have hnb : nb (flq n d (e - (at_ - 1))) ≤ 16384 := by
      refine bl_dvd_nb ?_
      have : bl (flq n d (e - (at_ - 1))) ≤ bl n + (e - (at_ - 1)).toNat := by
        unfold flq
        refine Nat.le_trans (bl_mono (Nat.div_le_self _ _)) ?_
        rw [bl_mul_pow hn0]
        exact Nat.le_refl _
      have := nb_8 hn
      omega
    rw [ref09_last_g hnb, Option.bind_some]
    unfold halfS
    by_cases ho : flq n d (e - (at_ - 1)) % 2 = 1
    · rw [decide_eq_true ho, cond_true]
      cases exq n d (e - (at_ - 1)) <;> simp [ho]
    · rw [decide_eq_false ho, cond_false]
      simp [ho]
  · rw [cond_true]
    unfold halfS
    simp

theorem ref09_Fault_g {f m : Nat} (h : f ≤ 3) (hm : m ≤ 4) (neg : Bool) {n d : Nat} {e : Int} (hn : nb n ≤ 8192) (hd : nb d ≤ 8192) (hn1 : n % 2 = 1) (hd1 : d % 2 = 1) (hg : Nat.gcd n d = 1) (he : -1048576 ≤ e ∧ e ≤ 1048576) : ref09_Fault.g (f : Int) (m : Int) ⟨neg, sOf n, sOf d, e⟩ = some 0 := by
  unfold ref09_Fault.g
  rw [ref07_Right_g, Option.bind_some, decide_eq_true h, Bool.not_true, cond_false, ref07_RightMode_g, Option.bind_some, decide_eq_true hm, Bool.not_true, cond_false, ref06_May_g neg (by omega) (by omega) hn1 hd1 hg he, Option.bind_some, Bool.not_true, cond_false]
  dsimp only
  rw [size_sOf, size_sOf, decide_eq_false (by omega : ¬ (8192 : Int) < ((nb n : Nat) : Int)), cond_false, decide_eq_false (by omega : ¬ (8192 : Int) < ((nb d : Nat) : Int)), cond_false]

theorem ref09_Round_g {f m : Nat} (h : f ≤ 3) (hm : m ≤ 4) (neg : Bool) {n d : Nat} {e : Int} (hn : nb n ≤ 8192) (hd : nb d ≤ 8192) (hn1 : n % 2 = 1) (hd1 : d % 2 = 1) (hg : Nat.gcd n d = 1) (he : -100000 ≤ e ∧ e ≤ 100000) (ht : -60000 ≤ topQ n d + e ∧ topQ n d + e ≤ 100000) (hb : (bl n : Int) + e ≤ 60000) :
    ref09_Round.g (f : Int) (m : Int) ⟨neg, sOf n, sOf d, e⟩ = some (B2.of (delS f m neg (topQ n d + e) (fun at_ => flq n d (e - at_)) (fun at_ => exq n d (e - at_))).1, (((delS f m neg (topQ n d + e) (fun at_ => flq n d (e - at_)) (fun at_ => exq n d (e - at_))).2 : Nat) : Int), 0) := by
  have hF := factsF h
  have hn0 : n ≠ 0 := by omega
  have hd0 : d ≠ 0 := by omega
  have hT : ref09_top.g ⟨neg, sOf n, sOf d, e⟩ false = some (topQ n d + e) := by
    unfold ref09_top.g
    rw [ref06_Top_g neg (by omega) (by omega) hn0 hd0 (by omega), Option.bind_some]
    rfl
  unfold ref09_Round.g
  rw [ref09_Fault_g h hm neg hn hd hn1 hd1 hg (by omega), Option.bind_some]
  dsimp only
  rw [emptyS, strEq_sOf, decide_eq_false hn0]
  have D := ref09_deliver_g h m (Mag.frac hn0 hd0 e) hT (frac_finds neg (lo := topQ n d + e - pF f + 1) (hi := atF f (topQ n d + e)) (by omega) (by omega) hn0 hd0 (by omega) (by omega) (by unfold atF emF; omega) (by omega)) (by omega)
  rw [D]
  rfl

/-! ### the program's rounding -/
theorem round_right_g {f m : Nat} : round_right.g (f : Int) (m : Int) = some (decide (f ≤ 3) && decide (m ≤ 4)) := by
  unfold round_right.g
  rw [shape_Check_g, Option.bind_some]
  by_cases h : f ≤ 3
  · rw [if_pos h, decide_eq_true h, shape_CheckMode_g]
    by_cases hm : m ≤ 4
    · rw [if_pos hm, decide_eq_true hm]; rfl
    · rw [if_neg hm, decide_eq_false hm]; rfl
  · rw [if_neg h, decide_eq_false h]; rfl
theorem round_Over_g {f m : Nat} (h : f ≤ 3) (hm : m ≤ 4) (neg : Bool) : round_Over.g (f : Int) (m : Int) neg = some (B2.of (ovrN f m neg), 5, 0) := by
  unfold round_Over.g ovrN
  rw [round_right_g, Option.bind_some, decide_eq_true h, decide_eq_true hm, show ((m : Int) == 1) = decide (m = 1) from beqN m 1, show ((m : Int) == 2) = decide (m = 2) from beqN m 2, show ((m : Int) == 3) = decide (m = 3) from beqN m 3, shape_Greatest_g h, shape_Inf_g h]
  by_cases h1 : m = 1
  · subst h1; simp
  · by_cases h2 : m = 2
    · subst h2; cases neg <;> simp
    · by_cases h3 : m = 3
      · subst h3; cases neg <;> simp
      · simp [h1, h2, h3]

def FR (sig : Nat) (exp : Int) (at_ : Int) : Nat := flq sig 1 (exp - at_)
def XR (sig : Nat) (exp : Int) (more : Bool) (at_ : Int) : Bool := !more && exq sig 1 (exp - at_)

theorem halfS_false (F1 : Nat) (X1 : Bool) : halfS F1 false X1 = if F1 % 2 = 1 then (if X1 then 0 else 1) else -1 := by
  unfold halfS; simp

theorem round_grid_g (m : Nat) (neg more : Bool) {sig : Nat} {exp at_ : Int} (hs : sig < 2 ^ 384) (hs1 : sig / 2 + 1 < 2 ^ 384) (he : -2000000 ≤ exp ∧ exp ≤ 2000000) (ha : -2000000 ≤ at_ ∧ at_ ≤ 2000000) (hup : at_ ≤ exp → exp - at_ ≤ 384 ∧ more = false) :
    round_grid.g (m : Int) ⟨neg, W6.of sig, exp, more⟩ at_ = some (W6.of (tkF m neg (FR sig exp) (XR sig exp more) at_), XR sig exp more at_) := by
  unfold round_grid.g tkF
  dsimp only
  rw [wrap_i64 (x := at_ - exp) (by omega) (by omega)]
  by_cases h : at_ ≤ exp
  · obtain ⟨hu, rfl⟩ := hup h
    obtain ⟨k, hk⟩ : ∃ k : Nat, exp - at_ = (k : Int) := ⟨(exp - at_).toNat, by omega⟩
    rw [decide_eq_true (by omega : at_ - exp ≤ 0), cond_true, show (0 : Int) - (at_ - exp) = (k : Int) by omega, i64_nat (by omega), wide_Left_g hs, Option.bind_some, Int.toNat_natCast, Nat.min_eq_left (by omega)]
    unfold FR XR
    rw [hk, (flq_up sig k).1, (flq_up sig k).2, Bool.not_false, Bool.true_and, takS_exact]
  · obtain ⟨k, hk⟩ : ∃ k : Nat, at_ - exp = ((k + 1 : Nat) : Int) := ⟨(at_ - exp).toNat - 1, by omega⟩
    have hk0 : exp - at_ = -((k + 1 : Nat) : Int) := by omega
    have hk1 : exp - (at_ - 1) = -(k : Int) := by omega
    unfold FR XR
    rw [hk0, hk1, (flq_1 sig (k + 1)).1, (flq_1 sig (k + 1)).2, (flq_1 sig k).1, (flq_1 sig k).2, decide_eq_false (by omega : ¬ at_ - exp ≤ 0), cond_false, hk, jam_Cut_g hs (by omega) (by omega), Option.bind_some, Nat.add_sub_cancel]
    have hexact := half_exact (a := sig) (n := k + 1) (by omega)
    rw [Nat.add_sub_cancel] at hexact
    have hodd : (andI IntKind.u64 (W6.of (sig / 2 ^ (k + 1))).w0 (1 : Int) == (1 : Int)) = decide (sig / 2 ^ (k + 1) % 2 = 1) := by
      rw [of_w0, show (1 : Int) = ((1 : Nat) : Int) from rfl, and_u64 (wd_lt _ _) (by decide), Nat.and_one_is_mod, beqN]
      refine decide_eq_decide.2 ?_
      unfold wd
      rw [Nat.mul_zero, Nat.pow_zero, Nat.div_one]
      omega
    have hq : sig / 2 ^ (k + 1) ≤ sig / 2 := by
      rw [Nat.pow_succ', ← Nat.div_div_eq_div_mul]
      exact Nat.div_le_self _ _
    have hO : wide_Of.g (1 : Int) = some (W6.of 1) := wide_Of_g (x := 1) (by decide)
    dsimp only
    rw [hodd]
    generalize hF0 : sig / 2 ^ (k + 1) = F0 at *
    generalize sig / 2 ^ k = F1 at *
    generalize hM0 : sig % 2 ^ (k + 1) = m0 at *
    generalize hM1 : sig % 2 ^ k = m1 at *
    have fin : ∀ (half : Int) (X : Bool), half = halfS F1 X (!more && decide (m1 = 0)) → ((round_Up.g (m : Int) neg (decide (F0 % 2 = 1)) half X).bind fun (r_1 : Bool) => bif r_1 then (wide_Of.g (1 : Int)).bind fun (r_2 : W6) => (wide_Add.g (W6.of F0) r_2).bind fun (r : W6 × Bool) => some (r.fst, X) else some (W6.of F0, X)) = some (W6.of (takS m neg F0 F1 X (!more && decide (m1 = 0))), X) := by
      rintro half X rfl
      rw [round_Up_g, Option.bind_some]
      unfold takS
      cases upS m neg (decide (F0 % 2 = 1)) (halfS F1 X (!more && decide (m1 = 0))) X
      · rfl
      · rw [cond_true, hO, Option.bind_some, wide_Add_g (by omega) (by decide), Option.bind_some]
        rfl
    cases more
    · rw [cond_false, Bool.not_false, Bool.true_and]
      exact fin _ _ rfl
    · rw [cond_true, Bool.not_true, Bool.false_and]
      by_cases hz : halfS F1 (decide (m0 = 0)) (decide (m1 = 0)) = 0
      · rw [hz]
        have hcond : ((0 : Int) == 0) = true := rfl
        rw [hcond, cond_true]
        refine fin 1 false ?_
        rw [halfS_false]
        have : F1 % 2 = 1 := by
          apply Decidable.byContradiction
          intro hc
          unfold halfS at hz
          by_cases h0 : m0 = 0 <;> simp [h0, hc] at hz
        simp [this]
      · have hcond : (halfS F1 (decide (m0 = 0)) (decide (m1 = 0)) == 0) = false := by rw [beq_eq_false_iff_ne]; exact hz
        rw [hcond, cond_false]
        refine fin _ false ?_
        rw [halfS_false]
        unfold halfS at hz ⊢
        by_cases h0 : m0 = 0
        · have := hexact h0
          have h2 : ¬ F1 % 2 = 1 := by omega
          simp [h0, h2]
        · by_cases h2 : F1 % 2 = 1
          · by_cases h1 : m1 = 0
            · simp [h0, h2, h1] at hz
            · simp [h0, h2, h1]
          · simp [h0, h2]

theorem or_sign {f n : Nat} (h : f ≤ 3) (neg : Bool) (hn : n < 2 ^ (wF f - 1)) : ({ hi := orI IntKind.u64 (B2.of n).hi (B2.of (sgF f neg)).hi, lo := orI IntKind.u64 (B2.of n).lo (B2.of (sgF f neg)).lo : B2 }) = B2.of (n + sgF f neg) := by
  have hor : n ||| sgF f neg = n + sgF f neg := by
    unfold sgF
    cases neg
    · simp
    · exact or_pow hn
  rw [← hor]
  simp only [B2.of, wd_or]
  rw [or_u64 (wd_lt _ _) (wd_lt _ _), or_u64 (wd_lt _ _) (wd_lt _ _)]

end Go.Proofs.YtnfbcofieobkkaaGreatDoor
