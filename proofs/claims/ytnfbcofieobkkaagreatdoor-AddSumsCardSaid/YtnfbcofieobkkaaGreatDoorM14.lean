/- The program's rounding delivers what the rule delivers. -/
import Derived.Test.YtnfbcofieobkkaaGreatDoorM13
namespace Go.Proofs.YtnfbcofieobkkaaGreatDoor
open Go Go.Proofs Ev
set_option linter.unusedVariables false
set_option exponentiation.threshold 512
set_option linter.unusedSimpArgs false
set_option maxRecDepth 100000

theorem Mag.rough {sig : Nat} (hs : sig ≠ 0) (exp : Int) (more : Bool) : Mag (FR sig exp) (XR sig exp more) ((bl sig : Int) - 1 + exp) := by
  have M := Mag.frac hs (show (1 : Nat) ≠ 0 by decide) exp
  rw [topQ_1 hs] at M
  exact ⟨M.hb, fun at_ h => M.hx at_ (by unfold XR at h; cases more <;> simp_all)⟩

theorem enc_bound {f : Nat} (h : f ≤ 3) {at_ : Int} {n : Nat} (hn : n ≤ 2 ^ pF f) (hat : emF f - pF f + 1 ≤ at_) (hcase : at_ = emF f - pF f + 1 ∨ 2 ^ (pF f - 1) ≤ n) (hov : ¬ (eF f : Int) < (bl n : Int) - 1 + at_) : (at_ - emF f + pF f - 1).toNat * 2 ^ (pF f - 1) + n < 2 ^ (wF f - 1) := by
  obtain ⟨h1, h2, h3, h4, h5, h6, h7, h8, h9⟩ := factsF h
  have hem : emF f = 1 - (eF f : Int) := rfl
  have e2 : (2 : Nat) ^ (wF f - 1) = 2 ^ (wF f - pF f) * 2 ^ (pF f - 1) := by rw [← Nat.pow_add, show wF f - pF f + (pF f - 1) = wF f - 1 by omega]
  have hp1 : (2 : Nat) ^ pF f = 2 ^ (pF f - 1) + 2 ^ (pF f - 1) := by
    rw [← Nat.two_mul, ← Nat.pow_succ']
    congr 1
    omega
  have hpp : 0 < (2 : Nat) ^ (pF f - 1) := Nat.pow_pos (by decide)
  obtain ⟨E, hE⟩ : ∃ E : Nat, (at_ - emF f + pF f - 1).toNat = E := ⟨_, rfl⟩
  rw [e2, h7, hE]
  have key : ∀ k : Nat, E + k ≤ 2 * eF f + 2 → n < k * 2 ^ (pF f - 1) → E * 2 ^ (pF f - 1) + n < (2 * eF f + 2) * 2 ^ (pF f - 1) := by
    intro k hk hl
    have : (E + k) * 2 ^ (pF f - 1) ≤ (2 * eF f + 2) * 2 ^ (pF f - 1) := Nat.mul_le_mul_right _ hk
    rw [Nat.add_mul] at this
    omega
  by_cases hbig : 2 ^ (pF f - 1) ≤ n
  · have hb := lt_bl_iff.2 hbig
    exact key 3 (by omega) (by omega)
  · have : at_ = emF f - pF f + 1 := by
      rcases hcase with h | h
      · exact h
      · exact absurd h hbig
    exact key 1 (by omega) (by omega)

theorem round_tiny_g {f : Nat} (h : f ≤ 3) (m : Nat) (neg more : Bool) {sig : Nat} {exp : Int} (hs0 : sig ≠ 0) (hs : sig < 2 ^ 384) (hs1 : sig / 2 + 1 < 2 ^ 384) (he : -1048576 ≤ exp ∧ exp ≤ 1048576) (hm : more = true → pF f + 2 ≤ bl sig) :
    round_tiny.g (f : Int) (m : Int) ⟨neg, W6.of sig, exp, more⟩ ((bl sig : Int) - 1 + exp) = some (tinS f m neg ((bl sig : Int) - 1 + exp) (FR sig exp) (XR sig exp more)) := by
  obtain ⟨h1, h2, h3, h4, h5, h6, h7, h8, h9⟩ := factsF h
  have hb384 : bl sig ≤ 384 := bl_le_iff.2 hs
  have hbp := bl_pos hs0
  have hemd : emF f = 1 - (eF f : Int) := rfl
  unfold round_tiny.g tinS
  rw [shape_Emin_g h, Option.bind_some, shape_Precision_g h, Option.bind_some, wrap_i64 (x := 1 - (eF f : Int) - 1) (by omega) (by omega)]
  by_cases c : (bl sig : Int) - 1 + exp = 1 - (eF f : Int) - 1
  · rw [show (((bl sig : Int) - 1 + exp) == (1 - (eF f : Int) - 1)) = true by rw [c]; simp, Bool.not_true, cond_false, if_neg (by omega), if_neg (by omega),
      wrap_i64 (x := (bl sig : Int) - 1 + exp - ((pF f : Nat) : Int)) (by omega) (by omega), wrap_i64 (x := (bl sig : Int) - 1 + exp - ((pF f : Nat) : Int) + 1) (by omega) (by omega),
      round_grid_g m neg more hs hs1 (by omega) (by omega) (fun hle => ⟨by omega, by
        cases more
        · rfl
        · have := hm rfl; omega⟩), Option.bind_some]
    dsimp only
    have M := Mag.rough hs0 exp more
    have hb := tkF_bl (m := m) (neg := neg) M (at_ := (bl sig : Int) - 1 + exp - pF f + 1) (k := pF f) (by omega)
    have hlt : tkF m neg (FR sig exp) (XR sig exp more) ((bl sig : Int) - 1 + exp - pF f + 1) < 2 ^ 384 := Nat.lt_of_le_of_lt hb.2 (Nat.pow_lt_pow_right (by decide) (by omega))
    rw [wide_Len_g hlt, Option.bind_some]
    exact congrArg some (decide_eq_decide.2 (by omega))
  · rw [show (((bl sig : Int) - 1 + exp) == (1 - (eF f : Int) - 1)) = false by rw [beq_eq_false_iff_ne]; exact c, Bool.not_false, cond_true]
    by_cases c2 : (bl sig : Int) - 1 + exp < 1 - (eF f : Int)
    · rw [decide_eq_true c2, if_neg (by omega), if_pos (by omega)]
    · rw [decide_eq_false c2, if_pos (by omega)]

theorem round_Pack_bad {f m : Nat} (hf : f < 256) (x : Rgh) (h : ¬ (f ≤ 3 ∧ m ≤ 4)) : round_Pack.g (f : Int) (m : Int) x = some (B2.of 0, 0, 2) := by
  have hp : ∃ p : Int, shape_Precision.g (f : Int) = some p := by
    by_cases h3 : f ≤ 3
    · exact ⟨_, shape_Precision_g h3⟩
    · exact ⟨_, shape_Precision_over (by omega) hf⟩
  obtain ⟨p, hp⟩ := hp
  have hr : (decide (f ≤ 3) && decide (m ≤ 4)) = false := by
    rw [← Bool.not_eq_true, Bool.and_eq_true, decide_eq_true_eq, decide_eq_true_eq]; exact h
  unfold round_Pack.g
  rw [hp, Option.bind_some, round_right_g, Option.bind_some, hr, Bool.not_false, cond_true, zeroB]

theorem round_Pack_zero {f m : Nat} (h : f ≤ 3) (hm : m ≤ 4) (neg : Bool) {exp : Int} (he : -1048576 ≤ exp ∧ exp ≤ 1048576) : round_Pack.g (f : Int) (m : Int) ⟨neg, W6.of 0, exp, false⟩ = some (B2.of (sgF f neg), 0, 0) := by
  unfold round_Pack.g
  rw [shape_Precision_g h, Option.bind_some, round_right_g, Option.bind_some, decide_eq_true h, decide_eq_true hm, Bool.and_self, Bool.not_true, cond_false]
  dsimp only
  rw [decide_eq_false (by omega : ¬ exp < -1048576), cond_false, decide_eq_false (by omega : ¬ 1048576 < exp), cond_false, cond_false, isz (Nat.pow_pos (by decide)), decide_eq_true rfl, cond_true, shape_Zero_g h]
  rfl

theorem round_Pack_g {f m : Nat} (h : f ≤ 3) (hm : m ≤ 4) (neg more : Bool) {sig : Nat} {exp : Int} (hs0 : sig ≠ 0) (hs : sig < 2 ^ 384) (he : -1048576 ≤ exp ∧ exp ≤ 1048576) (hmr : more = true → pF f + 2 ≤ bl sig) :
    round_Pack.g (f : Int) (m : Int) ⟨neg, W6.of sig, exp, more⟩ = some (B2.of (delS f m neg ((bl sig : Int) - 1 + exp) (FR sig exp) (XR sig exp more)).1, (((delS f m neg ((bl sig : Int) - 1 + exp) (FR sig exp) (XR sig exp more)).2 : Nat) : Int), 0) := by
  obtain ⟨h1, h2, h3, h4, h5, h6, h7, h8, h9⟩ := factsF h
  have hb384 : bl sig ≤ 384 := bl_le_iff.2 hs
  have hbp := bl_pos hs0
  have hemd : emF f = 1 - (eF f : Int) := rfl
  have hs1 : sig / 2 + 1 < 2 ^ 384 := by
    have h2 : (1 : Nat) < 2 ^ 383 := Nat.one_lt_two_pow (by decide)
    have h3 : (2 : Nat) ^ 384 = 2 ^ 383 * 2 := Nat.pow_succ _ _
    rw [h3] at hs ⊢
    generalize (2 : Nat) ^ 383 = P at *
    omega
  have M := Mag.rough hs0 exp more
  have T := round_tiny_g h m neg more hs0 hs hs1 he hmr
  have hatd : atF f ((bl sig : Int) - 1 + exp) = max ((bl sig : Int) - 1 + exp) (1 - (eF f : Int)) - pF f + 1 := rfl
  -- the part behind the checks
  have rest : (bif (W6.of sig).w0 == (0 : Int) && ((W6.of sig).w1 == (0 : Int) && ((W6.of sig).w2 == (0 : Int) && ((W6.of sig).w3 == (0 : Int) && ((W6.of sig).w4 == (0 : Int) && ((W6.of sig).w5 == (0 : Int) && true))))) then (shape_Zero.g (f : Int) neg).bind fun (r : B2) => some (r, (0 : Int), (0 : Int)) else (wide_Len.g (W6.of sig)).bind fun (r_2 : Int) => (shape_Emin.g (f : Int)).bind fun (r_3 : Int) => (shape_Emax.g (f : Int)).bind fun (r_4 : Int) => bif decide (r_4 < IntKind.i64.wrap (IntKind.i64.wrap (r_2 - (1 : Int)) + exp)) then (round_Over.g (f : Int) (m : Int) neg).bind fun (r : B2 × Int × Int) => some (r.fst, r.snd.fst, r.snd.snd) else (round_grid.g (m : Int) ⟨neg, W6.of sig, exp, more⟩ (IntKind.i64.wrap (IntKind.i64.wrap (maxI (IntKind.i64.wrap (IntKind.i64.wrap (r_2 - (1 : Int)) + exp)) r_3 - ((pF f : Nat) : Int)) + (1 : Int)))).bind fun (r_5 : W6 × Bool) => (wide_Len.g r_5.fst).bind fun (r_6 : Int) => (shape_Emax.g (f : Int)).bind fun (r_7 : Int) => bif decide (r_7 < IntKind.i64.wrap (IntKind.i64.wrap (r_6 - (1 : Int)) + IntKind.i64.wrap (IntKind.i64.wrap (maxI (IntKind.i64.wrap (IntKind.i64.wrap (r_2 - (1 : Int)) + exp)) r_3 - ((pF f : Nat) : Int)) + (1 : Int)))) then (round_Over.g (f : Int) (m : Int) neg).bind fun (r : B2 × Int × Int) => some (r.fst, r.snd.fst, r.snd.snd) else bif !r_5.snd then (round_tiny.g (f : Int) (m : Int) ⟨neg, W6.of sig, exp, more⟩ (IntKind.i64.wrap (IntKind.i64.wrap (r_2 - (1 : Int)) + exp))).bind fun (r_8 : Bool) => bif r_8 then (wide_Of.g (IntKind.u64.wrap (IntKind.i64.wrap (IntKind.i64.wrap (IntKind.i64.wrap (IntKind.i64.wrap (IntKind.i64.wrap (maxI (IntKind.i64.wrap (IntKind.i64.wrap (r_2 - (1 : Int)) + exp)) r_3 - ((pF f : Nat) : Int)) + (1 : Int)) - r_3) + ((pF f : Nat) : Int)) - (1 : Int))))).bind fun (r_9 : W6) => (wide_Left.g r_9 (IntKind.i64.wrap (((pF f : Nat) : Int) - (1 : Int)))).bind fun (r : W6 × Bool) => (wide_Add.g r.fst r_5.fst).bind fun (r : W6 × Bool) => (wide_ToBits.g r.fst).bind fun (r : B2 × Bool) => (shape_Zero.g (f : Int) neg).bind fun (r_10 : B2) => some ({ hi := orI IntKind.u64 r.fst.hi r_10.hi, lo := orI IntKind.u64 r.fst.lo r_10.lo : B2 }, (3 : Int), (0 : Int)) else (wide_Of.g (IntKind.u64.wrap (IntKind.i64.wrap (IntKind.i64.wrap (IntKind.i64.wrap (IntKind.i64.wrap (IntKind.i64.wrap (maxI (IntKind.i64.wrap (IntKind.i64.wrap (r_2 - (1 : Int)) + exp)) r_3 - ((pF f : Nat) : Int)) + (1 : Int)) - r_3) + ((pF f : Nat) : Int)) - (1 : Int))))).bind fun (r_9 : W6) => (wide_Left.g r_9 (IntKind.i64.wrap (((pF f : Nat) : Int) - (1 : Int)))).bind fun (r : W6 × Bool) => (wide_Add.g r.fst r_5.fst).bind fun (r : W6 × Bool) => (wide_ToBits.g r.fst).bind fun (r : B2 × Bool) => (shape_Zero.g (f : Int) neg).bind fun (r_10 : B2) => some ({ hi := orI IntKind.u64 r.fst.hi r_10.hi, lo := orI IntKind.u64 r.fst.lo r_10.lo : B2 }, (1 : Int), (0 : Int)) else (wide_Of.g (IntKind.u64.wrap (IntKind.i64.wrap (IntKind.i64.wrap (IntKind.i64.wrap (IntKind.i64.wrap (IntKind.i64.wrap (maxI (IntKind.i64.wrap (IntKind.i64.wrap (r_2 - (1 : Int)) + exp)) r_3 - ((pF f : Nat) : Int)) + (1 : Int)) - r_3) + ((pF f : Nat) : Int)) - (1 : Int))))).bind fun (r_8 : W6) => (wide_Left.g r_8 (IntKind.i64.wrap (((pF f : Nat) : Int) - (1 : Int)))).bind fun (r : W6 × Bool) => (wide_Add.g r.fst r_5.fst).bind fun (r : W6 × Bool) => (wide_ToBits.g r.fst).bind fun (r : B2 × Bool) => (shape_Zero.g (f : Int) neg).bind fun (r_9 : B2) => some ({ hi := orI IntKind.u64 r.fst.hi r_9.hi, lo := orI IntKind.u64 r.fst.lo r_9.lo : B2 }, (0 : Int), (0 : Int))) = some (B2.of (delS f m neg ((bl sig : Int) - 1 + exp) (FR sig exp) (XR sig exp more)).1, (((delS f m neg ((bl sig : Int) - 1 + exp) (FR sig exp) (XR sig exp more)).2 : Nat) : Int), 0) := by
    rw [isz hs, decide_eq_false hs0, cond_false, wide_Len_g hs, Option.bind_some, shape_Emin_g h, Option.bind_some, shape_Emax_g h, Option.bind_some, wrap_i64 (x := ((bl sig : Nat) : Int) - 1) (by omega) (by omega), wrap_i64 (x := ((bl sig : Nat) : Int) - 1 + exp) (by omega) (by omega), maxI_eq,
      wrap_i64 (x := max (((bl sig : Nat) : Int) - 1 + exp) (1 - (eF f : Int)) - ((pF f : Nat) : Int)) (by omega) (by omega), wrap_i64 (x := max (((bl sig : Nat) : Int) - 1 + exp) (1 - (eF f : Int)) - ((pF f : Nat) : Int) + 1) (by omega) (by omega), ← hatd]
    unfold delS
    by_cases c0 : (eF f : Int) < (bl sig : Int) - 1 + exp
    · rw [decide_eq_true c0, cond_true, if_pos c0, round_Over_g h hm]
      rfl
    · rw [decide_eq_false c0, cond_false, if_neg c0]
      have hup : atF f ((bl sig : Int) - 1 + exp) ≤ exp → exp - atF f ((bl sig : Int) - 1 + exp) ≤ 384 ∧ more = false := fun hle => ⟨by omega, by
        cases more
        · rfl
        · have := hmr rfl; omega⟩
      rw [round_grid_g m neg more hs hs1 (by omega) (by omega) hup, Option.bind_some]
      dsimp only
      have hb := tkF_bl (m := m) (neg := neg) M (at_ := atF f ((bl sig : Int) - 1 + exp)) (k := pF f) (by omega)
      have hMag0 := M.hb (atF f ((bl sig : Int) - 1 + exp))
      have hge : FR sig exp (atF f ((bl sig : Int) - 1 + exp)) ≤ tkF m neg (FR sig exp) (XR sig exp more) (atF f ((bl sig : Int) - 1 + exp)) := (takS_le m neg _ _ _ _).1
      have htk := hb.2
      have hcase : atF f ((bl sig : Int) - 1 + exp) = emF f - pF f + 1 ∨ 2 ^ (pF f - 1) ≤ tkF m neg (FR sig exp) (XR sig exp more) (atF f ((bl sig : Int) - 1 + exp)) := by
        by_cases c : (bl sig : Int) - 1 + exp ≤ emF f
        · left; omega
        · right
          have : 2 ^ (pF f - 1) ≤ FR sig exp (atF f ((bl sig : Int) - 1 + exp)) := lt_bl_iff.1 (by omega)
          omega
      generalize tkF m neg (FR sig exp) (XR sig exp more) (atF f ((bl sig : Int) - 1 + exp)) = n at *
      generalize hat : atF f ((bl sig : Int) - 1 + exp) = at_ at *
      have hlt : n < 2 ^ 384 := Nat.lt_of_le_of_lt htk (Nat.pow_lt_pow_right (by decide) (by omega))
      have hbn : bl n ≤ pF f + 1 := bl_le_iff.2 (by rw [Nat.pow_succ]; have : 0 < 2 ^ pF f := Nat.pow_pos (by decide); omega)
      rw [wide_Len_g hlt, Option.bind_some, Option.bind_some, wrap_i64 (x := ((bl n : Nat) : Int) - 1) (by omega) (by omega), wrap_i64 (x := ((bl n : Nat) : Int) - 1 + at_) (by omega) (by omega)]
      by_cases c1 : (eF f : Int) < (bl n : Int) - 1 + at_
      · rw [decide_eq_true c1, cond_true, if_pos c1, round_Over_g h hm]
        rfl
      · rw [decide_eq_false c1, cond_false, if_neg c1]
        have hbound := enc_bound h htk (by omega) hcase c1
        obtain ⟨E, hE⟩ : ∃ E : Nat, (at_ - emF f + pF f - 1).toNat = E := ⟨_, rfl⟩
        have hEi : at_ - (1 - (eF f : Int)) + pF f - 1 = (E : Int) := by omega
        rw [hE] at hbound
        have hE64 : E < 18446744073709551616 := by omega
        have w127 : (2 : Nat) ^ (wF f - 1) ≤ 2 ^ 127 := Nat.pow_le_pow_right (by decide) (by omega)
        have p384 : (2 : Nat) ^ 127 + 2 ^ 127 < 2 ^ 384 := by decide
        have p128 : (2 : Nat) ^ 127 < 2 ^ 128 := by decide
        have hE384 : E < 2 ^ 384 := Nat.lt_trans hE64 (by decide)
        have fin : ∀ fl : Int, ((wide_Of.g (IntKind.u64.wrap (IntKind.i64.wrap (IntKind.i64.wrap (IntKind.i64.wrap (at_ - (1 - (eF f : Int))) + ((pF f : Nat) : Int)) - (1 : Int))))).bind fun (r_9 : W6) => (wide_Left.g r_9 (IntKind.i64.wrap (((pF f : Nat) : Int) - (1 : Int)))).bind fun (r : W6 × Bool) => (wide_Add.g r.fst (W6.of n)).bind fun (r : W6 × Bool) => (wide_ToBits.g r.fst).bind fun (r : B2 × Bool) => (shape_Zero.g (f : Int) neg).bind fun (r_10 : B2) => some ({ hi := orI IntKind.u64 r.fst.hi r_10.hi, lo := orI IntKind.u64 r.fst.lo r_10.lo : B2 }, fl, (0 : Int))) = some (B2.of (encN f neg at_ n), fl, 0) := by
          intro fl
          rw [wrap_i64 (x := at_ - (1 - (eF f : Int))) (by omega) (by omega), wrap_i64 (x := at_ - (1 - (eF f : Int)) + ((pF f : Nat) : Int)) (by omega) (by omega), hEi, i64_nat (by omega), wrap_u64 (by omega) (by omega), wide_Of_g hE64, Option.bind_some, wrap_i64 (x := ((pF f : Nat) : Int) - 1) (by omega) (by omega), wide_Left_g hE384, Option.bind_some, show (((pF f : Nat) : Int) - 1).toNat = pF f - 1 by omega, Nat.min_eq_left (by omega)]
          dsimp only
          rw [wide_Add_g (by omega) hlt, Option.bind_some]
          dsimp only
          rw [wide_ToBits_g (by omega), if_pos (by omega), Option.bind_some, shape_Zero_g h, Option.bind_some]
          dsimp only
          rw [or_sign h neg hbound]
          unfold encN
          rw [hE]
        cases XR sig exp more at_
        · rw [Bool.not_false, cond_true, T, Option.bind_some]
          cases tinS f m neg ((bl sig : Int) - 1 + exp) (FR sig exp) (XR sig exp more)
          · exact fin 1
          · exact fin 3
        · rw [Bool.not_true, cond_false]
          exact fin 0
  unfold round_Pack.g
  rw [shape_Precision_g h, Option.bind_some, round_right_g, Option.bind_some, decide_eq_true h, decide_eq_true hm, Bool.and_self, Bool.not_true, cond_false]
  dsimp only
  rw [decide_eq_false (by omega : ¬ exp < -1048576), cond_false, decide_eq_false (by omega : ¬ 1048576 < exp), cond_false]
  cases more
  · rw [cond_false]
    exact rest
  · have := hmr rfl
    rw [cond_true, wide_Len_g hs, Option.bind_some, wrap_i64 (x := ((pF f : Nat) : Int) + 2) (by omega) (by omega), decide_eq_false (by omega : ¬ ((bl sig : Nat) : Int) < ((pF f : Nat) : Int) + 2), cond_false]
    rw [wide_Len_g hs] at rest
    exact rest

end Go.Proofs.YtnfbcofieobkkaaGreatDoor
