/- Whole numbers as numbers of a format: the program's answer and the document's. -/
import Derived.Test.YtnfbcofieobkkaaGreatDoorM15
import Derived.Test.YtnfbcofieobkkaaGreatDoorMT
import Derived.Test.YtnfbcofieobkkaaGreatDoorPL20
namespace Go.Proofs.YtnfbcofieobkkaaGreatDoor
open Go Go.Proofs Ev
set_option linter.unusedVariables false
set_option exponentiation.threshold 512
set_option maxRecDepth 100000
set_option linter.unusedSimpArgs false

theorem tld_lt (x : Nat) : tld x < 18446744073709551616 := by unfold tld; split <;> omega
theorem tld_sign (x : Nat) : 9223372036854775808 ≤ tld x ↔ IntKind.i64.wrap (IntKind.i32.wrap (IntKind.u32.wrap (x : Int))) < 0 := by
  rw [wrap_u32_mod, wrap_i32_eq, wrap_i64 (by omega) (by omega)]
  unfold tld
  split <;> omega
/-- A kind's word: its sign and its magnitude. -/
def sgnW (y : Nat) : Bool × Nat := if 9223372036854775808 ≤ y then (true, 18446744073709551616 - y) else (false, y)
theorem sgnW_lt {y : Nat} (h : y < 18446744073709551616) : (sgnW y).2 < 18446744073709551616 ∧ ((sgnW y).2 = 0 → (sgnW y).1 = false) := by
  unfold sgnW
  split
  · exact ⟨by dsimp only; omega, fun hc => by dsimp only at hc; omega⟩
  · exact ⟨h, fun _ => rfl⟩
theorem ref_sgn {y : Nat} (h : y < 18446744073709551616) : (bif shrI IntKind.u64 (y : Int) (63 : Int) == (1 : Int) then some (true, IntKind.u64.wrap ((0 : Int) - (y : Int))) else some (false, (y : Int))) = some ((sgnW y).1, (((sgnW y).2 : Nat) : Int)) := by
  rw [show (63 : Int) = ((63 : Nat) : Int) from rfl, shr_u64, show (1 : Int) = ((1 : Nat) : Int) from rfl, beqN]
  unfold sgnW
  by_cases c : 9223372036854775808 ≤ y
  · rw [show (2 : Nat) ^ min 63 64 = 9223372036854775808 from rfl, decide_eq_true (by omega : y / 9223372036854775808 = 1), cond_true, if_pos c, wrap_u64_mod]
    refine congrArg some (Prod.ext rfl ?_)
    dsimp only
    omega
  · rw [show (2 : Nat) ^ min 63 64 = 9223372036854775808 from rfl, decide_eq_false (by omega : ¬ y / 9223372036854775808 = 1), cond_false, if_neg c]
theorem fromint_sgn {y : Nat} {s : Int} (h : y < 18446744073709551616) (hs : s < 0 ↔ 9223372036854775808 ≤ y) (hw : IntKind.u64.wrap s = (y : Int)) : fromint_signed.g s = some ((sgnW y).1, (((sgnW y).2 : Nat) : Int)) := by
  unfold fromint_signed.g sgnW
  rw [hw]
  by_cases c : 9223372036854775808 ≤ y
  · rw [decide_eq_true (hs.2 c), cond_true, if_pos c, wrap_u64_mod]
    refine congrArg some (Prod.ext rfl ?_)
    dsimp only
    omega
  · rw [decide_eq_false (fun hc => c (hs.1 hc)), cond_false, if_neg c]

def numS (k x : Nat) : Bool × Nat := if k = 0 then sgnW (tld x) else if k = 1 then (false, x % 4294967296) else if k = 3 then (false, x) else sgnW x
theorem numS_lt {k x : Nat} (h : x < 18446744073709551616) : (numS k x).2 < 18446744073709551616 ∧ ((numS k x).2 = 0 → (numS k x).1 = false) := by
  unfold numS
  split
  · exact sgnW_lt (tld_lt x)
  · split
    · exact ⟨by dsimp only; omega, fun _ => rfl⟩
    · split
      · exact ⟨h, fun _ => rfl⟩
      · exact sgnW_lt h

theorem fromint_Number_g {k x : Nat} (hk : k ≤ 3) (h : x < 18446744073709551616) : fromint_Number.g (k : Int) (x : Int) = some ((numS k x).1, (((numS k x).2 : Nat) : Int), 0) := by
  have hk4 : k = 0 ∨ k = 1 ∨ k = 2 ∨ k = 3 := by omega
  rcases hk4 with rfl | rfl | rfl | rfl
  · rw [show fromint_Number.g ((0 : Nat) : Int) (x : Int) = (fromint_Number_1.g (x : Int)).bind fun r => some (r.1, r.2, 0) from rfl]
    unfold fromint_Number_1.g
    rw [fromint_sgn (tld_lt x) (tld_sign x).symm (tld_eq x)]
    rfl
  · rw [show fromint_Number.g ((1 : Nat) : Int) (x : Int) = (fromint_Number_2.g (x : Int)).bind fun r => some (r.1, r.2, 0) from rfl]
    unfold fromint_Number_2.g
    rw [wrap_u32_mod, wrap_u64 (by omega) (by omega)]
    rfl
  · rw [show fromint_Number.g ((2 : Nat) : Int) (x : Int) = (fromint_Number_3.g (x : Int)).bind fun r => some (r.1, r.2, 0) from rfl]
    unfold fromint_Number_3.g
    rw [fromint_sgn (y := x) h (by rw [wrap_i64_eq]; omega) (by rw [wrap_i64_eq, wrap_u64_mod]; omega)]
    rfl
  · rw [show fromint_Number.g ((3 : Nat) : Int) (x : Int) = (fromint_Number_4.g (x : Int)).bind fun r => some (r.1, r.2, 0) from rfl]
    unfold fromint_Number_4.g
    rfl
theorem fromint_Number_over {k : Nat} (x : Int) (hk : ¬ k ≤ 3) : fromint_Number.g (k : Int) x = some (false, 0, 2) := by
  unfold fromint_Number.g
  rw [show ((0 : Int) == (k : Int)) = decide (0 = k) from beqN 0 k, show ((1 : Int) == (k : Int)) = decide (1 = k) from beqN 1 k, show ((2 : Int) == (k : Int)) = decide (2 = k) from beqN 2 k, show ((3 : Int) == (k : Int)) = decide (3 = k) from beqN 3 k, decide_eq_false (by omega : ¬ 0 = k), decide_eq_false (by omega : ¬ 1 = k), decide_eq_false (by omega : ¬ 2 = k), decide_eq_false (by omega : ¬ 3 = k)]
  rfl
theorem ref20_Number_g {k x : Nat} (hk : k ≤ 3) (h : x < 18446744073709551616) : ref20_Number.g (k : Int) (x : Int) = some ((numS k x).1, (((numS k x).2 : Nat) : Int)) := by
  unfold ref20_Number.g numS
  rw [show ((k : Int) == 0) = decide (k = 0) from beqN k 0, show ((k : Int) == 1) = decide (k = 1) from beqN k 1, show ((k : Int) == 3) = decide (k = 3) from beqN k 3]
  have hk4 : k = 0 ∨ k = 1 ∨ k = 2 ∨ k = 3 := by omega
  rcases hk4 with rfl | rfl | rfl | rfl
  · rw [decide_eq_true rfl, cond_true, ref01_Extend_32 h, Option.bind_some, ref_sgn (tld_lt x)]
    rfl
  · rw [decide_eq_false (by decide), decide_eq_true rfl, cond_false, cond_true]
    unfold ref01_Field.g
    rw [ref01_Right_g h, Option.bind_some, show ref01_Mask.g (32 : Int) = some ((4294967295 : Nat) : Int) from ref01_Mask_g 32, Option.bind_some, Option.bind_some]
    rw [show x / 2 ^ (min (Int.toNat 0) 64) = x from by show x / 2 ^ 0 = x; omega, and_u64 h (by decide), show (4294967295 : Nat) = 2 ^ 32 - 1 from rfl, Nat.and_two_pow_sub_one_eq_mod]
    rfl
  · rw [decide_eq_false (by decide), decide_eq_false (by decide), decide_eq_false (by decide), cond_false, cond_false, cond_false, ref_sgn h]
    rfl
  · rw [decide_eq_false (by decide), decide_eq_false (by decide), decide_eq_true rfl, cond_false, cond_false, cond_true]
    rfl

theorem fromint_agree {f k m x : Nat} (hf : f < 256) (hx : x < 18446744073709551616) : ∃ v, fromint_Convert.g (f : Int) (k : Int) (m : Int) (x : Int) = some v ∧ ref20_Convert.g (f : Int) (k : Int) (m : Int) (x : Int) = some v := by
  unfold fromint_Convert.g ref20_Convert.g
  rw [ref07_Right_g, obind, ref07_RightMode_g, obind]
  by_cases hk : k ≤ 3
  · have hn := numS_lt (k := k) hx
    rw [fromint_Number_g hk hx, obind, ref20_Number_g hk hx, decide_eq_false (by omega : ¬ (3 : Int) < (k : Int)), bF]
    simp only [obind, beq_self_eq_true, Bool.not_true, bF]
    generalize (numS k x).1 = neg at *
    generalize (numS k x).2 = w at *
    rw [wide_Of_g hn.1, obind]
    have hw384 : w < 2 ^ 384 := Nat.lt_trans hn.1 (by decide)
    have hw64 : bl w ≤ 64 := bl_le_iff.2 (by simpa using hn.1)
    by_cases hg : f ≤ 3 ∧ m ≤ 4
    · obtain ⟨h, hm⟩ := hg
      rw [decide_eq_true h, decide_eq_true hm, Bool.not_true, bF, bF, ref05_Of_g hn.1, obind, oneS]
      by_cases h0 : w = 0
      · have hneg := hn.2 h0
        subst h0
        subst hneg
        rw [round_Pack_zero h hm false (by decide), obind, ref06_Make_zero false (by rw [nb_one]; omega) (by decide) (by decide), obind, Round_null h hm, obind]
        exact ⟨_, rfl, rfl⟩
      · have ht := tz_lt_bl h0
        have hM := ref06_Make_1 neg (n := w) (e := 0) (bl_dvd_nb (by omega)) h0 (by decide) (by omega)
        rw [hM, obind, exact_Round h hm neg h0 hw384 (by decide), round_Pack_g h hm neg false h0 hw384 (by decide) (by intro hc; cases hc), obind]
        exact ⟨_, rfl, rfl⟩
    · rw [round_Pack_bad hf _ hg, obind]
      by_cases h : f ≤ 3
      · rw [decide_eq_true h, Bool.not_true, bF, decide_eq_false (fun hm => hg ⟨h, hm⟩), Bool.not_false, bT, zeroB]
        exact ⟨_, rfl, rfl⟩
      · rw [decide_eq_false h, Bool.not_false, bT, zeroB]
        exact ⟨_, rfl, rfl⟩
  · rw [fromint_Number_over _ hk, obind, decide_eq_true (by omega : (3 : Int) < (k : Int)), bT]
    cases decide (f ≤ 3) <;> exact ⟨_, rfl, rfl⟩

theorem alive20 : law20_alive.g = some true := by kernel_rfl

theorem plain_FromintConverts (f k m x : Nat) (hf : f < 256) (hk : k < 256) (hm : m < 256) (hx : x < 18446744073709551616) : law20_FromintConverts.g (f : Int) (k : Int) (m : Int) (x : Int) = some true := by
  obtain ⟨v, h1, h2⟩ := fromint_agree (k := k) (m := m) hf hx
  unfold law20_FromintConverts.g
  rw [h1, h2, alive20]
  simp only [obind, beq_self_eq_true, Bool.and_self, Bool.not_true, bF, bT]
  by_cases hk3 : k ≤ 3
  · rw [fromint_Number_g hk3 hx, obind, ref20_Number_g hk3 hx, obind, decide_eq_false (by omega : ¬ (3 : Int) < (k : Int)), bF]
    simp
  · rw [fromint_Number_over _ hk3, obind, decide_eq_true (by omega : (3 : Int) < (k : Int)), bT]
    rfl

end Go.Proofs.YtnfbcofieobkkaaGreatDoor
