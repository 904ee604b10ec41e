/- What is exact is rounded alike by the program and by the document's rule. -/
import Derived.Test.YtnfbcofieobkkaaGreatDoorM14
namespace Go.Proofs.YtnfbcofieobkkaaGreatDoor
open Go Go.Proofs Ev
set_option linter.unusedVariables false
set_option maxRecDepth 100000
set_option linter.unusedSimpArgs false

/-- What is exact is rounded alike by both. -/
theorem exact_Round {f m : Nat} (h : f ≤ 3) (hm : m ≤ 4) (neg : Bool) {sig : Nat} {exp : Int} (hs0 : sig ≠ 0) (hs : sig < 2 ^ 384) (he : -50000 ≤ exp ∧ exp ≤ 50000) :
    ref09_Round.g (f : Int) (m : Int) ⟨neg, sOf (oddN sig), sOf 1, exp + tz sig⟩ = round_Pack.g (f : Int) (m : Int) ⟨neg, W6.of sig, exp, false⟩ := by
  have hb384 : bl sig ≤ 384 := bl_le_iff.2 hs
  have hbp := bl_pos hs0
  have ho := oddN_ne hs0
  have hbo := bl_oddN hs0
  have hnb : nb (oddN sig) ≤ 8192 := bl_dvd_nb (by omega)
  have htop : topQ (oddN sig) 1 + (exp + ((tz sig : Nat) : Int)) = (bl sig : Int) - 1 + exp := by rw [topQ_1 ho]; omega
  have hlt := tz_lt_bl hs0
  rw [ref09_Round_g h hm neg hnb (by rw [nb_one]; omega) (oddN_odd hs0) (by decide) (Nat.gcd_one_right _) (by omega) (by omega) (by omega), round_Pack_g h hm neg false hs0 hs (by omega) (by intro hc; cases hc), htop]
  rw [delS_congr (F' := FR sig exp) (X' := XR sig exp false) (fun at_ _ => ?_)]
  have e : exp + ((tz sig : Nat) : Int) - at_ = exp - at_ + ((tz sig : Nat) : Int) := by omega
  rw [e, (flq_odd' hs0 _).1, (flq_odd' hs0 _).2]
  exact ⟨rfl, by unfold XR; simp⟩

theorem Round_null {f m : Nat} (h : f ≤ 3) (hm : m ≤ 4) : ref09_Round.g (f : Int) (m : Int) ⟨false, sOf 0, sOf 1, 0⟩ = some (B2.of 0, 0, 0) := by
  unfold ref09_Round.g ref09_Fault.g
  rw [ref07_Right_g, obind, decide_eq_true h, Bool.not_true, bF, ref07_RightMode_g, obind, decide_eq_true hm, Bool.not_true, bF, ref06_May_null, obind, Bool.not_true, bF]
  dsimp only
  rw [size_sOf, size_sOf, nb_zero, nb_one]
  simp only [emptyS, strEq_sOf, decide_true, bT, zeroB]
  rfl

/-! ### parts by class -/
theorem ptsF_cls (f b : Nat) : (ptsF f b).cls = ((clsF f b : Nat) : Int) := by
  unfold ptsF ptsC
  repeat' split
  all_goals rfl
theorem ptsF_zero {f b : Nat} (hz : clsF f b = 3 ∨ clsF f b = 4) : ptsF f b = ⟨((clsF f b : Nat) : Int), W6.of 0, 0, W6.of 0⟩ := by
  unfold ptsF ptsC
  rw [if_neg (by omega), if_neg (by omega)]
theorem fin_cls {f b : Nat} (h : finF f b) : clsF f b ≠ 0 ∧ clsF f b ≠ 3 ∧ clsF f b ≠ 4 ∧ clsF f b < 7 := by unfold finF at h; omega
theorem cls_cases (f b : Nat) : clsF f b = 8 ∨ clsF f b = 9 ∨ (clsF f b = 0 ∨ clsF f b = 7) ∨ (clsF f b = 3 ∨ clsF f b = 4) ∨ finF f b := by
  have := clsF_le f b
  unfold finF
  omega
theorem neg_cls {f b : Nat} (h : clsF f b < 8) : decide (((clsF f b : Nat) : Int) < 4) = neF f b := by
  rw [neF_cls h]
  exact decide_eq_decide.2 (by omega)
theorem cls_beq (f b k : Nat) : (((clsF f b : Nat) : Int) == ((k : Nat) : Int)) = decide (clsF f b = k) := beqN _ _
theorem valF_fin {f b : Nat} (h : finF f b) : valF f b = ⟨neF f b, sOf (oddN (sigF f b)), sOf 1, xpF f b + tz (sigF f b)⟩ := by unfold valF; rw [if_pos h]
theorem valF_zero {f b : Nat} (h : ¬ finF f b) : valF f b = ⟨false, sOf 0, sOf 1, 0⟩ := by unfold valF; rw [if_neg h]

end Go.Proofs.YtnfbcofieobkkaaGreatDoor
