/- The document's checks of an operation's operands. -/
import Derived.Test.YtnfbcofieobkkaaGreatDoorM15
import Derived.Test.YtnfbcofieobkkaaGreatDoorPH
namespace Go.Proofs.YtnfbcofieobkkaaGreatDoor
open Go Go.Proofs Ev
set_option linter.unusedVariables false
set_option maxRecDepth 100000
set_option linter.unusedSimpArgs false


theorem ref11_Fits_1_g {f m a : Nat} (ha : a < 2 ^ 128) : ref11_Fits_1.g (f : Int) (m : Int) (B2.of a) = some (decide ((f ≤ 3 ∧ m ≤ 4) ∧ a < 2 ^ wF f)) := by
  unfold ref11_Fits_1.g
  simp only [ref07_Right_g, ref07_RightMode_g, ref07_Fits_g ha, obind]
  by_cases h : f ≤ 3
  · by_cases hm : m ≤ 4
    · by_cases ga : a < 2 ^ wF f
      · simp [h, hm, ga]
      · simp [h, hm, ga]
    · simp [h, hm]
  · simp [h]
theorem ref11_Canonical_1_g {f a : Nat} (h : f ≤ 3) (ha : a < 2 ^ wF f) : ref11_Canonical_1.g (f : Int) (B2.of a) = some (B2.of (nanN f), if clsF f a = 8 then 16 else 0) := by
  unfold ref11_Canonical_1.g
  simp only [ref07_NaN_g h, ref08_IsSignaling_g h ha, obind]
  by_cases ga : clsF f a = 8 <;> simp [ga]
theorem ref11_Fits_2_g {f m a b : Nat} (ha : a < 2 ^ 128) (hb : b < 2 ^ 128) : ref11_Fits_2.g (f : Int) (m : Int) (B2.of a, B2.of b) = some (decide ((f ≤ 3 ∧ m ≤ 4) ∧ a < 2 ^ wF f ∧ b < 2 ^ wF f)) := by
  unfold ref11_Fits_2.g
  simp only [ref07_Right_g, ref07_RightMode_g, ref07_Fits_g ha, ref07_Fits_g hb, obind]
  by_cases h : f ≤ 3
  · by_cases hm : m ≤ 4
    · by_cases ga : a < 2 ^ wF f
      · by_cases gb : b < 2 ^ wF f
        · simp [h, hm, ga, gb]
        · simp [h, hm, ga, gb]
      · simp [h, hm, ga]
    · simp [h, hm]
  · simp [h]
theorem ref11_Canonical_2_g {f a b : Nat} (h : f ≤ 3) (ha : a < 2 ^ wF f) (hb : b < 2 ^ wF f) : ref11_Canonical_2.g (f : Int) (B2.of a, B2.of b) = some (B2.of (nanN f), if clsF f a = 8 ∨ clsF f b = 8 then 16 else 0) := by
  unfold ref11_Canonical_2.g
  simp only [ref07_NaN_g h, ref08_IsSignaling_g h ha, ref08_IsSignaling_g h hb, obind]
  by_cases ga : clsF f a = 8 <;> by_cases gb : clsF f b = 8 <;> simp [ga, gb]
theorem ref11_Fits_3_g {f m a b c : Nat} (ha : a < 2 ^ 128) (hb : b < 2 ^ 128) (hc : c < 2 ^ 128) : ref11_Fits_3.g (f : Int) (m : Int) (B2.of a, B2.of b, B2.of c) = some (decide ((f ≤ 3 ∧ m ≤ 4) ∧ a < 2 ^ wF f ∧ b < 2 ^ wF f ∧ c < 2 ^ wF f)) := by
  unfold ref11_Fits_3.g
  simp only [ref07_Right_g, ref07_RightMode_g, ref07_Fits_g ha, ref07_Fits_g hb, ref07_Fits_g hc, obind]
  by_cases h : f ≤ 3
  · by_cases hm : m ≤ 4
    · by_cases ga : a < 2 ^ wF f
      · by_cases gb : b < 2 ^ wF f
        · by_cases gc : c < 2 ^ wF f
          · simp [h, hm, ga, gb, gc]
          · simp [h, hm, ga, gb, gc]
        · simp [h, hm, ga, gb]
      · simp [h, hm, ga]
    · simp [h, hm]
  · simp [h]
theorem ref11_Canonical_3_g {f a b c : Nat} (h : f ≤ 3) (ha : a < 2 ^ wF f) (hb : b < 2 ^ wF f) (hc : c < 2 ^ wF f) : ref11_Canonical_3.g (f : Int) (B2.of a, B2.of b, B2.of c) = some (B2.of (nanN f), if clsF f a = 8 ∨ clsF f b = 8 ∨ clsF f c = 8 then 16 else 0) := by
  unfold ref11_Canonical_3.g
  simp only [ref07_NaN_g h, ref08_IsSignaling_g h ha, ref08_IsSignaling_g h hb, ref08_IsSignaling_g h hc, obind]
  by_cases ga : clsF f a = 8 <;> by_cases gb : clsF f b = 8 <;> by_cases gc : clsF f c = 8 <;> simp [ga, gb, gc]

end Go.Proofs.YtnfbcofieobkkaaGreatDoor
