/- Printed by a program: plain Lean functions of Go functions. -/
import Derived.Test.YtnfbcofieobkkaaGreatDoorPS
namespace Go.Proofs.YtnfbcofieobkkaaGreatDoor
open Go Go.Proofs Ev
set_option linter.unusedVariables false
set_option linter.unusedSimpArgs false
noncomputable section

/-! ### ref11_Fits_2 -/
def ref11_Fits_2.g (f : Int) (m_ : Int) (l : (B2 × B2)) : Option Bool := (ref07_Right.g f).bind fun (r : Bool) => bif !r then some false else (ref07_RightMode.g m_).bind fun (r : Bool) => bif !r then some false else (ref07_Fits.g f l.fst).bind fun (r : Bool) => bif !r then some false else (ref07_Fits.g f l.snd).bind fun (r : Bool) => bif !r then some false else some true
def ref11_Fits_2.ct : CT := CT.ofK2 (dI .u8) (dI .u8) 2 mB2x2 27 dB ref11_Fits_2.g

/-! ### ref11_Canonical_2 -/
def ref11_Canonical_2.g (f : Int) (l : (B2 × B2)) : Option (B2 × Int) := (ref08_IsSignaling.g f l.fst).bind fun (r : Bool) => bif r then (ref08_IsSignaling.g f l.snd).bind fun (r : Bool) => bif r then (ref07_NaN.g f).bind fun (r : B2) => some (r, (16 : Int)) else (ref07_NaN.g f).bind fun (r : B2) => some (r, (16 : Int)) else (ref08_IsSignaling.g f l.snd).bind fun (r : Bool) => bif r then (ref07_NaN.g f).bind fun (r : B2) => some (r, (16 : Int)) else (ref07_NaN.g f).bind fun (r : B2) => some (r, (0 : Int))
def ref11_Canonical_2.ct : CT := CT.ofK1 (dI .u8) 2 mB2x2 27 (dT2 dBits (dI .u8)) ref11_Canonical_2.g

/-! ### ref11_Fits_1 -/
def ref11_Fits_1.g (f : Int) (m_ : Int) (l : B2) : Option Bool := (ref07_Right.g f).bind fun (r : Bool) => bif !r then some false else (ref07_RightMode.g m_).bind fun (r : Bool) => bif !r then some false else (ref07_Fits.g f l).bind fun (r : Bool) => bif !r then some false else some true
def ref11_Fits_1.ct : CT := CT.ofK2 (dI .u8) (dI .u8) 1 mBits 27 dB ref11_Fits_1.g

/-! ### ref11_Canonical_1 -/
def ref11_Canonical_1.g (f : Int) (l : B2) : Option (B2 × Int) := (ref08_IsSignaling.g f l).bind fun (r : Bool) => bif r then (ref07_NaN.g f).bind fun (r : B2) => some (r, (16 : Int)) else (ref07_NaN.g f).bind fun (r : B2) => some (r, (0 : Int))
def ref11_Canonical_1.ct : CT := CT.ofK1 (dI .u8) 1 mBits 27 (dT2 dBits (dI .u8)) ref11_Canonical_1.g

/-! ### ref11_Nought -/
def ref11_Nought.g (f : Int) (m_ : Int) : Option B2 := (ref07_Zero.g f (m_ == (2 : Int))).bind fun (r : B2) => some r
def ref11_Nought.ct : CT := CT.of2 (dI .u8) (dI .u8) dBits ref11_Nought.g

/-! ### ref11_Fits_3 -/
def ref11_Fits_3.g (f : Int) (m_ : Int) (l : (B2 × B2 × B2)) : Option Bool := (ref07_Right.g f).bind fun (r : Bool) => bif !r then some false else (ref07_RightMode.g m_).bind fun (r : Bool) => bif !r then some false else (ref07_Fits.g f l.fst).bind fun (r : Bool) => bif !r then some false else (ref07_Fits.g f l.snd.fst).bind fun (r : Bool) => bif !r then some false else (ref07_Fits.g f l.snd.snd).bind fun (r : Bool) => bif !r then some false else some true
def ref11_Fits_3.ct : CT := CT.ofK2 (dI .u8) (dI .u8) 3 mB2x3 27 dB ref11_Fits_3.g

/-! ### ref11_Canonical_3 -/
def ref11_Canonical_3.g (f : Int) (l : (B2 × B2 × B2)) : Option (B2 × Int) := (ref08_IsSignaling.g f l.fst).bind fun (r : Bool) => bif r then (ref08_IsSignaling.g f l.snd.fst).bind fun (r : Bool) => bif r then (ref08_IsSignaling.g f l.snd.snd).bind fun (r : Bool) => bif r then (ref07_NaN.g f).bind fun (r : B2) => some (r, (16 : Int)) else (ref07_NaN.g f).bind fun (r : B2) => some (r, (16 : Int)) else (ref08_IsSignaling.g f l.snd.snd).bind fun (r : Bool) => bif r then (ref07_NaN.g f).bind fun (r : B2) => some (r, (16 : Int)) else (ref07_NaN.g f).bind fun (r : B2) => some (r, (16 : Int)) else (ref08_IsSignaling.g f l.snd.fst).bind fun (r : Bool) => bif r then (ref08_IsSignaling.g f l.snd.snd).bind fun (r : Bool) => bif r then (ref07_NaN.g f).bind fun (r : B2) => some (r, (16 : Int)) else (ref07_NaN.g f).bind fun (r : B2) => some (r, (16 : Int)) else (ref08_IsSignaling.g f l.snd.snd).bind fun (r : Bool) => bif r then (ref07_NaN.g f).bind fun (r : B2) => some (r, (16 : Int)) else (ref07_NaN.g f).bind fun (r : B2) => some (r, (0 : Int))
def ref11_Canonical_3.ct : CT := CT.ofK1 (dI .u8) 3 mB2x3 27 (dT2 dBits (dI .u8)) ref11_Canonical_3.g

end
end Go.Proofs.YtnfbcofieobkkaaGreatDoor
