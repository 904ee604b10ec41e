/- Printed by a program: plain Lean functions of Go functions. -/
import Derived.Test.YtnfbcofieobkkaaGreatDoorPR
import Derived.Test.YtnfbcofieobkkaaGreatDoorPH
import Derived.Test.YtnfbcofieobkkaaGreatDoorPE
namespace Go.Proofs.YtnfbcofieobkkaaGreatDoor
open Go Go.Proofs Ev
set_option linter.unusedVariables false
set_option linter.unusedSimpArgs false
noncomputable section

/-! ### sqrt_open_1 -/
def sqrt_open_1.g (f : Int) (m_ : Int) (l : B2) : Option (P3 × Bool) := (shape_CheckMode.g m_).bind fun (r : Int) => bif !r == (0 : Int) then some ({ p0 := { cls := (0 : Int), sig := { w0 := (0 : Int), w1 := (0 : Int), w2 := (0 : Int), w3 := (0 : Int), w4 := (0 : Int), w5 := (0 : Int) : W6 }, exp := (0 : Int), frac := { w0 := (0 : Int), w1 := (0 : Int), w2 := (0 : Int), w3 := (0 : Int), w4 := (0 : Int), w5 := (0 : Int) : W6 } : Pts }, p1 := { cls := (0 : Int), sig := { w0 := (0 : Int), w1 := (0 : Int), w2 := (0 : Int), w3 := (0 : Int), w4 := (0 : Int), w5 := (0 : Int) : W6 }, exp := (0 : Int), frac := { w0 := (0 : Int), w1 := (0 : Int), w2 := (0 : Int), w3 := (0 : Int), w4 := (0 : Int), w5 := (0 : Int) : W6 } : Pts }, p2 := { cls := (0 : Int), sig := { w0 := (0 : Int), w1 := (0 : Int), w2 := (0 : Int), w3 := (0 : Int), w4 := (0 : Int), w5 := (0 : Int) : W6 }, exp := (0 : Int), frac := { w0 := (0 : Int), w1 := (0 : Int), w2 := (0 : Int), w3 := (0 : Int), w4 := (0 : Int), w5 := (0 : Int) : W6 } : Pts } : P3 }, false) else (shape_Check.g f).bind fun (r : Int) => bif !r == (0 : Int) then some ({ p0 := { cls := (0 : Int), sig := { w0 := (0 : Int), w1 := (0 : Int), w2 := (0 : Int), w3 := (0 : Int), w4 := (0 : Int), w5 := (0 : Int) : W6 }, exp := (0 : Int), frac := { w0 := (0 : Int), w1 := (0 : Int), w2 := (0 : Int), w3 := (0 : Int), w4 := (0 : Int), w5 := (0 : Int) : W6 } : Pts }, p1 := { cls := (0 : Int), sig := { w0 := (0 : Int), w1 := (0 : Int), w2 := (0 : Int), w3 := (0 : Int), w4 := (0 : Int), w5 := (0 : Int) : W6 }, exp := (0 : Int), frac := { w0 := (0 : Int), w1 := (0 : Int), w2 := (0 : Int), w3 := (0 : Int), w4 := (0 : Int), w5 := (0 : Int) : W6 } : Pts }, p2 := { cls := (0 : Int), sig := { w0 := (0 : Int), w1 := (0 : Int), w2 := (0 : Int), w3 := (0 : Int), w4 := (0 : Int), w5 := (0 : Int) : W6 }, exp := (0 : Int), frac := { w0 := (0 : Int), w1 := (0 : Int), w2 := (0 : Int), w3 := (0 : Int), w4 := (0 : Int), w5 := (0 : Int) : W6 } : Pts } : P3 }, false) else (kind_Unpack.g f l).bind fun (r : Pts × Int) => bif !r.snd == (0 : Int) then some ({ p0 := { cls := (0 : Int), sig := { w0 := (0 : Int), w1 := (0 : Int), w2 := (0 : Int), w3 := (0 : Int), w4 := (0 : Int), w5 := (0 : Int) : W6 }, exp := (0 : Int), frac := { w0 := (0 : Int), w1 := (0 : Int), w2 := (0 : Int), w3 := (0 : Int), w4 := (0 : Int), w5 := (0 : Int) : W6 } : Pts }, p1 := { cls := (0 : Int), sig := { w0 := (0 : Int), w1 := (0 : Int), w2 := (0 : Int), w3 := (0 : Int), w4 := (0 : Int), w5 := (0 : Int) : W6 }, exp := (0 : Int), frac := { w0 := (0 : Int), w1 := (0 : Int), w2 := (0 : Int), w3 := (0 : Int), w4 := (0 : Int), w5 := (0 : Int) : W6 } : Pts }, p2 := { cls := (0 : Int), sig := { w0 := (0 : Int), w1 := (0 : Int), w2 := (0 : Int), w3 := (0 : Int), w4 := (0 : Int), w5 := (0 : Int) : W6 }, exp := (0 : Int), frac := { w0 := (0 : Int), w1 := (0 : Int), w2 := (0 : Int), w3 := (0 : Int), w4 := (0 : Int), w5 := (0 : Int) : W6 } : Pts } : P3 }, false) else some ({ p0 := r.fst, p1 := { cls := (0 : Int), sig := { w0 := (0 : Int), w1 := (0 : Int), w2 := (0 : Int), w3 := (0 : Int), w4 := (0 : Int), w5 := (0 : Int) : W6 }, exp := (0 : Int), frac := { w0 := (0 : Int), w1 := (0 : Int), w2 := (0 : Int), w3 := (0 : Int), w4 := (0 : Int), w5 := (0 : Int) : W6 } : Pts }, p2 := { cls := (0 : Int), sig := { w0 := (0 : Int), w1 := (0 : Int), w2 := (0 : Int), w3 := (0 : Int), w4 := (0 : Int), w5 := (0 : Int) : W6 }, exp := (0 : Int), frac := { w0 := (0 : Int), w1 := (0 : Int), w2 := (0 : Int), w3 := (0 : Int), w4 := (0 : Int), w5 := (0 : Int) : W6 } : Pts } : P3 }, true)
def sqrt_open_1.ct : CT := CT.ofK2 (dI .u8) (dI .u8) 1 mBits 27 (dT2 dP3 dB) sqrt_open_1.g

/-! ### sqrt_nan -/
def sqrt_nan.g (p : Pts) : Option Bool := some (decide ((8 : Int) ≤ p.cls))
def sqrt_nan.ct : CT := CT.of1 dPts dB sqrt_nan.g

/-! ### sqrt_canonical_1 -/
def sqrt_canonical_1.g (f : Int) (l : Pts) : Option (B2 × Int × Int) := bif l.cls == (8 : Int) then (shape_NaN.g f).bind fun (r : B2) => some (r, (16 : Int), (0 : Int)) else (shape_NaN.g f).bind fun (r : B2) => some (r, (0 : Int), (0 : Int))
def sqrt_canonical_1.ct : CT := CT.ofK1 (dI .u8) 1 mPts 111 (dT3 dBits (dI .u8) (dI .i64)) sqrt_canonical_1.g

/-! ### sqrt_nought -/
def sqrt_nought.g (p : Pts) : Option Bool := bif p.cls == (3 : Int) then some true else some (p.cls == (4 : Int))
def sqrt_nought.ct : CT := CT.of1 dPts dB sqrt_nought.g

/-! ### sqrt_below -/
def sqrt_below.g (p : Pts) : Option Bool := some (decide (p.cls < (4 : Int)))
def sqrt_below.ct : CT := CT.of1 dPts dB sqrt_below.g

/-! ### sqrt_inf -/
def sqrt_inf.g (p : Pts) : Option Bool := bif p.cls == (0 : Int) then some true else some (p.cls == (7 : Int))
def sqrt_inf.ct : CT := CT.of1 dPts dB sqrt_inf.g

/-! ### sqrt_Sqrt -/
def sqrt_Sqrt.g (f : Int) (m_ : Int) (a : B2) : Option (B2 × Int × Int) := (sqrt_open_1.g f m_ a).bind fun (r : P3 × Bool) => bif !r.snd then some ({ hi := (0 : Int), lo := (0 : Int) : B2 }, (0 : Int), (2 : Int)) else (sqrt_nan.g r.fst.p0).bind fun (r_1 : Bool) => bif r_1 then (sqrt_canonical_1.g f r.fst.p0).bind fun (r : B2 × Int × Int) => some (r.fst, r.snd.fst, r.snd.snd) else (sqrt_nought.g r.fst.p0).bind fun (r_2 : Bool) => bif r_2 then some (a, (0 : Int), (0 : Int)) else (sqrt_below.g r.fst.p0).bind fun (r_3 : Bool) => bif r_3 then (shape_NaN.g f).bind fun (r : B2) => some (r, (16 : Int), (0 : Int)) else (sqrt_inf.g r.fst.p0).bind fun (r_4 : Bool) => bif r_4 then some (a, (0 : Int), (0 : Int)) else (shape_Precision.g f).bind fun (r_5 : Int) => (wide_Len.g r.fst.p0.sig).bind fun (r_6 : Int) => bif !andI IntKind.i64 (IntKind.i64.wrap (r.fst.p0.exp - maxI (0 : Int) (IntKind.i64.wrap (IntKind.i64.wrap ((2 : Int) * IntKind.i64.wrap (r_5 + (3 : Int))) - r_6)))) (1 : Int) == (0 : Int) then (wide_Left.g r.fst.p0.sig (IntKind.i64.wrap (maxI (0 : Int) (IntKind.i64.wrap (IntKind.i64.wrap ((2 : Int) * IntKind.i64.wrap (r_5 + (3 : Int))) - r_6)) + (1 : Int)))).bind fun (r_7 : W6 × Bool) => (quot_Sqrt.g r_7.fst).bind fun (r_8 : W6 × W6) => (round_Pack.g f m_ { neg := false, sig := r_8.fst, exp := shrI IntKind.i64 (IntKind.i64.wrap (r.fst.p0.exp - IntKind.i64.wrap (maxI (0 : Int) (IntKind.i64.wrap (IntKind.i64.wrap ((2 : Int) * IntKind.i64.wrap (r_5 + (3 : Int))) - r_6)) + (1 : Int)))) (1 : Int), more := !(r_8.snd.w0 == (0 : Int) && (r_8.snd.w1 == (0 : Int) && (r_8.snd.w2 == (0 : Int) && (r_8.snd.w3 == (0 : Int) && (r_8.snd.w4 == (0 : Int) && (r_8.snd.w5 == (0 : Int) && true)))))) : Rgh }).bind fun (r : B2 × Int × Int) => some (r.fst, r.snd.fst, r.snd.snd) else (wide_Left.g r.fst.p0.sig (maxI (0 : Int) (IntKind.i64.wrap (IntKind.i64.wrap ((2 : Int) * IntKind.i64.wrap (r_5 + (3 : Int))) - r_6)))).bind fun (r_7 : W6 × Bool) => (quot_Sqrt.g r_7.fst).bind fun (r_8 : W6 × W6) => (round_Pack.g f m_ { neg := false, sig := r_8.fst, exp := shrI IntKind.i64 (IntKind.i64.wrap (r.fst.p0.exp - maxI (0 : Int) (IntKind.i64.wrap (IntKind.i64.wrap ((2 : Int) * IntKind.i64.wrap (r_5 + (3 : Int))) - r_6)))) (1 : Int), more := !(r_8.snd.w0 == (0 : Int) && (r_8.snd.w1 == (0 : Int) && (r_8.snd.w2 == (0 : Int) && (r_8.snd.w3 == (0 : Int) && (r_8.snd.w4 == (0 : Int) && (r_8.snd.w5 == (0 : Int) && true)))))) : Rgh }).bind fun (r : B2 × Int × Int) => some (r.fst, r.snd.fst, r.snd.snd)
def sqrt_Sqrt.ct : CT := CT.of3 (dI .u8) (dI .u8) dBits (dT3 dBits (dI .u8) (dI .i64)) sqrt_Sqrt.g

/-! ### ref14_Sqrt -/
def ref14_Sqrt.g (f : Int) (m_ : Int) (a : B2) : Option (B2 × Int × Int) := (ref11_Fits_1.g f m_ a).bind fun (r : Bool) => bif !r then some ({ hi := (0 : Int), lo := (0 : Int) : B2 }, (0 : Int), (2 : Int)) else (ref08_IsNaN.g f a).bind fun (r : Bool) => bif r then (ref11_Canonical_1.g f a).bind fun (r : B2 × Int) => some (r.fst, r.snd, (0 : Int)) else (ref08_IsZero.g f a).bind fun (r : Bool) => bif r then some (a, (0 : Int), (0 : Int)) else (ref08_Sign.g f a).bind fun (r : Bool) => bif r then (ref07_NaN.g f).bind fun (r : B2) => some (r, (16 : Int), (0 : Int)) else (ref08_IsInf.g f a).bind fun (r : Bool) => bif r then some (a, (0 : Int), (0 : Int)) else (ref08_Value.g f a).bind fun (r : Exc × Int) => (ref09_Root.g f m_ r.fst).bind fun (r : B2 × Int × Int) => some (r.fst, r.snd.fst, r.snd.snd)
def ref14_Sqrt.ct : CT := CT.of3 (dI .u8) (dI .u8) dBits (dT3 dBits (dI .u8) (dI .i64)) ref14_Sqrt.g

end
end Go.Proofs.YtnfbcofieobkkaaGreatDoor
