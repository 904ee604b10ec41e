/- Printed by a program: plain Lean functions of Go functions. -/
import Derived.Test.YtnfbcofieobkkaaGreatDoorPR
namespace Go.Proofs.YtnfbcofieobkkaaGreatDoor
open Go Go.Proofs Ev
set_option linter.unusedVariables false
set_option linter.unusedSimpArgs false
noncomputable section

/-! ### widen_either_api_Flags -/
def widen_either_api_Flags.g (is : Bool) (a : Int) (b : Int) : Option Int := bif is then some a else some b
def widen_either_api_Flags.ct : CT := CT.of3 dB (dI .u8) (dI .u8) (dI .u8) widen_either_api_Flags.g

/-! ### widen_Convert -/
def widen_Convert.g (to_ : Int) (from_ : Int) (m_ : Int) (a : B2) : Option (B2 × Int × Int) := (kind_Unpack.g from_ a).bind fun (r : Pts × Int) => bif !r.snd == (0 : Int) then some ({ hi := (0 : Int), lo := (0 : Int) : B2 }, (0 : Int), (2 : Int)) else (shape_Check.g to_).bind fun (r_1 : Int) => bif !r_1 == (0 : Int) then some ({ hi := (0 : Int), lo := (0 : Int) : B2 }, (0 : Int), (2 : Int)) else (shape_CheckMode.g m_).bind fun (r_2 : Int) => bif !r_2 == (0 : Int) then some ({ hi := (0 : Int), lo := (0 : Int) : B2 }, (0 : Int), (2 : Int)) else bif r.fst.cls == (8 : Int) then bif r.fst.cls == (8 : Int) then (shape_NaN.g to_).bind fun (r_3 : B2) => (widen_either_api_Flags.g (r.fst.cls == (8 : Int)) (16 : Int) (0 : Int)).bind fun (r : Int) => some (r_3, r, (0 : Int)) else bif r.fst.cls == (0 : Int) then bif r.fst.cls == (0 : Int) then (shape_Inf.g to_ (decide (r.fst.cls < (4 : Int)))).bind fun (r : B2) => some (r, (0 : Int), (0 : Int)) else (round_Pack.g to_ m_ { neg := decide (r.fst.cls < (4 : Int)), sig := r.fst.sig, exp := r.fst.exp, more := false : Rgh }).bind fun (r : B2 × Int × Int) => some (r.fst, r.snd.fst, r.snd.snd) else bif r.fst.cls == (7 : Int) then (shape_Inf.g to_ (decide (r.fst.cls < (4 : Int)))).bind fun (r : B2) => some (r, (0 : Int), (0 : Int)) else (round_Pack.g to_ m_ { neg := decide (r.fst.cls < (4 : Int)), sig := r.fst.sig, exp := r.fst.exp, more := false : Rgh }).bind fun (r : B2 × Int × Int) => some (r.fst, r.snd.fst, r.snd.snd) else bif r.fst.cls == (9 : Int) then (shape_NaN.g to_).bind fun (r_3 : B2) => (widen_either_api_Flags.g (r.fst.cls == (8 : Int)) (16 : Int) (0 : Int)).bind fun (r : Int) => some (r_3, r, (0 : Int)) else bif r.fst.cls == (0 : Int) then bif r.fst.cls == (0 : Int) then (shape_Inf.g to_ (decide (r.fst.cls < (4 : Int)))).bind fun (r : B2) => some (r, (0 : Int), (0 : Int)) else (round_Pack.g to_ m_ { neg := decide (r.fst.cls < (4 : Int)), sig := r.fst.sig, exp := r.fst.exp, more := false : Rgh }).bind fun (r : B2 × Int × Int) => some (r.fst, r.snd.fst, r.snd.snd) else bif r.fst.cls == (7 : Int) then (shape_Inf.g to_ (decide (r.fst.cls < (4 : Int)))).bind fun (r : B2) => some (r, (0 : Int), (0 : Int)) else (round_Pack.g to_ m_ { neg := decide (r.fst.cls < (4 : Int)), sig := r.fst.sig, exp := r.fst.exp, more := false : Rgh }).bind fun (r : B2 × Int × Int) => some (r.fst, r.snd.fst, r.snd.snd)
def widen_Convert.ct : CT := CT.of4 (dI .u8) (dI .u8) (dI .u8) dBits (dT3 dBits (dI .u8) (dI .i64)) widen_Convert.g

/-! ### ref18_Convert -/
def ref18_Convert.g (to_ : Int) (from_ : Int) (m_ : Int) (a : B2) : Option (B2 × Int × Int) := (ref07_Right.g to_).bind fun (r : Bool) => bif !r then some ({ hi := (0 : Int), lo := (0 : Int) : B2 }, (0 : Int), (2 : Int)) else (ref07_Fits.g from_ a).bind fun (r : Bool) => bif !r then some ({ hi := (0 : Int), lo := (0 : Int) : B2 }, (0 : Int), (2 : Int)) else (ref07_RightMode.g m_).bind fun (r : Bool) => bif !r then some ({ hi := (0 : Int), lo := (0 : Int) : B2 }, (0 : Int), (2 : Int)) else (ref08_IsNaN.g from_ a).bind fun (r : Bool) => bif r then (ref08_IsSignaling.g from_ a).bind fun (r : Bool) => bif r then (ref07_NaN.g to_).bind fun (r : B2) => some (r, (16 : Int), (0 : Int)) else (ref07_NaN.g to_).bind fun (r : B2) => some (r, (0 : Int), (0 : Int)) else (ref08_Sign.g from_ a).bind fun (r : Bool) => (ref08_IsInf.g from_ a).bind fun (r_1 : Bool) => bif r_1 then (ref07_Inf.g to_ r).bind fun (r : B2) => some (r, (0 : Int), (0 : Int)) else (ref08_IsZero.g from_ a).bind fun (r_2 : Bool) => bif r_2 then (ref07_Zero.g to_ r).bind fun (r : B2) => some (r, (0 : Int), (0 : Int)) else (ref08_Value.g from_ a).bind fun (r : Exc × Int) => (ref09_Round.g to_ m_ r.fst).bind fun (r : B2 × Int × Int) => some (r.fst, r.snd.fst, r.snd.snd)
def ref18_Convert.ct : CT := CT.of4 (dI .u8) (dI .u8) (dI .u8) dBits (dT3 dBits (dI .u8) (dI .i64)) ref18_Convert.g

/-! ### widen_either_bool -/
def widen_either_bool.g (is : Bool) (a : Bool) (b : Bool) : Option Bool := bif is then some a else some b
def widen_either_bool.ct : CT := CT.of3 dB dB dB dB widen_either_bool.g

/-! ### widen_Fits -/
def widen_Fits.g (to_ : Int) (from_ : Int) (a : B2) : Option (Bool × Int) := (widen_Convert.g to_ from_ (1 : Int) a).bind fun (r : B2 × Int × Int) => (kind_Class.g from_ a).bind fun (r_1 : Int × Int) => bif r.snd.fst == (0 : Int) then (widen_either_bool.g (r.snd.snd == (0 : Int)) (decide (r_1.fst < (8 : Int))) false).bind fun (r_2 : Bool) => some (r_2, r.snd.snd) else (widen_either_bool.g (r.snd.snd == (0 : Int)) false false).bind fun (r_2 : Bool) => some (r_2, r.snd.snd)
def widen_Fits.ct : CT := CT.of3 (dI .u8) (dI .u8) dBits (dT2 dB (dI .i64)) widen_Fits.g

/-! ### ref18_Fits -/
def ref18_Fits.g (to_ : Int) (from_ : Int) (a : B2) : Option (Bool × Int) := (ref07_Right.g to_).bind fun (r : Bool) => bif !r then some (false, (2 : Int)) else (ref07_Fits.g from_ a).bind fun (r : Bool) => bif !r then some (false, (2 : Int)) else (ref08_IsNaN.g from_ a).bind fun (r : Bool) => bif r then some (false, (0 : Int)) else (ref08_IsInf.g from_ a).bind fun (r : Bool) => bif r then some (true, (0 : Int)) else (ref08_Value.g from_ a).bind fun (r : Exc × Int) => (ref08_Of.g to_ r.fst).bind fun (r : B2 × Bool) => some (r.snd, (0 : Int))
def ref18_Fits.ct : CT := CT.of3 (dI .u8) (dI .u8) dBits (dT2 dB (dI .i64)) ref18_Fits.g

end
end Go.Proofs.YtnfbcofieobkkaaGreatDoor
