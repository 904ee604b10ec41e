/- Printed by a program: plain Lean functions of Go functions. -/
import Derived.Test.YtnfbcofieobkkaaGreatDoorPR
namespace Go.Proofs.YtnfbcofieobkkaaGreatDoor
open Go Go.Proofs Ev
set_option linter.unusedVariables false
set_option linter.unusedSimpArgs false
noncomputable section

/-! ### fromint_signed -/
def fromint_signed.g (s : Int) : Option (Bool × Int) := bif decide (s < (0 : Int)) then some (true, IntKind.u64.wrap ((0 : Int) - IntKind.u64.wrap s)) else some (false, IntKind.u64.wrap s)
def fromint_signed.ct : CT := CT.of1 (dI .i64) (dT2 dB (dI .u64)) fromint_signed.g

/-! ### fromint_Number_1 -/
def fromint_Number_1.g (x : Int) : Option (Bool × Int) := (fromint_signed.g (IntKind.i64.wrap (IntKind.i32.wrap (IntKind.u32.wrap x)))).bind fun (r : Bool × Int) => some (r.fst, r.snd)
def fromint_Number_1.ct : CT := CT.of1 (dI .u64) (dT2 dB (dI .u64)) fromint_Number_1.g

/-! ### fromint_Number_2 -/
def fromint_Number_2.g (x : Int) : Option (Bool × Int) := some (false, IntKind.u64.wrap (IntKind.u32.wrap x))
def fromint_Number_2.ct : CT := CT.of1 (dI .u64) (dT2 dB (dI .u64)) fromint_Number_2.g

/-! ### fromint_Number_3 -/
def fromint_Number_3.g (x : Int) : Option (Bool × Int) := (fromint_signed.g (IntKind.i64.wrap x)).bind fun (r : Bool × Int) => some (r.fst, r.snd)
def fromint_Number_3.ct : CT := CT.of1 (dI .u64) (dT2 dB (dI .u64)) fromint_Number_3.g

/-! ### fromint_Number_4 -/
def fromint_Number_4.g (x : Int) : Option (Bool × Int) := some (false, x)
def fromint_Number_4.ct : CT := CT.of1 (dI .u64) (dT2 dB (dI .u64)) fromint_Number_4.g

/-! ### fromint_Number -/
def fromint_Number.g (k_ : Int) (x : Int) : Option (Bool × Int × Int) := bif (0 : Int) == k_ then (fromint_Number_1.g x).bind fun (r : Bool × Int) => some (r.fst, r.snd, (0 : Int)) else bif (1 : Int) == k_ then (fromint_Number_2.g x).bind fun (r : Bool × Int) => some (r.fst, r.snd, (0 : Int)) else bif (2 : Int) == k_ then (fromint_Number_3.g x).bind fun (r : Bool × Int) => some (r.fst, r.snd, (0 : Int)) else bif (3 : Int) == k_ then (fromint_Number_4.g x).bind fun (r : Bool × Int) => some (r.fst, r.snd, (0 : Int)) else some (false, (0 : Int), (2 : Int))
def fromint_Number.ct : CT := CT.of2 (dI .u8) (dI .u64) (dT3 dB (dI .u64) (dI .i64)) fromint_Number.g

/-! ### fromint_Convert -/
def fromint_Convert.g (f : Int) (k_ : Int) (m_ : Int) (x : Int) : Option (B2 × Int × Int) := (fromint_Number.g k_ x).bind fun (r : Bool × Int × Int) => bif !r.snd.snd == (0 : Int) then some ({ hi := (0 : Int), lo := (0 : Int) : B2 }, (0 : Int), r.snd.snd) else (wide_Of.g r.snd.fst).bind fun (r_1 : W6) => (round_Pack.g f m_ { neg := r.fst, sig := r_1, exp := (0 : Int), more := false : Rgh }).bind fun (r : B2 × Int × Int) => some (r.fst, r.snd.fst, r.snd.snd)
def fromint_Convert.ct : CT := CT.of4 (dI .u8) (dI .u8) (dI .u8) (dI .u64) (dT3 dBits (dI .u8) (dI .i64)) fromint_Convert.g

/-! ### ref20_Number -/
def ref20_Number.g (k_ : Int) (x : Int) : Option (Bool × Int) := bif k_ == (0 : Int) then (ref01_Extend.g x (32 : Int)).bind fun (r : Int) => bif shrI IntKind.u64 r (63 : Int) == (1 : Int) then some (true, IntKind.u64.wrap ((0 : Int) - r)) else some (false, r) else bif k_ == (1 : Int) then (ref01_Field.g x (0 : Int) (32 : Int)).bind fun (r : Int) => some (false, r) else bif k_ == (3 : Int) then some (false, x) else bif shrI IntKind.u64 x (63 : Int) == (1 : Int) then some (true, IntKind.u64.wrap ((0 : Int) - x)) else some (false, x)
def ref20_Number.ct : CT := CT.of2 (dI .u8) (dI .u64) (dT2 dB (dI .u64)) ref20_Number.g

/-! ### ref20_Convert -/
def ref20_Convert.g (f : Int) (k_ : Int) (m_ : Int) (x : Int) : Option (B2 × Int × Int) := (ref07_Right.g f).bind fun (r : Bool) => bif !r then some ({ hi := (0 : Int), lo := (0 : Int) : B2 }, (0 : Int), (2 : Int)) else bif decide ((3 : Int) < k_) then some ({ hi := (0 : Int), lo := (0 : Int) : B2 }, (0 : Int), (2 : Int)) else (ref07_RightMode.g m_).bind fun (r : Bool) => bif !r then some ({ hi := (0 : Int), lo := (0 : Int) : B2 }, (0 : Int), (2 : Int)) else (ref20_Number.g k_ x).bind fun (r : Bool × Int) => (ref05_Of.g r.snd).bind fun (r_1 : ByteArray) => (ref06_Make.g r.fst r_1 { data := { toList := [(1 : UInt8)] : Array UInt8 } : ByteArray } (0 : Int)).bind fun (r : Exc × Int) => (ref09_Round.g f m_ r.fst).bind fun (r : B2 × Int × Int) => some (r.fst, r.snd.fst, r.snd.snd)
def ref20_Convert.ct : CT := CT.of4 (dI .u8) (dI .u8) (dI .u8) (dI .u64) (dT3 dBits (dI .u8) (dI .i64)) ref20_Convert.g

end
end Go.Proofs.YtnfbcofieobkkaaGreatDoor
