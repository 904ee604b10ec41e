/- Printed by a program: plain Lean functions of Go functions. -/
import Derived.Test.YtnfbcofieobkkaaGreatDoorPQ
import Derived.Test.YtnfbcofieobkkaaGreatDoorPM
namespace Go.Proofs.YtnfbcofieobkkaaGreatDoor
open Go Go.Proofs Ev
set_option linter.unusedVariables false
set_option linter.unusedSimpArgs false
noncomputable section

/-! ### law14_alive -/
def law14_alive.g  : Option Bool := (sqrt_Sqrt.g (2 : Int) (0 : Int) { hi := (0 : Int), lo := (17408 : Int) : B2 }).bind fun (r : B2 × Int × Int) => bif r.fst.hi == (0 : Int) && (r.fst.lo == (16384 : Int) && true) then bif r.snd.fst == (0 : Int) then some (r.snd.snd == (0 : Int)) else some false else some false
def law14_alive.ct : CT := CT.of0  dB law14_alive.g

/-! ### law14_SqrtRoots -/
def law14_SqrtRoots.g (f : Int) (m_ : Int) (a : B2) : Option Bool := (sqrt_Sqrt.g f m_ a).bind fun (r : B2 × Int × Int) => (ref14_Sqrt.g f m_ a).bind fun (r_1 : B2 × Int × Int) => bif r.fst.hi == r_1.fst.hi && (r.fst.lo == r_1.fst.lo && true) then bif r.snd.fst == r_1.snd.fst then bif r.snd.snd == r_1.snd.snd then bif andI IntKind.u8 r.snd.fst (6 : Int) == (0 : Int) then law14_alive.g.bind fun (r : Bool) => some r else some false else some false else some false else some false
def law14_SqrtRoots.ct : CT := CT.of3 (dI .u8) (dI .u8) dBits dB law14_SqrtRoots.g

end
end Go.Proofs.YtnfbcofieobkkaaGreatDoor
