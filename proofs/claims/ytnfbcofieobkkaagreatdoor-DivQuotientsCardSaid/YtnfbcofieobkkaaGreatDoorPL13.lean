/- Printed by a program: plain Lean functions of Go functions. -/
import Derived.Test.YtnfbcofieobkkaaGreatDoorPD
namespace Go.Proofs.YtnfbcofieobkkaaGreatDoor
open Go Go.Proofs Ev
set_option linter.unusedVariables false
set_option linter.unusedSimpArgs false
noncomputable section

/-! ### law13_alive -/
def law13_alive.g  : Option Bool := (div_Div.g (2 : Int) (0 : Int) { hi := (0 : Int), lo := (17920 : Int) : B2 } { hi := (0 : Int), lo := (16896 : Int) : B2 }).bind fun (r : B2 × Int × Int) => bif r.fst.hi == (0 : Int) && (r.fst.lo == (16384 : Int) && true) then bif r.snd.fst == (0 : Int) then some (r.snd.snd == (0 : Int)) else some false else some false
def law13_alive.ct : CT := CT.of0  dB law13_alive.g

/-! ### law13_DivQuotients -/
def law13_DivQuotients.g (f : Int) (m_ : Int) (a : B2) (b : B2) : Option Bool := (div_Div.g f m_ a b).bind fun (r : B2 × Int × Int) => (ref13_Div.g f m_ a b).bind fun (r_1 : B2 × Int × Int) => bif r.fst.hi == r_1.fst.hi && (r.fst.lo == r_1.fst.lo && true) then bif r.snd.fst == r_1.snd.fst then bif r.snd.snd == r_1.snd.snd then law13_alive.g.bind fun (r : Bool) => some r else some false else some false else some false
def law13_DivQuotients.ct : CT := CT.of4 (dI .u8) (dI .u8) dBits dBits dB law13_DivQuotients.g

end
end Go.Proofs.YtnfbcofieobkkaaGreatDoor
