/- Printed by a program: plain Lean functions of Go functions. -/
import Derived.Test.YtnfbcofieobkkaaGreatDoorPT
namespace Go.Proofs.YtnfbcofieobkkaaGreatDoor
open Go Go.Proofs Ev
set_option linter.unusedVariables false
set_option linter.unusedSimpArgs false
noncomputable section

/-! ### law19_alive -/
def law19_alive.g  : Option Bool := (toint_Convert.g (0 : Int) (2 : Int) (1 : Int) { hi := (0 : Int), lo := (48128 : Int) : B2 }).bind fun (r : Int × Int × Int) => bif r.fst == (18446744073709551615 : Int) then bif r.snd.fst == (0 : Int) then some (r.snd.snd == (0 : Int)) else some false else some false
def law19_alive.ct : CT := CT.of0  dB law19_alive.g

/-! ### law19_TointConverts -/
def law19_TointConverts.g (k_ : Int) (f : Int) (m_ : Int) (a : B2) : Option Bool := (toint_Convert.g k_ f m_ a).bind fun (r : Int × Int × Int) => (ref19_Convert.g k_ f m_ a).bind fun (r_1 : Int × Int × Int) => bif r.fst == r_1.fst then bif r.snd.fst == r_1.snd.fst then bif r.snd.snd == r_1.snd.snd then law19_alive.g.bind fun (r : Bool) => some r else some false else some false else some false
def law19_TointConverts.ct : CT := CT.of4 (dI .u8) (dI .u8) (dI .u8) dBits dB law19_TointConverts.g

end
end Go.Proofs.YtnfbcofieobkkaaGreatDoor
