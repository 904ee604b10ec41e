/- Printed by a program: plain Lean functions of Go functions. -/
import Derived.Test.YtnfbcofieobkkaaGreatDoorPA
namespace Go.Proofs.YtnfbcofieobkkaaGreatDoor
open Go Go.Proofs Ev
set_option linter.unusedVariables false
set_option linter.unusedSimpArgs false
noncomputable section

/-! ### law11_alive -/
def law11_alive.g  : Option Bool := (add_Add.g (2 : Int) (0 : Int) { hi := (0 : Int), lo := (15360 : Int) : B2 } { hi := (0 : Int), lo := (15360 : Int) : B2 }).bind fun (r : B2 × Int × Int) => bif r.fst.hi == (0 : Int) && (r.fst.lo == (16384 : Int) && true) then bif r.snd.fst == (0 : Int) then some (r.snd.snd == (0 : Int)) else some false else some false
def law11_alive.ct : CT := CT.of0  dB law11_alive.g

/-! ### law11_AddSums -/
def law11_AddSums.g (f : Int) (m_ : Int) (a : B2) (b : B2) : Option Bool := (add_Add.g f m_ a b).bind fun (r : B2 × Int × Int) => (ref11_Add.g f m_ a b).bind fun (r_1 : B2 × Int × Int) => (add_Sub.g f m_ a b).bind fun (r_2 : B2 × Int × Int) => (ref11_Sub.g f m_ a b).bind fun (r_3 : B2 × Int × Int) => bif r.fst.hi == r_1.fst.hi && (r.fst.lo == r_1.fst.lo && true) then bif r.snd.fst == r_1.snd.fst then bif r.snd.snd == r_1.snd.snd then bif r_2.fst.hi == r_3.fst.hi && (r_2.fst.lo == r_3.fst.lo && true) then bif r_2.snd.fst == r_3.snd.fst then bif r_2.snd.snd == r_3.snd.snd then law11_alive.g.bind fun (r : Bool) => some r else some false else some false else some false else some false else some false else some false
def law11_AddSums.ct : CT := CT.of4 (dI .u8) (dI .u8) dBits dBits dB law11_AddSums.g

end
end Go.Proofs.YtnfbcofieobkkaaGreatDoor
