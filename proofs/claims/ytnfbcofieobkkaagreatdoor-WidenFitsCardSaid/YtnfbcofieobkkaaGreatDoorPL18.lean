/- Printed by a program: plain Lean functions of Go functions. -/
import Derived.Test.YtnfbcofieobkkaaGreatDoorPV
namespace Go.Proofs.YtnfbcofieobkkaaGreatDoor
open Go Go.Proofs Ev
set_option linter.unusedVariables false
set_option linter.unusedSimpArgs false
noncomputable section

/-! ### law18_alive -/
def law18_alive.g  : Option Bool := (widen_Convert.g (0 : Int) (2 : Int) (0 : Int) { hi := (0 : Int), lo := (15360 : Int) : B2 }).bind fun (r : B2 × Int × Int) => bif r.fst.hi == (0 : Int) && (r.fst.lo == (1065353216 : Int) && true) then bif r.snd.fst == (0 : Int) then some (r.snd.snd == (0 : Int)) else some false else some false
def law18_alive.ct : CT := CT.of0  dB law18_alive.g

/-! ### law18_WidenConverts -/
def law18_WidenConverts.g (to_ : Int) (from_ : Int) (m_ : Int) (a : B2) : Option Bool := (widen_Convert.g to_ from_ m_ a).bind fun (r : B2 × Int × Int) => (ref18_Convert.g to_ from_ m_ a).bind fun (r_1 : B2 × Int × Int) => bif r.fst.hi == r_1.fst.hi && (r.fst.lo == r_1.fst.lo && true) then bif r.snd.fst == r_1.snd.fst then bif r.snd.snd == r_1.snd.snd then law18_alive.g.bind fun (r : Bool) => some r else some false else some false else some false
def law18_WidenConverts.ct : CT := CT.of4 (dI .u8) (dI .u8) (dI .u8) dBits dB law18_WidenConverts.g

/-! ### law18_WidenFits -/
def law18_WidenFits.g (to_ : Int) (from_ : Int) (a : B2) : Option Bool := (widen_Fits.g to_ from_ a).bind fun (r : Bool × Int) => (ref18_Fits.g to_ from_ a).bind fun (r_1 : Bool × Int) => bif r.fst == r_1.fst then bif r.snd == r_1.snd then law18_alive.g.bind fun (r : Bool) => some r else some false else some false
def law18_WidenFits.ct : CT := CT.of3 (dI .u8) (dI .u8) dBits dB law18_WidenFits.g

end
end Go.Proofs.YtnfbcofieobkkaaGreatDoor
