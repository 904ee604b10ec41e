/- Printed by a program: plain Lean functions of Go functions. -/
import Derived.Test.YtnfbcofieobkkaaGreatDoorPF
import Derived.Test.YtnfbcofieobkkaaGreatDoorPT
namespace Go.Proofs.YtnfbcofieobkkaaGreatDoor
open Go Go.Proofs Ev
set_option linter.unusedVariables false
set_option linter.unusedSimpArgs false
noncomputable section

/-! ### law20_alive -/
def law20_alive.g  : Option Bool := (fromint_Convert.g (2 : Int) (0 : Int) (0 : Int) (18446744073709551615 : Int)).bind fun (r : B2 × Int × Int) => bif r.fst.hi == (0 : Int) && (r.fst.lo == (48128 : Int) && true) then bif r.snd.fst == (0 : Int) then some (r.snd.snd == (0 : Int)) else some false else some false
def law20_alive.ct : CT := CT.of0  dB law20_alive.g

/-! ### law20_FromintConverts -/
def law20_FromintConverts.g (f : Int) (k_ : Int) (m_ : Int) (x : Int) : Option Bool := (fromint_Convert.g f k_ m_ x).bind fun (r : B2 × Int × Int) => (ref20_Convert.g f k_ m_ x).bind fun (r_1 : B2 × Int × Int) => bif !(r.fst.hi == r_1.fst.hi && (r.fst.lo == r_1.fst.lo && true)) then some false else bif !r.snd.fst == r_1.snd.fst then some false else bif !r.snd.snd == r_1.snd.snd then some false else (fromint_Number.g k_ x).bind fun (r : Bool × Int × Int) => bif decide ((3 : Int) < k_) then bif !r.fst then bif r.snd.fst == (0 : Int) then bif r.snd.snd == (2 : Int) then law20_alive.g.bind fun (r : Bool) => some r else some false else some false else some false else (ref20_Number.g k_ x).bind fun (r_2 : Bool × Int) => bif r.fst == r_2.fst then bif r.snd.fst == r_2.snd then bif r.snd.snd == (0 : Int) then law20_alive.g.bind fun (r : Bool) => some r else some false else some false else some false
def law20_FromintConverts.ct : CT := CT.of4 (dI .u8) (dI .u8) (dI .u8) (dI .u64) dB law20_FromintConverts.g

end
end Go.Proofs.YtnfbcofieobkkaaGreatDoor
