/- Printed by a program: plain Lean functions of Go functions. -/
import Derived.Test.YtnfbcofieobkkaaDoorPT
namespace Go.Proofs.YtnfbcofieobkkaaDoor
open Go Go.Proofs Ev
set_option linter.unusedVariables false
set_option linter.unusedSimpArgs false
noncomputable section

/-! ### law19_alive -/
def law19_alive.g  : Option Bool := (toint_Convert.g (0 : Int) (2 : Int) (1 : Int) { hi := (0 : Int), lo := (48128 : Int) : B2 }).bind fun (r : Int × Int × Int) => bif r.fst == (18446744073709551615 : Int) then bif r.snd.fst == (0 : Int) then some (r.snd.snd == (0 : Int)) else some false else some false
def law19_alive.ct : CT := CT.of0  dB law19_alive.g

/-! ### law19_TointEnds -/
def law19_TointEnds.g (k_ : Int) (f : Int) (m_ : Int) (a : B2) : Option Bool := (toint_Least.g k_).bind fun (r : Int × Int) => (toint_Greatest.g k_).bind fun (r_1 : Int × Int) => bif decide ((3 : Int) < k_) then bif !r.fst == (0 : Int) then some false else bif !r_1.fst == (0 : Int) then some false else bif !r.snd == (2 : Int) then some false else bif !r_1.snd == (2 : Int) then some false else (toint_Whole.g f m_ a).bind fun (r : Bool × W6 × Bool × Int) => (ref19_Whole.g f m_ a).bind fun (r_2 : Bool × W6 × Bool × Int) => bif r.fst == r_2.fst then bif r.snd.fst.w0 == r_2.snd.fst.w0 && (r.snd.fst.w1 == r_2.snd.fst.w1 && (r.snd.fst.w2 == r_2.snd.fst.w2 && (r.snd.fst.w3 == r_2.snd.fst.w3 && (r.snd.fst.w4 == r_2.snd.fst.w4 && (r.snd.fst.w5 == r_2.snd.fst.w5 && true))))) then bif r.snd.snd.fst == r_2.snd.snd.fst then bif r.snd.snd.snd == r_2.snd.snd.snd then law19_alive.g.bind fun (r : Bool) => some r else some false else some false else some false else some false else (ref19_Least.g k_).bind fun (r_2 : Int) => bif !r.fst == r_2 then some false else (ref19_Greatest.g k_).bind fun (r_3 : Int) => bif !r_1.fst == r_3 then some false else bif !r.snd == (0 : Int) then some false else bif !r_1.snd == (0 : Int) then some false else (toint_Whole.g f m_ a).bind fun (r : Bool × W6 × Bool × Int) => (ref19_Whole.g f m_ a).bind fun (r_4 : Bool × W6 × Bool × Int) => bif r.fst == r_4.fst then bif r.snd.fst.w0 == r_4.snd.fst.w0 && (r.snd.fst.w1 == r_4.snd.fst.w1 && (r.snd.fst.w2 == r_4.snd.fst.w2 && (r.snd.fst.w3 == r_4.snd.fst.w3 && (r.snd.fst.w4 == r_4.snd.fst.w4 && (r.snd.fst.w5 == r_4.snd.fst.w5 && true))))) then bif r.snd.snd.fst == r_4.snd.snd.fst then bif r.snd.snd.snd == r_4.snd.snd.snd then law19_alive.g.bind fun (r : Bool) => some r else some false else some false else some false else some false
def law19_TointEnds.ct : CT := CT.of4 (dI .u8) (dI .u8) (dI .u8) dBits dB law19_TointEnds.g

end
end Go.Proofs.YtnfbcofieobkkaaDoor
