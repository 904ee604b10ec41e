/-
  NARROWER THAN 'FOR EVERY INPUT', by the rows' own cells (each row's printed sentence says how): TointEnds: laid · FromintBack: laid · AddNear: laid · FmaInvalid: laid · SqrtSquares: laid · FmaSingle: laid.
  DERIVED. THE GIVEN ROWS OF THIS SEAT. 6 by the template 'for every input the law returns true; each argument reads behind the call as it read before'; 0 by the template 'total and deterministic' (their statements: YtnfbcofieobkkaaDoorTotals.lean).
  GIVEN WITH THE SEED: the statements are not yours to turn. If you find one false, say at which input.
  Laid BY PROGRAM, IN A SANDBOX (cutbox-rows.mjs): the forced cells as the released guide's own fill.sh prints them over the translation 2ea05ce78d9c7355… (all of the seat's roots in one cut). By AI agents, Wed Nov 11 2026. No macro, syntax, notation, axiom, sorry.
-/
import Derived.Test.YtnfbcofieobkkaaDoorChecked
import GoSem.Claim
import GoSem.ClaimJoined
import GoSem.ClaimMapViews
import Derived.JoinedTies
import Derived.KernelRfl
namespace Go.Proofs.YtnfbcofieobkkaaDoor
/- THE CELL 'sum', in the pinned program and in every row, IS THE sha256 OF THE DUMP (.gsa) THAT YtnfbcofieobkkaaDoorProg.lean LOADS. Nothing in Lean hashes anything: it is a label: what it is worth is what the hold of that sum in a sandbox is worth. -/
noncomputable def Tryd.pinned : Pinned := { name := "ytnfbcofieobkkaadoor", sum := "2ea05ce78d9c735512abf6b02be0437ff8868de3a2d96b01d16466bc1aa9b791", checked := Tryd.checked }
namespace Rows
def none {H : Type} : Left H := { results := [], args := [] }

/- WHAT THE LISTED PACKAGE-LEVEL VARIABLES READ AS WHEN THE CALL BEGINS. Each datum BY PROGRAM (the guide's laid-datum.mjs) off the statement by which the dump's own 'gosem.cut.vars' lays the variable. In a bare row this is a premise. The card (YtnfbcofieobkkaaDoorCards.lean) ties it to the program's text. -/
def laid_math_bits_deBruijn64tab {H : Type} : DataW H := .agg [.lit (.int .u8 0), .lit (.int .u8 1), .lit (.int .u8 56), .lit (.int .u8 2), .lit (.int .u8 57), .lit (.int .u8 49), .lit (.int .u8 28), .lit (.int .u8 3), .lit (.int .u8 61), .lit (.int .u8 58), .lit (.int .u8 42), .lit (.int .u8 50), .lit (.int .u8 38), .lit (.int .u8 29), .lit (.int .u8 17), .lit (.int .u8 4), .lit (.int .u8 62), .lit (.int .u8 47), .lit (.int .u8 59), .lit (.int .u8 36), .lit (.int .u8 45), .lit (.int .u8 43), .lit (.int .u8 51), .lit (.int .u8 22), .lit (.int .u8 53), .lit (.int .u8 39), .lit (.int .u8 33), .lit (.int .u8 30), .lit (.int .u8 24), .lit (.int .u8 18), .lit (.int .u8 12), .lit (.int .u8 5), .lit (.int .u8 63), .lit (.int .u8 55), .lit (.int .u8 48), .lit (.int .u8 27), .lit (.int .u8 60), .lit (.int .u8 41), .lit (.int .u8 37), .lit (.int .u8 16), .lit (.int .u8 46), .lit (.int .u8 35), .lit (.int .u8 44), .lit (.int .u8 21), .lit (.int .u8 52), .lit (.int .u8 32), .lit (.int .u8 23), .lit (.int .u8 11), .lit (.int .u8 54), .lit (.int .u8 26), .lit (.int .u8 40), .lit (.int .u8 15), .lit (.int .u8 34), .lit (.int .u8 20), .lit (.int .u8 31), .lit (.int .u8 10), .lit (.int .u8 25), .lit (.int .u8 14), .lit (.int .u8 19), .lit (.int .u8 9), .lit (.int .u8 13), .lit (.int .u8 8), .lit (.int .u8 7), .lit (.int .u8 6)]

/-- 'abacuslaw19.TointEnds': WHATEVER THE INPUT: true; the input reads as it did. -/
def tointEndsSpec : ChangeSpec := { name := "tointEnds", fn := fun _ => fun
  | [d1, d2, d3, d4] => { results := [.lit (.bool true)], args := [d1, d2, d3, d4] }
  | _ => none }
def tointEndsRow : OpenClaim := { program := "ytnfbcofieobkkaadoor", sum := "2ea05ce78d9c735512abf6b02be0437ff8868de3a2d96b01d16466bc1aa9b791", func := "abacus/abacuslaw19.TointEnds", spec := "tointEnds", named := ["math/bits.deBruijn64tab"], apart := false, laid := [("math/bits.deBruijn64tab", laid_math_bits_deBruijn64tab)] }
def TointEndsSaid : Prop := tointEndsRow.holds Tryd.pinned (OpenSpec.ofChange tointEndsSpec)

/-- ITS FALSE NEIGHBOUR: 'it returns false'. Refute it at one input. -/
def tointEndsWrong : ChangeSpec := { name := "tointEnds", fn := fun _ => fun
  | [d1, d2, d3, d4] => { results := [.lit (.bool false)], args := [d1, d2, d3, d4] }
  | _ => none }
def TointEndsWrongFalsely : Prop := tointEndsRow.holds Tryd.pinned (OpenSpec.ofChange tointEndsWrong)

/-- 'abacuslaw20.FromintBack': WHATEVER THE INPUT: true; the input reads as it did. -/
def fromintBackSpec : ChangeSpec := { name := "fromintBack", fn := fun _ => fun
  | [d1, d2, d3, d4, d5] => { results := [.lit (.bool true)], args := [d1, d2, d3, d4, d5] }
  | _ => none }
def fromintBackRow : OpenClaim := { program := "ytnfbcofieobkkaadoor", sum := "2ea05ce78d9c735512abf6b02be0437ff8868de3a2d96b01d16466bc1aa9b791", func := "abacus/abacuslaw20.FromintBack", spec := "fromintBack", unfollowed := true, recurses := true, named := ["math/bits.deBruijn64tab"], apart := false, laid := [("math/bits.deBruijn64tab", laid_math_bits_deBruijn64tab)] }
def FromintBackSaid : Prop := fromintBackRow.holds Tryd.pinned (OpenSpec.ofChange fromintBackSpec)

/-- ITS FALSE NEIGHBOUR: 'it returns false'. Refute it at one input. -/
def fromintBackWrong : ChangeSpec := { name := "fromintBack", fn := fun _ => fun
  | [d1, d2, d3, d4, d5] => { results := [.lit (.bool false)], args := [d1, d2, d3, d4, d5] }
  | _ => none }
def FromintBackWrongFalsely : Prop := fromintBackRow.holds Tryd.pinned (OpenSpec.ofChange fromintBackWrong)

/-- 'abacuslaw11.AddNear': WHATEVER THE INPUT: true; the input reads as it did. -/
def addNearSpec : ChangeSpec := { name := "addNear", fn := fun _ => fun
  | [d1, d2, d3, d4] => { results := [.lit (.bool true)], args := [d1, d2, d3, d4] }
  | _ => none }
def addNearRow : OpenClaim := { program := "ytnfbcofieobkkaadoor", sum := "2ea05ce78d9c735512abf6b02be0437ff8868de3a2d96b01d16466bc1aa9b791", func := "abacus/abacuslaw11.AddNear", spec := "addNear", named := ["math/bits.deBruijn64tab"], apart := false, laid := [("math/bits.deBruijn64tab", laid_math_bits_deBruijn64tab)] }
def AddNearSaid : Prop := addNearRow.holds Tryd.pinned (OpenSpec.ofChange addNearSpec)

/-- ITS FALSE NEIGHBOUR: 'it returns false'. Refute it at one input. -/
def addNearWrong : ChangeSpec := { name := "addNear", fn := fun _ => fun
  | [d1, d2, d3, d4] => { results := [.lit (.bool false)], args := [d1, d2, d3, d4] }
  | _ => none }
def AddNearWrongFalsely : Prop := addNearRow.holds Tryd.pinned (OpenSpec.ofChange addNearWrong)

/-- 'abacuslaw15.FmaInvalid': WHATEVER THE INPUT: true; the input reads as it did. -/
def fmaInvalidSpec : ChangeSpec := { name := "fmaInvalid", fn := fun _ => fun
  | [d1, d2, d3, d4, d5, d6] => { results := [.lit (.bool true)], args := [d1, d2, d3, d4, d5, d6] }
  | _ => none }
def fmaInvalidRow : OpenClaim := { program := "ytnfbcofieobkkaadoor", sum := "2ea05ce78d9c735512abf6b02be0437ff8868de3a2d96b01d16466bc1aa9b791", func := "abacus/abacuslaw15.FmaInvalid", spec := "fmaInvalid", named := ["math/bits.deBruijn64tab"], apart := false, laid := [("math/bits.deBruijn64tab", laid_math_bits_deBruijn64tab)] }
def FmaInvalidSaid : Prop := fmaInvalidRow.holds Tryd.pinned (OpenSpec.ofChange fmaInvalidSpec)

/-- ITS FALSE NEIGHBOUR: 'it returns false'. Refute it at one input. -/
def fmaInvalidWrong : ChangeSpec := { name := "fmaInvalid", fn := fun _ => fun
  | [d1, d2, d3, d4, d5, d6] => { results := [.lit (.bool false)], args := [d1, d2, d3, d4, d5, d6] }
  | _ => none }
def FmaInvalidWrongFalsely : Prop := fmaInvalidRow.holds Tryd.pinned (OpenSpec.ofChange fmaInvalidWrong)

/-- 'abacuslaw14.SqrtSquares': WHATEVER THE INPUT: true; the input reads as it did. -/
def sqrtSquaresSpec : ChangeSpec := { name := "sqrtSquares", fn := fun _ => fun
  | [d1, d2, d3] => { results := [.lit (.bool true)], args := [d1, d2, d3] }
  | _ => none }
def sqrtSquaresRow : OpenClaim := { program := "ytnfbcofieobkkaadoor", sum := "2ea05ce78d9c735512abf6b02be0437ff8868de3a2d96b01d16466bc1aa9b791", func := "abacus/abacuslaw14.SqrtSquares", spec := "sqrtSquares", named := ["math/bits.deBruijn64tab"], apart := false, laid := [("math/bits.deBruijn64tab", laid_math_bits_deBruijn64tab)] }
def SqrtSquaresSaid : Prop := sqrtSquaresRow.holds Tryd.pinned (OpenSpec.ofChange sqrtSquaresSpec)

/-- ITS FALSE NEIGHBOUR: 'it returns false'. Refute it at one input. -/
def sqrtSquaresWrong : ChangeSpec := { name := "sqrtSquares", fn := fun _ => fun
  | [d1, d2, d3] => { results := [.lit (.bool false)], args := [d1, d2, d3] }
  | _ => none }
def SqrtSquaresWrongFalsely : Prop := sqrtSquaresRow.holds Tryd.pinned (OpenSpec.ofChange sqrtSquaresWrong)

/-- 'abacuslaw15.FmaSingle': WHATEVER THE INPUT: true; the input reads as it did. -/
def fmaSingleSpec : ChangeSpec := { name := "fmaSingle", fn := fun _ => fun
  | [d1, d2, d3, d4, d5] => { results := [.lit (.bool true)], args := [d1, d2, d3, d4, d5] }
  | _ => none }
def fmaSingleRow : OpenClaim := { program := "ytnfbcofieobkkaadoor", sum := "2ea05ce78d9c735512abf6b02be0437ff8868de3a2d96b01d16466bc1aa9b791", func := "abacus/abacuslaw15.FmaSingle", spec := "fmaSingle", named := ["math/bits.deBruijn64tab"], apart := false, laid := [("math/bits.deBruijn64tab", laid_math_bits_deBruijn64tab)] }
def FmaSingleSaid : Prop := fmaSingleRow.holds Tryd.pinned (OpenSpec.ofChange fmaSingleSpec)

/-- ITS FALSE NEIGHBOUR: 'it returns false'. Refute it at one input. -/
def fmaSingleWrong : ChangeSpec := { name := "fmaSingle", fn := fun _ => fun
  | [d1, d2, d3, d4, d5] => { results := [.lit (.bool false)], args := [d1, d2, d3, d4, d5] }
  | _ => none }
def FmaSingleWrongFalsely : Prop := fmaSingleRow.holds Tryd.pinned (OpenSpec.ofChange fmaSingleWrong)

/- THE SECOND FORM. 'bulk': how many values and letters a reading holds, each counted each time it is reached (what is shared counts as often as it is met; a slice's spare places count too). A statement '..UptoSaid' is the law's where the arguments, and the package variables that the reading takes, are together of bulk at most 1048576: NARROWER than '..Said'. Prove '..Said' where nothing that the law and all that it calls make is longer than what came in: it says more and counts as full. Else prove '..UptoSaid'. A law counts once. -/
mutual
def uptoBulk {H : Type} : DataW H → Nat
  | .lit (.string bytes) => bytes.length + 1
  | .lit _ => 1
  | .nil => 1
  | .ptr d => uptoBulk d + 1
  | .slice elems spare => uptoBulkAll elems + uptoBulkAll spare + 1
  | .agg parts => uptoBulkAll parts + 1
  | .iface _ d => uptoBulk d + 1
  | .map entries => uptoBulkEntries entries + 1
  | .held _ => 1
def uptoBulkAll {H : Type} : List (DataW H) → Nat
  | [] => 0
  | d :: r => uptoBulk d + uptoBulkAll r
def uptoBulkEntries {H : Type} : List (Lit × DataW H) → Nat
  | [] => 0
  | x :: r => uptoBulkEntry x + uptoBulkEntries r
def uptoBulkEntry {H : Type} : Lit × DataW H → Nat
  | (.string bytes, d) => bytes.length + uptoBulk d + 1
  | (_, d) => uptoBulk d + 1
 end
def uptoSmall : (H : Type) → List (DataW H) → Bool := fun _ ds => decide (uptoBulkAll ds ≤ 1048576)
def OpenSpec.upto (s : _root_.Go.ChangeSpec) : _root_.Go.OpenSpec := { _root_.Go.OpenSpec.ofChange s with cond := some uptoSmall }

/-- 'abacuslaw19.TointEnds', WHERE WHAT IT READS IS OF BULK AT MOST 1048576: true; the input reads as it did. -/
def tointEndsUptoRow : OpenClaim := { program := "ytnfbcofieobkkaadoor", sum := "2ea05ce78d9c735512abf6b02be0437ff8868de3a2d96b01d16466bc1aa9b791", func := "abacus/abacuslaw19.TointEnds", spec := "tointEnds", named := ["math/bits.deBruijn64tab"], apart := false, laid := [("math/bits.deBruijn64tab", laid_math_bits_deBruijn64tab)], narrowed := true }
def TointEndsUptoSaid : Prop := tointEndsUptoRow.holds Tryd.pinned (OpenSpec.upto tointEndsSpec)

/-- 'abacuslaw20.FromintBack', WHERE WHAT IT READS IS OF BULK AT MOST 1048576: true; the input reads as it did. -/
def fromintBackUptoRow : OpenClaim := { program := "ytnfbcofieobkkaadoor", sum := "2ea05ce78d9c735512abf6b02be0437ff8868de3a2d96b01d16466bc1aa9b791", func := "abacus/abacuslaw20.FromintBack", spec := "fromintBack", unfollowed := true, recurses := true, named := ["math/bits.deBruijn64tab"], apart := false, laid := [("math/bits.deBruijn64tab", laid_math_bits_deBruijn64tab)], narrowed := true }
def FromintBackUptoSaid : Prop := fromintBackUptoRow.holds Tryd.pinned (OpenSpec.upto fromintBackSpec)

/-- 'abacuslaw11.AddNear', WHERE WHAT IT READS IS OF BULK AT MOST 1048576: true; the input reads as it did. -/
def addNearUptoRow : OpenClaim := { program := "ytnfbcofieobkkaadoor", sum := "2ea05ce78d9c735512abf6b02be0437ff8868de3a2d96b01d16466bc1aa9b791", func := "abacus/abacuslaw11.AddNear", spec := "addNear", named := ["math/bits.deBruijn64tab"], apart := false, laid := [("math/bits.deBruijn64tab", laid_math_bits_deBruijn64tab)], narrowed := true }
def AddNearUptoSaid : Prop := addNearUptoRow.holds Tryd.pinned (OpenSpec.upto addNearSpec)

/-- 'abacuslaw15.FmaInvalid', WHERE WHAT IT READS IS OF BULK AT MOST 1048576: true; the input reads as it did. -/
def fmaInvalidUptoRow : OpenClaim := { program := "ytnfbcofieobkkaadoor", sum := "2ea05ce78d9c735512abf6b02be0437ff8868de3a2d96b01d16466bc1aa9b791", func := "abacus/abacuslaw15.FmaInvalid", spec := "fmaInvalid", named := ["math/bits.deBruijn64tab"], apart := false, laid := [("math/bits.deBruijn64tab", laid_math_bits_deBruijn64tab)], narrowed := true }
def FmaInvalidUptoSaid : Prop := fmaInvalidUptoRow.holds Tryd.pinned (OpenSpec.upto fmaInvalidSpec)

/-- 'abacuslaw14.SqrtSquares', WHERE WHAT IT READS IS OF BULK AT MOST 1048576: true; the input reads as it did. -/
def sqrtSquaresUptoRow : OpenClaim := { program := "ytnfbcofieobkkaadoor", sum := "2ea05ce78d9c735512abf6b02be0437ff8868de3a2d96b01d16466bc1aa9b791", func := "abacus/abacuslaw14.SqrtSquares", spec := "sqrtSquares", named := ["math/bits.deBruijn64tab"], apart := false, laid := [("math/bits.deBruijn64tab", laid_math_bits_deBruijn64tab)], narrowed := true }
def SqrtSquaresUptoSaid : Prop := sqrtSquaresUptoRow.holds Tryd.pinned (OpenSpec.upto sqrtSquaresSpec)

/-- 'abacuslaw15.FmaSingle', WHERE WHAT IT READS IS OF BULK AT MOST 1048576: true; the input reads as it did. -/
def fmaSingleUptoRow : OpenClaim := { program := "ytnfbcofieobkkaadoor", sum := "2ea05ce78d9c735512abf6b02be0437ff8868de3a2d96b01d16466bc1aa9b791", func := "abacus/abacuslaw15.FmaSingle", spec := "fmaSingle", named := ["math/bits.deBruijn64tab"], apart := false, laid := [("math/bits.deBruijn64tab", laid_math_bits_deBruijn64tab)], narrowed := true }
def FmaSingleUptoSaid : Prop := fmaSingleUptoRow.holds Tryd.pinned (OpenSpec.upto fmaSingleSpec)

end Rows
end Go.Proofs.YtnfbcofieobkkaaDoor
