/- Printed by a program: plain Lean functions of Go functions. -/
import Derived.Test.YtnfbcofieobkkaaDoorSh
namespace Go.Proofs.YtnfbcofieobkkaaDoor
open Go Go.Proofs Ev
set_option linter.unusedVariables false
set_option linter.unusedSimpArgs false
noncomputable section

/-! ### wide_Bit -/
def wide_Bit.g (a : W6) (i : Int) : Option Bool := bif decide ((0 : Int) ≤ i) then bif decide (i < (384 : Int)) then bif decide ((0 : Int) ≤ IntKind.i64.wrap (i.tdiv (64 : Int))) && decide (IntKind.i64.wrap (i.tdiv (64 : Int)) < (6 : Int)) then bif (IntKind.i64.wrap (i.tdiv (64 : Int))).toNat.blt (6 : Nat) then some (andI IntKind.u64 (shrI IntKind.u64 (a.get (IntKind.i64.wrap (i.tdiv (64 : Int))).toNat) (IntKind.u64.wrap (i.tmod (64 : Int)))) (1 : Int) == (1 : Int)) else none else none else some false else some false
def wide_Bit.ct : CT := CT.of2 dW (dI .i64) dB wide_Bit.g

/-! ### wide_OfBits -/
def wide_OfBits.g (b : B2) : Option W6 := some { w0 := b.lo, w1 := b.hi, w2 := (0 : Int), w3 := (0 : Int), w4 := (0 : Int), w5 := (0 : Int) : W6 }
def wide_OfBits.ct : CT := CT.of1 dBits dW wide_OfBits.g

/-! ### wide_count -/
def wide_count.g (n : Int) : Option Int := some (minI (maxI n (0 : Int)) (384 : Int))
def wide_count.ct : CT := CT.of1 (dI .i64) (dI .i64) wide_count.g

/-! ### word_Low -/
def word_Low.g (x : Int) : Option Int := (math_bits_TrailingZeros64.g x).bind fun (r : Int) => some r
def word_Low.ct : CT := CT.of1 (dI .u64) (dI .i64) word_Low.g

/-! ### wide_Low -/
def wide_Low.g (a : W6) : Option Int := bif !a.w0 == (0 : Int) then (word_Low.g a.w0).bind fun (r : Int) => some (IntKind.i64.wrap ((0 : Int) + r)) else bif !a.w1 == (0 : Int) then (word_Low.g a.w1).bind fun (r : Int) => some (IntKind.i64.wrap ((64 : Int) + r)) else bif !a.w2 == (0 : Int) then (word_Low.g a.w2).bind fun (r : Int) => some (IntKind.i64.wrap ((128 : Int) + r)) else bif !a.w3 == (0 : Int) then (word_Low.g a.w3).bind fun (r : Int) => some (IntKind.i64.wrap ((192 : Int) + r)) else bif !a.w4 == (0 : Int) then (word_Low.g a.w4).bind fun (r : Int) => some (IntKind.i64.wrap ((256 : Int) + r)) else bif !a.w5 == (0 : Int) then (word_Low.g a.w5).bind fun (r : Int) => some (IntKind.i64.wrap ((320 : Int) + r)) else some (384 : Int)
def wide_Low.ct : CT := CT.of1 dW (dI .i64) wide_Low.g

/-! ### wide_Right -/
def wide_Right.enc0 (x5 : Bool) (x6 : Int) (x7 : Int) (x8 : Int) (m1 : W6) (m0 : W6) : St := ⟨60, [(2, .p 0 0), (4, .p 1 0), (5, .v (dB.enc x5)), (6, .v ((dI .i64).enc x6)), (7, .v ((dI .u64).enc x7)), (8, .v ((dI .i64).enc x8))], [(1, ⟨true, 33, mW.enc m1⟩), (0, ⟨true, 33, mW.enc m0⟩)], 24, []⟩
def wide_Right.b0 {R : Type} (N : Nat) (x5 : Bool) (x6 : Int) (x7 : Int) (m0 : W6) (self : Int → W6 → Option R) (k0 : Int → W6 → Option R) (x8 : Int) (m1 : W6) : Option R := bif decide (IntKind.i64.wrap (x8 + x6) < (6 : Int)) then bif decide ((0 : Int) ≤ IntKind.i64.wrap (x8 + x6)) && decide (IntKind.i64.wrap (x8 + x6) < (6 : Int)) then bif (IntKind.i64.wrap (x8 + x6)).toNat.blt (6 : Nat) then bif decide ((0 : Int) ≤ x8) && decide (x8 < (6 : Int)) then bif (x8.toNat + (1 : Nat)).ble (6 : Nat) then bif decide (IntKind.i64.wrap (x8 + x6) < (5 : Int)) then bif decide ((0 : Int) ≤ x8) && decide (x8 < (6 : Int)) then bif x8.toNat.blt (6 : Nat) then bif decide ((0 : Int) ≤ IntKind.i64.wrap (IntKind.i64.wrap (x8 + x6) + (1 : Int))) && decide (IntKind.i64.wrap (IntKind.i64.wrap (x8 + x6) + (1 : Int)) < (6 : Int)) then bif (IntKind.i64.wrap (IntKind.i64.wrap (x8 + x6) + (1 : Int))).toNat.blt (6 : Nat) then bif decide ((0 : Int) ≤ x8) && decide (x8 < (6 : Int)) then bif (x8.toNat + (1 : Nat)).ble (6 : Nat) then self (IntKind.i64.wrap (x8 + (1 : Int))) ((m1.set x8.toNat (shrI IntKind.u64 (m0.get (IntKind.i64.wrap (x8 + x6)).toNat) x7)).set x8.toNat (orI IntKind.u64 ((m1.set x8.toNat (shrI IntKind.u64 (m0.get (IntKind.i64.wrap (x8 + x6)).toNat) x7)).get x8.toNat) (shlI IntKind.u64 (m0.get (IntKind.i64.wrap (IntKind.i64.wrap (x8 + x6) + (1 : Int))).toNat) (IntKind.u64.wrap ((64 : Int) - x7))))) else none else none else none else none else none else none else self (IntKind.i64.wrap (x8 + (1 : Int))) (m1.set x8.toNat (shrI IntKind.u64 (m0.get (IntKind.i64.wrap (x8 + x6)).toNat) x7)) else none else none else none else none else k0 x8 m1
def wide_Right.l0 {R : Type} (N : Nat) (x5 : Bool) (x6 : Int) (x7 : Int) (m0 : W6) (k0 : Int → W6 → Option R) : Nat → Int → W6 → Option R
  | 0, _, _ => none
  | n + 1, x8, m1 => wide_Right.b0 N x5 x6 x7 m0 (fun x8 m1 => wide_Right.l0 N x5 x6 x7 m0 k0 n x8 m1) k0 x8 m1
def wide_Right.lc0 (N : Nat) : LC := fun R st k => tkSt 60 24 st fun e m => tkP 2 0 0 e fun e => tkP 4 1 0 e fun e => tkD 5 dB e fun x5 e => tkD 6 (dI .i64) e fun x6 e => tkD 7 (dI .u64) e fun x7 e => tkD 8 (dI .i64) e fun x8 e => tkN e <| tkM 1 true 33 mW m fun m1 m => tkM 0 true 33 mW m fun m0 m => tkN m <| wide_Right.l0 N x5 x6 x7 m0 (fun x8 m1 => k (.exit 0) (wide_Right.enc0 x5 x6 x7 x8 m1 m0)) N x8 m1
def wide_Right.f (N : Nat) (a : W6) (n : Int) : Option (W6 × Bool) := (wide_count.g n).bind fun (r : Int) => bif !(a.w0 == (0 : Int) && (a.w1 == (0 : Int) && (a.w2 == (0 : Int) && (a.w3 == (0 : Int) && (a.w4 == (0 : Int) && (a.w5 == (0 : Int) && true)))))) then (wide_Low.g a).bind fun (r_1 : Int) => wide_Right.l0 N (decide (r_1 < r)) (IntKind.i64.wrap (r.tdiv (64 : Int))) (IntKind.u64.wrap (r.tmod (64 : Int))) a (fun (x8 : Int) (m1 : W6) => some (m1, decide (r_1 < r))) N (0 : Int) { w0 := (0 : Int), w1 := (0 : Int), w2 := (0 : Int), w3 := (0 : Int), w4 := (0 : Int), w5 := (0 : Int) : W6 } else wide_Right.l0 N false (IntKind.i64.wrap (r.tdiv (64 : Int))) (IntKind.u64.wrap (r.tmod (64 : Int))) a (fun (x8 : Int) (m1 : W6) => some (m1, false)) N (0 : Int) { w0 := (0 : Int), w1 := (0 : Int), w2 := (0 : Int), w3 := (0 : Int), w4 := (0 : Int), w5 := (0 : Int) : W6 }
def wide_Right.g (a : W6) (n : Int) : Option (W6 × Bool) := wide_Right.f fuel a n
def wide_Right.ct : CT := CT.of2 dW (dI .i64) (dT2 dW dB) wide_Right.g

/-! ### wide_And -/
def wide_And.g (a : W6) (b : W6) : Option W6 := some { w0 := andI IntKind.u64 a.w0 b.w0, w1 := andI IntKind.u64 a.w1 b.w1, w2 := andI IntKind.u64 a.w2 b.w2, w3 := andI IntKind.u64 a.w3 b.w3, w4 := andI IntKind.u64 a.w4 b.w4, w5 := andI IntKind.u64 a.w5 b.w5 : W6 }
def wide_And.ct : CT := CT.of2 dW dW dW wide_And.g

/-! ### word_count -/
def word_count.g (n : Int) : Option Int := some (IntKind.u64.wrap (minI (maxI n (0 : Int)) (64 : Int)))
def word_count.ct : CT := CT.of1 (dI .i64) (dI .u64) word_count.g

/-! ### word_Mask -/
def word_Mask.g (n : Int) : Option Int := (word_count.g n).bind fun (r : Int) => some (IntKind.u64.wrap (shlI IntKind.u64 (1 : Int) r - (1 : Int)))
def word_Mask.ct : CT := CT.of1 (dI .i64) (dI .u64) word_Mask.g

/-! ### wide_Mask -/
def wide_Mask.g (n : Int) : Option W6 := (wide_count.g n).bind fun (r : Int) => (word_Mask.g (IntKind.i64.wrap (r - (0 : Int)))).bind fun (r_1 : Int) => (word_Mask.g (IntKind.i64.wrap (r - (64 : Int)))).bind fun (r_2 : Int) => (word_Mask.g (IntKind.i64.wrap (r - (128 : Int)))).bind fun (r_3 : Int) => (word_Mask.g (IntKind.i64.wrap (r - (192 : Int)))).bind fun (r_4 : Int) => (word_Mask.g (IntKind.i64.wrap (r - (256 : Int)))).bind fun (r_5 : Int) => (word_Mask.g (IntKind.i64.wrap (r - (320 : Int)))).bind fun (r : Int) => some { w0 := r_1, w1 := r_2, w2 := r_3, w3 := r_4, w4 := r_5, w5 := r : W6 }
def wide_Mask.ct : CT := CT.of1 (dI .i64) dW wide_Mask.g

/-! ### word_Len -/
def word_Len.g (x : Int) : Option Int := (math_bits_Len64.g x).bind fun (r : Int) => some r
def word_Len.ct : CT := CT.of1 (dI .u64) (dI .i64) word_Len.g

/-! ### wide_Len -/
def wide_Len.g (a : W6) : Option Int := bif !a.w5 == (0 : Int) then (word_Len.g a.w5).bind fun (r : Int) => some (IntKind.i64.wrap ((320 : Int) + r)) else bif !a.w4 == (0 : Int) then (word_Len.g a.w4).bind fun (r : Int) => some (IntKind.i64.wrap ((256 : Int) + r)) else bif !a.w3 == (0 : Int) then (word_Len.g a.w3).bind fun (r : Int) => some (IntKind.i64.wrap ((192 : Int) + r)) else bif !a.w2 == (0 : Int) then (word_Len.g a.w2).bind fun (r : Int) => some (IntKind.i64.wrap ((128 : Int) + r)) else bif !a.w1 == (0 : Int) then (word_Len.g a.w1).bind fun (r : Int) => some (IntKind.i64.wrap ((64 : Int) + r)) else bif !a.w0 == (0 : Int) then (word_Len.g a.w0).bind fun (r : Int) => some (IntKind.i64.wrap ((0 : Int) + r)) else some (0 : Int)
def wide_Len.ct : CT := CT.of1 dW (dI .i64) wide_Len.g

/-! ### wide_Left -/
def wide_Left.enc0 (x5 : Bool) (x6 : Int) (x7 : Int) (x8 : Int) (m1 : W6) (m0 : W6) : St := ⟨59, [(2, .p 0 0), (4, .p 1 0), (5, .v (dB.enc x5)), (6, .v ((dI .i64).enc x6)), (7, .v ((dI .u64).enc x7)), (8, .v ((dI .i64).enc x8))], [(1, ⟨true, 33, mW.enc m1⟩), (0, ⟨true, 33, mW.enc m0⟩)], 25, []⟩
def wide_Left.b0 {R : Type} (N : Nat) (x5 : Bool) (x6 : Int) (x7 : Int) (m0 : W6) (self : Int → W6 → Option R) (k0 : Int → W6 → Option R) (x8 : Int) (m1 : W6) : Option R := bif decide (x6 ≤ x8) then bif decide ((0 : Int) ≤ IntKind.i64.wrap (x8 - x6)) && decide (IntKind.i64.wrap (x8 - x6) < (6 : Int)) then bif (IntKind.i64.wrap (x8 - x6)).toNat.blt (6 : Nat) then bif decide ((0 : Int) ≤ x8) && decide (x8 < (6 : Int)) then bif (x8.toNat + (1 : Nat)).ble (6 : Nat) then bif decide (x6 < x8) then bif decide ((0 : Int) ≤ x8) && decide (x8 < (6 : Int)) then bif x8.toNat.blt (6 : Nat) then bif decide ((0 : Int) ≤ IntKind.i64.wrap (IntKind.i64.wrap (x8 - x6) - (1 : Int))) && decide (IntKind.i64.wrap (IntKind.i64.wrap (x8 - x6) - (1 : Int)) < (6 : Int)) then bif (IntKind.i64.wrap (IntKind.i64.wrap (x8 - x6) - (1 : Int))).toNat.blt (6 : Nat) then bif decide ((0 : Int) ≤ x8) && decide (x8 < (6 : Int)) then bif (x8.toNat + (1 : Nat)).ble (6 : Nat) then self (IntKind.i64.wrap (x8 - (1 : Int))) ((m1.set x8.toNat (shlI IntKind.u64 (m0.get (IntKind.i64.wrap (x8 - x6)).toNat) x7)).set x8.toNat (orI IntKind.u64 ((m1.set x8.toNat (shlI IntKind.u64 (m0.get (IntKind.i64.wrap (x8 - x6)).toNat) x7)).get x8.toNat) (shrI IntKind.u64 (m0.get (IntKind.i64.wrap (IntKind.i64.wrap (x8 - x6) - (1 : Int))).toNat) (IntKind.u64.wrap ((64 : Int) - x7))))) else none else none else none else none else none else none else self (IntKind.i64.wrap (x8 - (1 : Int))) (m1.set x8.toNat (shlI IntKind.u64 (m0.get (IntKind.i64.wrap (x8 - x6)).toNat) x7)) else none else none else none else none else k0 x8 m1
def wide_Left.l0 {R : Type} (N : Nat) (x5 : Bool) (x6 : Int) (x7 : Int) (m0 : W6) (k0 : Int → W6 → Option R) : Nat → Int → W6 → Option R
  | 0, _, _ => none
  | n + 1, x8, m1 => wide_Left.b0 N x5 x6 x7 m0 (fun x8 m1 => wide_Left.l0 N x5 x6 x7 m0 k0 n x8 m1) k0 x8 m1
def wide_Left.lc0 (N : Nat) : LC := fun R st k => tkSt 59 25 st fun e m => tkP 2 0 0 e fun e => tkP 4 1 0 e fun e => tkD 5 dB e fun x5 e => tkD 6 (dI .i64) e fun x6 e => tkD 7 (dI .u64) e fun x7 e => tkD 8 (dI .i64) e fun x8 e => tkN e <| tkM 1 true 33 mW m fun m1 m => tkM 0 true 33 mW m fun m0 m => tkN m <| wide_Left.l0 N x5 x6 x7 m0 (fun x8 m1 => k (.exit 0) (wide_Left.enc0 x5 x6 x7 x8 m1 m0)) N x8 m1
def wide_Left.f (N : Nat) (a : W6) (n : Int) : Option (W6 × Bool) := (wide_count.g n).bind fun (r : Int) => (wide_Len.g a).bind fun (r_1 : Int) => bif decide ((384 : Int) < IntKind.i64.wrap (r_1 + r)) then wide_Left.l0 N (!(a.w0 == (0 : Int) && (a.w1 == (0 : Int) && (a.w2 == (0 : Int) && (a.w3 == (0 : Int) && (a.w4 == (0 : Int) && (a.w5 == (0 : Int) && true))))))) (IntKind.i64.wrap (r.tdiv (64 : Int))) (IntKind.u64.wrap (r.tmod (64 : Int))) a (fun (x8 : Int) (m1 : W6) => some (m1, !(a.w0 == (0 : Int) && (a.w1 == (0 : Int) && (a.w2 == (0 : Int) && (a.w3 == (0 : Int) && (a.w4 == (0 : Int) && (a.w5 == (0 : Int) && true)))))))) N (5 : Int) { w0 := (0 : Int), w1 := (0 : Int), w2 := (0 : Int), w3 := (0 : Int), w4 := (0 : Int), w5 := (0 : Int) : W6 } else wide_Left.l0 N false (IntKind.i64.wrap (r.tdiv (64 : Int))) (IntKind.u64.wrap (r.tmod (64 : Int))) a (fun (x8 : Int) (m1 : W6) => some (m1, false)) N (5 : Int) { w0 := (0 : Int), w1 := (0 : Int), w2 := (0 : Int), w3 := (0 : Int), w4 := (0 : Int), w5 := (0 : Int) : W6 }
def wide_Left.g (a : W6) (n : Int) : Option (W6 × Bool) := wide_Left.f fuel a n
def wide_Left.ct : CT := CT.of2 dW (dI .i64) (dT2 dW dB) wide_Left.g

/-! ### word_one -/
def word_one.g (c : Bool) : Option Int := bif c then some (1 : Int) else some (0 : Int)
def word_one.ct : CT := CT.of1 dB (dI .u64) word_one.g

/-! ### word_Add -/
def word_Add.g (a : Int) (b : Int) (carry : Bool) : Option (Int × Bool) := (word_one.g carry).bind fun (r : Int) => bif decide (IntKind.u64.wrap (a + b) < a) then some (IntKind.u64.wrap (IntKind.u64.wrap (a + b) + r), true) else bif carry then some (IntKind.u64.wrap (IntKind.u64.wrap (a + b) + r), IntKind.u64.wrap (IntKind.u64.wrap (a + b) + r) == (0 : Int)) else some (IntKind.u64.wrap (IntKind.u64.wrap (a + b) + r), false)
def word_Add.ct : CT := CT.of3 (dI .u64) (dI .u64) dB (dT2 (dI .u64) dB) word_Add.g

/-! ### wide_Add -/
def wide_Add.g (a : W6) (b : W6) : Option (W6 × Bool) := (word_Add.g a.w0 b.w0 false).bind fun (r : Int × Bool) => (word_Add.g a.w1 b.w1 r.snd).bind fun (r_1 : Int × Bool) => (word_Add.g a.w2 b.w2 r_1.snd).bind fun (r_2 : Int × Bool) => (word_Add.g a.w3 b.w3 r_2.snd).bind fun (r_3 : Int × Bool) => (word_Add.g a.w4 b.w4 r_3.snd).bind fun (r_4 : Int × Bool) => (word_Add.g a.w5 b.w5 r_4.snd).bind fun (r_5 : Int × Bool) => some ({ w0 := r.fst, w1 := r_1.fst, w2 := r_2.fst, w3 := r_3.fst, w4 := r_4.fst, w5 := r_5.fst : W6 }, r_5.snd)
def wide_Add.ct : CT := CT.of2 dW dW (dT2 dW dB) wide_Add.g

/-! ### wide_Of -/
def wide_Of.g (x : Int) : Option W6 := some { w0 := x, w1 := (0 : Int), w2 := (0 : Int), w3 := (0 : Int), w4 := (0 : Int), w5 := (0 : Int) : W6 }
def wide_Of.ct : CT := CT.of1 (dI .u64) dW wide_Of.g

/-! ### ref02_OfBits -/
def ref02_OfBits.g (b : B2) : Option W6 := some { w0 := b.lo, w1 := b.hi, w2 := (0 : Int), w3 := (0 : Int), w4 := (0 : Int), w5 := (0 : Int) : W6 }
def ref02_OfBits.ct : CT := CT.of1 dBits dW ref02_OfBits.g

/-! ### ref01_Bit -/
def ref01_Bit.g (x : Int) (i : Int) : Option Bool := bif decide ((0 : Int) ≤ i) then bif decide (i < (64 : Int)) then some (andI IntKind.u64 (shrI IntKind.u64 x (IntKind.u64.wrap i)) (1 : Int) == (1 : Int)) else some false else some false
def ref01_Bit.ct : CT := CT.of2 (dI .u64) (dI .i64) dB ref01_Bit.g

/-! ### ref02_Bit -/
def ref02_Bit.g (a : W6) (i : Int) : Option Bool := bif decide ((0 : Int) ≤ i) then bif decide (i < (384 : Int)) then bif decide ((0 : Int) ≤ IntKind.i64.wrap (i.tdiv (64 : Int))) && decide (IntKind.i64.wrap (i.tdiv (64 : Int)) < (6 : Int)) then bif (IntKind.i64.wrap (i.tdiv (64 : Int))).toNat.blt (6 : Nat) then (ref01_Bit.g (a.get (IntKind.i64.wrap (i.tdiv (64 : Int))).toNat) (i.tmod (64 : Int))).bind fun (r : Bool) => some r else none else none else some false else some false
def ref02_Bit.ct : CT := CT.of2 dW (dI .i64) dB ref02_Bit.g

/-! ### ref02_And -/
def ref02_And.g (a : W6) (b : W6) : Option W6 := some { w0 := andI IntKind.u64 a.w0 b.w0, w1 := andI IntKind.u64 a.w1 b.w1, w2 := andI IntKind.u64 a.w2 b.w2, w3 := andI IntKind.u64 a.w3 b.w3, w4 := andI IntKind.u64 a.w4 b.w4, w5 := andI IntKind.u64 a.w5 b.w5 : W6 }
def ref02_And.ct : CT := CT.of2 dW dW dW ref02_And.g

/-! ### ref02_Count -/
def ref02_Count.g (n : Int) : Option Int := bif decide (n < (0 : Int)) then some (0 : Int) else bif decide ((384 : Int) < n) then some (384 : Int) else some n
def ref02_Count.ct : CT := CT.of1 (dI .i64) (dI .i64) ref02_Count.g

/-! ### ref02_Mask -/
def ref02_Mask.enc0 (x0 : Int) (x4 : Int) (m4 : W6) (m0 : W6) : St := ⟨25, [(0, .v ((dI .i64).enc x0)), (2, .p 0 0), (3, .p 4 0), (4, .v ((dI .i64).enc x4))], [(4, ⟨true, 33, mW.enc m4⟩), (0, ⟨true, 33, mW.enc m0⟩)], 6, []⟩
def ref02_Mask.b0 {R : Type} (N : Nat) (x0 : Int) (m0 : W6) (self : Int → W6 → Option R) (k0 : Int → W6 → Option R) (x4 : Int) (m4 : W6) : Option R := bif decide (x4 < x0) then bif decide ((0 : Int) ≤ IntKind.i64.wrap (x4.tdiv (64 : Int))) && decide (IntKind.i64.wrap (x4.tdiv (64 : Int)) < (6 : Int)) then bif (IntKind.i64.wrap (x4.tdiv (64 : Int))).toNat.blt (6 : Nat) then bif decide ((0 : Int) ≤ IntKind.i64.wrap (x4.tdiv (64 : Int))) && decide (IntKind.i64.wrap (x4.tdiv (64 : Int)) < (6 : Int)) then bif ((IntKind.i64.wrap (x4.tdiv (64 : Int))).toNat + (1 : Nat)).ble (6 : Nat) then self (IntKind.i64.wrap (x4 + (1 : Int))) (m4.set (IntKind.i64.wrap (x4.tdiv (64 : Int))).toNat (orI IntKind.u64 (m4.get (IntKind.i64.wrap (x4.tdiv (64 : Int))).toNat) (shlI IntKind.u64 (1 : Int) (IntKind.u64.wrap (x4.tmod (64 : Int)))))) else none else none else none else none else k0 x4 m4
def ref02_Mask.l0 {R : Type} (N : Nat) (x0 : Int) (m0 : W6) (k0 : Int → W6 → Option R) : Nat → Int → W6 → Option R
  | 0, _, _ => none
  | n + 1, x4, m4 => ref02_Mask.b0 N x0 m0 (fun x4 m4 => ref02_Mask.l0 N x0 m0 k0 n x4 m4) k0 x4 m4
def ref02_Mask.lc0 (N : Nat) : LC := fun R st k => tkSt 25 6 st fun e m => tkD 0 (dI .i64) e fun x0 e => tkP 2 0 0 e fun e => tkP 3 4 0 e fun e => tkD 4 (dI .i64) e fun x4 e => tkN e <| tkM 4 true 33 mW m fun m4 m => tkM 0 true 33 mW m fun m0 m => tkN m <| ref02_Mask.l0 N x0 m0 (fun x4 m4 => k (.exit 0) (ref02_Mask.enc0 x0 x4 m4 m0)) N x4 m4
def ref02_Mask.f (N : Nat) (n : Int) : Option W6 := (ref02_Count.g n).bind fun (r : Int) => ref02_Mask.l0 N r { w0 := (0 : Int), w1 := (0 : Int), w2 := (0 : Int), w3 := (0 : Int), w4 := (0 : Int), w5 := (0 : Int) : W6 } (fun (x4 : Int) (m4 : W6) => some m4) N (0 : Int) { w0 := (0 : Int), w1 := (0 : Int), w2 := (0 : Int), w3 := (0 : Int), w4 := (0 : Int), w5 := (0 : Int) : W6 }
def ref02_Mask.g (n : Int) : Option W6 := ref02_Mask.f fuel n
def ref02_Mask.ct : CT := CT.of1 (dI .i64) dW ref02_Mask.g

/-! ### ref02_Right -/
def ref02_Right.enc0 (x1 : Int) (x5 : Bool) (x7 : Bool) (x8 : Int) (m6 : W6) (m1 : W6) (m0 : W6) : St := ⟨41, [(1, .v ((dI .i64).enc x1)), (2, .p 0 0), (4, .p 1 0), (5, .v (dB.enc x5)), (6, .p 6 0), (7, .v (dB.enc x7)), (8, .v ((dI .i64).enc x8))], [(6, ⟨true, 33, mW.enc m6⟩), (1, ⟨true, 33, mW.enc m1⟩), (0, ⟨true, 33, mW.enc m0⟩)], 9, []⟩
def ref02_Right.b0 {R : Type} (N : Nat) (x1 : Int) (x5 : Bool) (m1 : W6) (m0 : W6) (self : Bool → Int → W6 → Option R) (k0 : Bool → Int → W6 → Option R) (x7 : Bool) (x8 : Int) (m6 : W6) : Option R := bif decide (x8 < (384 : Int)) then (ref02_Bit.g m0 x8).bind fun (r : Bool) => bif r then bif decide (x1 ≤ x8) then bif decide ((0 : Int) ≤ IntKind.i64.wrap ((IntKind.i64.wrap (x8 - x1)).tdiv (64 : Int))) && decide (IntKind.i64.wrap ((IntKind.i64.wrap (x8 - x1)).tdiv (64 : Int)) < (6 : Int)) then bif (IntKind.i64.wrap ((IntKind.i64.wrap (x8 - x1)).tdiv (64 : Int))).toNat.blt (6 : Nat) then bif decide ((0 : Int) ≤ IntKind.i64.wrap ((IntKind.i64.wrap (x8 - x1)).tdiv (64 : Int))) && decide (IntKind.i64.wrap ((IntKind.i64.wrap (x8 - x1)).tdiv (64 : Int)) < (6 : Int)) then bif ((IntKind.i64.wrap ((IntKind.i64.wrap (x8 - x1)).tdiv (64 : Int))).toNat + (1 : Nat)).ble (6 : Nat) then self x7 (IntKind.i64.wrap (x8 + (1 : Int))) (m6.set (IntKind.i64.wrap ((IntKind.i64.wrap (x8 - x1)).tdiv (64 : Int))).toNat (orI IntKind.u64 (m6.get (IntKind.i64.wrap ((IntKind.i64.wrap (x8 - x1)).tdiv (64 : Int))).toNat) (shlI IntKind.u64 (1 : Int) (IntKind.u64.wrap ((IntKind.i64.wrap (x8 - x1)).tmod (64 : Int)))))) else none else none else none else none else self true (IntKind.i64.wrap (x8 + (1 : Int))) m6 else self x7 (IntKind.i64.wrap (x8 + (1 : Int))) m6 else k0 x7 x8 m6
def ref02_Right.l0 {R : Type} (N : Nat) (x1 : Int) (x5 : Bool) (m1 : W6) (m0 : W6) (k0 : Bool → Int → W6 → Option R) : Nat → Bool → Int → W6 → Option R
  | 0, _, _, _ => none
  | n + 1, x7, x8, m6 => ref02_Right.b0 N x1 x5 m1 m0 (fun x7 x8 m6 => ref02_Right.l0 N x1 x5 m1 m0 k0 n x7 x8 m6) k0 x7 x8 m6
def ref02_Right.lc0 (N : Nat) : LC := fun R st k => tkSt 41 9 st fun e m => tkD 1 (dI .i64) e fun x1 e => tkP 2 0 0 e fun e => tkP 4 1 0 e fun e => tkD 5 dB e fun x5 e => tkP 6 6 0 e fun e => tkD 7 dB e fun x7 e => tkD 8 (dI .i64) e fun x8 e => tkN e <| tkM 6 true 33 mW m fun m6 m => tkM 1 true 33 mW m fun m1 m => tkM 0 true 33 mW m fun m0 m => tkN m <| ref02_Right.l0 N x1 x5 m1 m0 (fun x7 x8 m6 => k (.exit 0) (ref02_Right.enc0 x1 x5 x7 x8 m6 m1 m0)) N x7 x8 m6
def ref02_Right.f (N : Nat) (a : W6) (n : Int) : Option (W6 × Bool) := (ref02_Count.g n).bind fun (r : Int) => ref02_Right.l0 N r false { w0 := (0 : Int), w1 := (0 : Int), w2 := (0 : Int), w3 := (0 : Int), w4 := (0 : Int), w5 := (0 : Int) : W6 } a (fun (x7 : Bool) (x8 : Int) (m6 : W6) => some (m6, x7)) N false (0 : Int) { w0 := (0 : Int), w1 := (0 : Int), w2 := (0 : Int), w3 := (0 : Int), w4 := (0 : Int), w5 := (0 : Int) : W6 }
def ref02_Right.g (a : W6) (n : Int) : Option (W6 × Bool) := ref02_Right.f fuel a n
def ref02_Right.ct : CT := CT.of2 dW (dI .i64) (dT2 dW dB) ref02_Right.g

/-! ### ref01_Len -/
def ref01_Len.enc0 (x0 : Int) (x2 : Int) (x3 : Int) (x4 : Int) : St := ⟨15, [(0, .v ((dI .u64).enc x0)), (2, .v ((dI .i64).enc x2)), (3, .v ((dI .i64).enc x3)), (4, .v ((dI .i64).enc x4))], [], 3, []⟩
def ref01_Len.b0 {R : Type} (N : Nat) (x0 : Int) (x2 : Int) (self : Int → Int → Option R) (k0 : Int → Int → Option R) (x3 : Int) (x4 : Int) : Option R := bif decide (x4 < (64 : Int)) then (ref01_Bit.g x0 x4).bind fun (r : Bool) => bif r then self (IntKind.i64.wrap (x4 + (1 : Int))) (IntKind.i64.wrap (x4 + (1 : Int))) else self x3 (IntKind.i64.wrap (x4 + (1 : Int))) else k0 x3 x4
def ref01_Len.l0 {R : Type} (N : Nat) (x0 : Int) (x2 : Int) (k0 : Int → Int → Option R) : Nat → Int → Int → Option R
  | 0, _, _ => none
  | n + 1, x3, x4 => ref01_Len.b0 N x0 x2 (fun x3 x4 => ref01_Len.l0 N x0 x2 k0 n x3 x4) k0 x3 x4
def ref01_Len.lc0 (N : Nat) : LC := fun R st k => tkSt 15 3 st fun e m => tkD 0 (dI .u64) e fun x0 e => tkD 2 (dI .i64) e fun x2 e => tkD 3 (dI .i64) e fun x3 e => tkD 4 (dI .i64) e fun x4 e => tkN e <| tkN m <| ref01_Len.l0 N x0 x2 (fun x3 x4 => k (.exit 0) (ref01_Len.enc0 x0 x2 x3 x4)) N x3 x4
def ref01_Len.f (N : Nat) (x : Int) : Option Int := ref01_Len.l0 N x (0 : Int) (fun (x3 x4 : Int) => some x3) N (0 : Int) (0 : Int)
def ref01_Len.g (x : Int) : Option Int := ref01_Len.f fuel x
def ref01_Len.ct : CT := CT.of1 (dI .u64) (dI .i64) ref01_Len.g

/-! ### ref02_Len -/
def ref02_Len.g (a : W6) : Option Int := bif !a.w5 == (0 : Int) then (ref01_Len.g a.w5).bind fun (r : Int) => some (IntKind.i64.wrap ((320 : Int) + r)) else bif !a.w4 == (0 : Int) then (ref01_Len.g a.w4).bind fun (r : Int) => some (IntKind.i64.wrap ((256 : Int) + r)) else bif !a.w3 == (0 : Int) then (ref01_Len.g a.w3).bind fun (r : Int) => some (IntKind.i64.wrap ((192 : Int) + r)) else bif !a.w2 == (0 : Int) then (ref01_Len.g a.w2).bind fun (r : Int) => some (IntKind.i64.wrap ((128 : Int) + r)) else bif !a.w1 == (0 : Int) then (ref01_Len.g a.w1).bind fun (r : Int) => some (IntKind.i64.wrap ((64 : Int) + r)) else bif !a.w0 == (0 : Int) then (ref01_Len.g a.w0).bind fun (r : Int) => some (IntKind.i64.wrap ((0 : Int) + r)) else some (0 : Int)
def ref02_Len.ct : CT := CT.of1 dW (dI .i64) ref02_Len.g

/-! ### ref02_Left -/
def ref02_Left.enc0 (x1 : Int) (x5 : Bool) (x7 : Bool) (x8 : Int) (m6 : W6) (m1 : W6) (m0 : W6) : St := ⟨42, [(1, .v ((dI .i64).enc x1)), (2, .p 0 0), (4, .p 1 0), (5, .v (dB.enc x5)), (6, .p 6 0), (7, .v (dB.enc x7)), (8, .v ((dI .i64).enc x8))], [(6, ⟨true, 33, mW.enc m6⟩), (1, ⟨true, 33, mW.enc m1⟩), (0, ⟨true, 33, mW.enc m0⟩)], 9, []⟩
def ref02_Left.b0 {R : Type} (N : Nat) (x1 : Int) (x5 : Bool) (m1 : W6) (m0 : W6) (self : Bool → Int → W6 → Option R) (k0 : Bool → Int → W6 → Option R) (x7 : Bool) (x8 : Int) (m6 : W6) : Option R := bif decide (x8 < (384 : Int)) then (ref02_Bit.g m0 x8).bind fun (r : Bool) => bif r then bif decide (IntKind.i64.wrap (x8 + x1) < (384 : Int)) then bif decide ((0 : Int) ≤ IntKind.i64.wrap ((IntKind.i64.wrap (x8 + x1)).tdiv (64 : Int))) && decide (IntKind.i64.wrap ((IntKind.i64.wrap (x8 + x1)).tdiv (64 : Int)) < (6 : Int)) then bif (IntKind.i64.wrap ((IntKind.i64.wrap (x8 + x1)).tdiv (64 : Int))).toNat.blt (6 : Nat) then bif decide ((0 : Int) ≤ IntKind.i64.wrap ((IntKind.i64.wrap (x8 + x1)).tdiv (64 : Int))) && decide (IntKind.i64.wrap ((IntKind.i64.wrap (x8 + x1)).tdiv (64 : Int)) < (6 : Int)) then bif ((IntKind.i64.wrap ((IntKind.i64.wrap (x8 + x1)).tdiv (64 : Int))).toNat + (1 : Nat)).ble (6 : Nat) then self x7 (IntKind.i64.wrap (x8 + (1 : Int))) (m6.set (IntKind.i64.wrap ((IntKind.i64.wrap (x8 + x1)).tdiv (64 : Int))).toNat (orI IntKind.u64 (m6.get (IntKind.i64.wrap ((IntKind.i64.wrap (x8 + x1)).tdiv (64 : Int))).toNat) (shlI IntKind.u64 (1 : Int) (IntKind.u64.wrap ((IntKind.i64.wrap (x8 + x1)).tmod (64 : Int)))))) else none else none else none else none else self true (IntKind.i64.wrap (x8 + (1 : Int))) m6 else self x7 (IntKind.i64.wrap (x8 + (1 : Int))) m6 else k0 x7 x8 m6
def ref02_Left.l0 {R : Type} (N : Nat) (x1 : Int) (x5 : Bool) (m1 : W6) (m0 : W6) (k0 : Bool → Int → W6 → Option R) : Nat → Bool → Int → W6 → Option R
  | 0, _, _, _ => none
  | n + 1, x7, x8, m6 => ref02_Left.b0 N x1 x5 m1 m0 (fun x7 x8 m6 => ref02_Left.l0 N x1 x5 m1 m0 k0 n x7 x8 m6) k0 x7 x8 m6
def ref02_Left.lc0 (N : Nat) : LC := fun R st k => tkSt 42 9 st fun e m => tkD 1 (dI .i64) e fun x1 e => tkP 2 0 0 e fun e => tkP 4 1 0 e fun e => tkD 5 dB e fun x5 e => tkP 6 6 0 e fun e => tkD 7 dB e fun x7 e => tkD 8 (dI .i64) e fun x8 e => tkN e <| tkM 6 true 33 mW m fun m6 m => tkM 1 true 33 mW m fun m1 m => tkM 0 true 33 mW m fun m0 m => tkN m <| ref02_Left.l0 N x1 x5 m1 m0 (fun x7 x8 m6 => k (.exit 0) (ref02_Left.enc0 x1 x5 x7 x8 m6 m1 m0)) N x7 x8 m6
def ref02_Left.f (N : Nat) (a : W6) (n : Int) : Option (W6 × Bool) := (ref02_Count.g n).bind fun (r : Int) => ref02_Left.l0 N r false { w0 := (0 : Int), w1 := (0 : Int), w2 := (0 : Int), w3 := (0 : Int), w4 := (0 : Int), w5 := (0 : Int) : W6 } a (fun (x7 : Bool) (x8 : Int) (m6 : W6) => some (m6, x7)) N false (0 : Int) { w0 := (0 : Int), w1 := (0 : Int), w2 := (0 : Int), w3 := (0 : Int), w4 := (0 : Int), w5 := (0 : Int) : W6 }
def ref02_Left.g (a : W6) (n : Int) : Option (W6 × Bool) := ref02_Left.f fuel a n
def ref02_Left.ct : CT := CT.of2 dW (dI .i64) (dT2 dW dB) ref02_Left.g

/-! ### ref02_Of -/
def ref02_Of.g (x : Int) : Option W6 := some { w0 := x, w1 := (0 : Int), w2 := (0 : Int), w3 := (0 : Int), w4 := (0 : Int), w5 := (0 : Int) : W6 }
def ref02_Of.ct : CT := CT.of1 (dI .u64) dW ref02_Of.g

/-! ### ref01_Add -/
def ref01_Add.enc0 (x0 : Int) (x1 : Int) (x2 : Bool) (x6 : Int) (x7 : Bool) (x8 : Int) (x9 : Int) : St := ⟨50, [(0, .v ((dI .u64).enc x0)), (1, .v ((dI .u64).enc x1)), (2, .v (dB.enc x2)), (6, .v ((dI .u64).enc x6)), (7, .v (dB.enc x7)), (8, .v ((dI .u64).enc x8)), (9, .v ((dI .i64).enc x9))], [], 4, []⟩
def ref01_Add.b0 {R : Type} (N : Nat) (x0 : Int) (x1 : Int) (x6 : Int) (x7 : Bool) (self : Bool → Int → Int → Option R) (k0 : Bool → Int → Int → Option R) (x2 : Bool) (x8 : Int) (x9 : Int) : Option R := bif decide (x9 < (64 : Int)) then (ref01_Bit.g x0 x9).bind fun (r : Bool) => (ref01_Bit.g x1 x9).bind fun (r_1 : Bool) => bif !(!r == r_1) == x2 then bif r then bif r_1 then self true (orI IntKind.u64 x8 (shlI IntKind.u64 (1 : Int) (IntKind.u64.wrap x9))) (IntKind.i64.wrap (x9 + (1 : Int))) else bif r then bif x2 then self true (orI IntKind.u64 x8 (shlI IntKind.u64 (1 : Int) (IntKind.u64.wrap x9))) (IntKind.i64.wrap (x9 + (1 : Int))) else bif r_1 then self x2 (orI IntKind.u64 x8 (shlI IntKind.u64 (1 : Int) (IntKind.u64.wrap x9))) (IntKind.i64.wrap (x9 + (1 : Int))) else self false (orI IntKind.u64 x8 (shlI IntKind.u64 (1 : Int) (IntKind.u64.wrap x9))) (IntKind.i64.wrap (x9 + (1 : Int))) else bif r_1 then self x2 (orI IntKind.u64 x8 (shlI IntKind.u64 (1 : Int) (IntKind.u64.wrap x9))) (IntKind.i64.wrap (x9 + (1 : Int))) else self false (orI IntKind.u64 x8 (shlI IntKind.u64 (1 : Int) (IntKind.u64.wrap x9))) (IntKind.i64.wrap (x9 + (1 : Int))) else bif r then bif x2 then self true (orI IntKind.u64 x8 (shlI IntKind.u64 (1 : Int) (IntKind.u64.wrap x9))) (IntKind.i64.wrap (x9 + (1 : Int))) else bif r_1 then self x2 (orI IntKind.u64 x8 (shlI IntKind.u64 (1 : Int) (IntKind.u64.wrap x9))) (IntKind.i64.wrap (x9 + (1 : Int))) else self false (orI IntKind.u64 x8 (shlI IntKind.u64 (1 : Int) (IntKind.u64.wrap x9))) (IntKind.i64.wrap (x9 + (1 : Int))) else bif r_1 then self x2 (orI IntKind.u64 x8 (shlI IntKind.u64 (1 : Int) (IntKind.u64.wrap x9))) (IntKind.i64.wrap (x9 + (1 : Int))) else self false (orI IntKind.u64 x8 (shlI IntKind.u64 (1 : Int) (IntKind.u64.wrap x9))) (IntKind.i64.wrap (x9 + (1 : Int))) else bif r then bif r_1 then self true x8 (IntKind.i64.wrap (x9 + (1 : Int))) else bif r then bif x2 then self true x8 (IntKind.i64.wrap (x9 + (1 : Int))) else bif r_1 then self x2 x8 (IntKind.i64.wrap (x9 + (1 : Int))) else self false x8 (IntKind.i64.wrap (x9 + (1 : Int))) else bif r_1 then self x2 x8 (IntKind.i64.wrap (x9 + (1 : Int))) else self false x8 (IntKind.i64.wrap (x9 + (1 : Int))) else bif r then bif x2 then self true x8 (IntKind.i64.wrap (x9 + (1 : Int))) else bif r_1 then self x2 x8 (IntKind.i64.wrap (x9 + (1 : Int))) else self false x8 (IntKind.i64.wrap (x9 + (1 : Int))) else bif r_1 then self x2 x8 (IntKind.i64.wrap (x9 + (1 : Int))) else self false x8 (IntKind.i64.wrap (x9 + (1 : Int))) else k0 x2 x8 x9
def ref01_Add.l0 {R : Type} (N : Nat) (x0 : Int) (x1 : Int) (x6 : Int) (x7 : Bool) (k0 : Bool → Int → Int → Option R) : Nat → Bool → Int → Int → Option R
  | 0, _, _, _ => none
  | n + 1, x2, x8, x9 => ref01_Add.b0 N x0 x1 x6 x7 (fun x2 x8 x9 => ref01_Add.l0 N x0 x1 x6 x7 k0 n x2 x8 x9) k0 x2 x8 x9
def ref01_Add.lc0 (N : Nat) : LC := fun R st k => tkSt 50 4 st fun e m => tkD 0 (dI .u64) e fun x0 e => tkD 1 (dI .u64) e fun x1 e => tkD 2 dB e fun x2 e => tkD 6 (dI .u64) e fun x6 e => tkD 7 dB e fun x7 e => tkD 8 (dI .u64) e fun x8 e => tkD 9 (dI .i64) e fun x9 e => tkN e <| tkN m <| ref01_Add.l0 N x0 x1 x6 x7 (fun x2 x8 x9 => k (.exit 0) (ref01_Add.enc0 x0 x1 x2 x6 x7 x8 x9)) N x2 x8 x9
def ref01_Add.f (N : Nat) (a : Int) (b : Int) (carry : Bool) : Option (Int × Bool) := ref01_Add.l0 N a b (0 : Int) false (fun (x2 : Bool) (x8 x9 : Int) => some (x8, x2)) N carry (0 : Int) (0 : Int)
def ref01_Add.g (a : Int) (b : Int) (carry : Bool) : Option (Int × Bool) := ref01_Add.f fuel a b carry
def ref01_Add.ct : CT := CT.of3 (dI .u64) (dI .u64) dB (dT2 (dI .u64) dB) ref01_Add.g

/-! ### ref02_Add -/
def ref02_Add.g (a : W6) (b : W6) : Option (W6 × Bool) := (ref01_Add.g a.w0 b.w0 false).bind fun (r : Int × Bool) => (ref01_Add.g a.w1 b.w1 r.snd).bind fun (r_1 : Int × Bool) => (ref01_Add.g a.w2 b.w2 r_1.snd).bind fun (r_2 : Int × Bool) => (ref01_Add.g a.w3 b.w3 r_2.snd).bind fun (r_3 : Int × Bool) => (ref01_Add.g a.w4 b.w4 r_3.snd).bind fun (r_4 : Int × Bool) => (ref01_Add.g a.w5 b.w5 r_4.snd).bind fun (r_5 : Int × Bool) => some ({ w0 := r.fst, w1 := r_1.fst, w2 := r_2.fst, w3 := r_3.fst, w4 := r_4.fst, w5 := r_5.fst : W6 }, r_5.snd)
def ref02_Add.ct : CT := CT.of2 dW dW (dT2 dW dB) ref02_Add.g

/-! ### ref01_Low -/
def ref01_Low.enc0 (x0 : Int) (x2 : Int) (x3 : Int) : St := ⟨12, [(0, .v ((dI .u64).enc x0)), (2, .v ((dI .i64).enc x2)), (3, .v ((dI .i64).enc x3))], [], 2, []⟩
def ref01_Low.b0 {R : Type} (N : Nat) (x0 : Int) (self : Int → Int → Option R) (k0 : Int → Int → Option R) (k1 : Int → Int → Option R) (x2 : Int) (x3 : Int) : Option R := bif decide (x3 < (64 : Int)) then (ref01_Bit.g x0 x3).bind fun (r : Bool) => bif r then k0 x3 x3 else self x2 (IntKind.i64.wrap (x3 + (1 : Int))) else k1 x2 x3
def ref01_Low.l0 {R : Type} (N : Nat) (x0 : Int) (k0 : Int → Int → Option R) (k1 : Int → Int → Option R) : Nat → Int → Int → Option R
  | 0, _, _ => none
  | n + 1, x2, x3 => ref01_Low.b0 N x0 (fun x2 x3 => ref01_Low.l0 N x0 k0 k1 n x2 x3) k0 k1 x2 x3
def ref01_Low.lc0 (N : Nat) : LC := fun R st k => tkSt 12 2 st fun e m => tkD 0 (dI .u64) e fun x0 e => tkD 2 (dI .i64) e fun x2 e => tkD 3 (dI .i64) e fun x3 e => tkN e <| tkN m <| ref01_Low.l0 N x0 (fun x2 x3 => k .ret (ref01_Low.enc0 x0 x2 x3)) (fun x2 x3 => k (.exit 0) (ref01_Low.enc0 x0 x2 x3)) N x2 x3
def ref01_Low.f (N : Nat) (x : Int) : Option Int := ref01_Low.l0 N x (fun (x2 x3 : Int) => some x2) (fun (x2 x3 : Int) => some (64 : Int)) N (0 : Int) (0 : Int)
def ref01_Low.g (x : Int) : Option Int := ref01_Low.f fuel x
def ref01_Low.ct : CT := CT.of1 (dI .u64) (dI .i64) ref01_Low.g

/-! ### wide_Cmp -/
def wide_Cmp.g (a : W6) (b : W6) : Option Int := bif decide (a.w5 < b.w5) then some (-1 : Int) else bif decide (b.w5 < a.w5) then some (1 : Int) else bif decide (a.w4 < b.w4) then some (-1 : Int) else bif decide (b.w4 < a.w4) then some (1 : Int) else bif decide (a.w3 < b.w3) then some (-1 : Int) else bif decide (b.w3 < a.w3) then some (1 : Int) else bif decide (a.w2 < b.w2) then some (-1 : Int) else bif decide (b.w2 < a.w2) then some (1 : Int) else bif decide (a.w1 < b.w1) then some (-1 : Int) else bif decide (b.w1 < a.w1) then some (1 : Int) else bif decide (a.w0 < b.w0) then some (-1 : Int) else bif decide (b.w0 < a.w0) then some (1 : Int) else some (0 : Int)
def wide_Cmp.ct : CT := CT.of2 dW dW (dI .i64) wide_Cmp.g

/-! ### wide_ToBits -/
def wide_ToBits.g (w : W6) : Option (B2 × Bool) := bif !orI IntKind.u64 (orI IntKind.u64 (orI IntKind.u64 w.w2 w.w3) w.w4) w.w5 == (0 : Int) then some ({ hi := (0 : Int), lo := (0 : Int) : B2 }, false) else some ({ hi := w.w1, lo := w.w0 : B2 }, true)
def wide_ToBits.ct : CT := CT.of1 dW (dT2 dBits dB) wide_ToBits.g

/-! ### word_Sub -/
def word_Sub.g (a : Int) (b : Int) (borrow : Bool) : Option (Int × Bool) := (word_one.g borrow).bind fun (r : Int) => bif decide (a < b) then some (IntKind.u64.wrap (IntKind.u64.wrap (a - b) - r), true) else bif a == b then some (IntKind.u64.wrap (IntKind.u64.wrap (a - b) - r), borrow) else some (IntKind.u64.wrap (IntKind.u64.wrap (a - b) - r), false)
def word_Sub.ct : CT := CT.of3 (dI .u64) (dI .u64) dB (dT2 (dI .u64) dB) word_Sub.g

/-! ### wide_Sub -/
def wide_Sub.g (a : W6) (b : W6) : Option (W6 × Bool) := (word_Sub.g a.w0 b.w0 false).bind fun (r : Int × Bool) => (word_Sub.g a.w1 b.w1 r.snd).bind fun (r_1 : Int × Bool) => (word_Sub.g a.w2 b.w2 r_1.snd).bind fun (r_2 : Int × Bool) => (word_Sub.g a.w3 b.w3 r_2.snd).bind fun (r_3 : Int × Bool) => (word_Sub.g a.w4 b.w4 r_3.snd).bind fun (r_4 : Int × Bool) => (word_Sub.g a.w5 b.w5 r_4.snd).bind fun (r_5 : Int × Bool) => some ({ w0 := r.fst, w1 := r_1.fst, w2 := r_2.fst, w3 := r_3.fst, w4 := r_4.fst, w5 := r_5.fst : W6 }, r_5.snd)
def wide_Sub.ct : CT := CT.of2 dW dW (dT2 dW dB) wide_Sub.g

/-! ### word_Mul -/
def word_Mul.g (a : Int) (b : Int) : Option (Int × Int) := (math_bits_Mul64.g a b).bind fun (r : Int × Int) => some (r.fst, r.snd)
def word_Mul.ct : CT := CT.of2 (dI .u64) (dI .u64) (dT2 (dI .u64) (dI .u64)) word_Mul.g

/-! ### wide_Mul -/
def wide_Mul.enc1 (x5 : Bool) (x18 : W6) (x19 : Int) (x20 : Bool) (x7 : Int) (x8 : Int) (x9 : Int) (x23 : W6) (x24 : Int) (m4 : V12) (m2 : W6) (m1 : W6) : St := ⟨89, [(3, .p 1 0), (4, .p 2 0), (5, .v (dB.enc x5)), (6, .p 4 0), (18, .v (dW.enc x18)), (19, .v ((dI .i64).enc x19)), (20, .v (dB.enc x20)), (7, .v ((dI .i64).enc x7)), (8, .v ((dI .u64).enc x8)), (9, .v ((dI .u64).enc x9)), (23, .v (dW.enc x23)), (24, .v ((dI .i64).enc x24))], [(4, ⟨true, 144, mV12.enc m4⟩), (2, ⟨true, 33, mW.enc m2⟩), (1, ⟨true, 33, mW.enc m1⟩)], 15, []⟩
def wide_Mul.b1 {R : Type} (N : Nat) (x5 : Bool) (x18 : W6) (x19 : Int) (x20 : Bool) (x7 : Int) (x8 : Int) (x23 : W6) (m2 : W6) (m1 : W6) (self : Int → Int → V12 → Option R) (k0 : Int → Int → V12 → Option R) (x9 : Int) (x24 : Int) (m4 : V12) : Option R := bif decide (x24 < (6 : Int)) then bif decide ((0 : Int) ≤ x24) && decide (x24 < (6 : Int)) then bif x24.toNat.blt (6 : Nat) && true then (word_Mul.g x8 (x23.get x24.toNat)).bind fun (r : Int × Int) => bif decide ((0 : Int) ≤ IntKind.i64.wrap (x7 + x24)) && decide (IntKind.i64.wrap (x7 + x24) < (12 : Int)) then bif (IntKind.i64.wrap (x7 + x24)).toNat.blt (12 : Nat) then (word_Add.g r.snd (getI (IntKind.i64.wrap (x7 + x24)).toNat [m4.w0, m4.w1, m4.w2, m4.w3, m4.w4, m4.w5, m4.w6, m4.w7, m4.w8, m4.w9, m4.w10, m4.w11]) false).bind fun (r_1 : Int × Bool) => (word_Add.g r.fst (0 : Int) r_1.snd).bind fun (r : Int × Bool) => (word_Add.g r_1.fst x9 false).bind fun (r_2 : Int × Bool) => (word_Add.g r.fst (0 : Int) r_2.snd).bind fun (r : Int × Bool) => bif decide ((0 : Int) ≤ IntKind.i64.wrap (x7 + x24)) && decide (IntKind.i64.wrap (x7 + x24) < (12 : Int)) then bif ((IntKind.i64.wrap (x7 + x24)).toNat + (1 : Nat)).ble (12 : Nat) then self r.fst (IntKind.i64.wrap (x24 + (1 : Int))) { w0 := bif (IntKind.i64.wrap (x7 + x24)).toNat.beq (0 : Nat) then r_2.fst else m4.w0, w1 := bif (IntKind.i64.wrap (x7 + x24)).toNat.beq (1 : Nat) then r_2.fst else m4.w1, w2 := bif (IntKind.i64.wrap (x7 + x24)).toNat.beq (2 : Nat) then r_2.fst else m4.w2, w3 := bif (IntKind.i64.wrap (x7 + x24)).toNat.beq (3 : Nat) then r_2.fst else m4.w3, w4 := bif (IntKind.i64.wrap (x7 + x24)).toNat.beq (4 : Nat) then r_2.fst else m4.w4, w5 := bif (IntKind.i64.wrap (x7 + x24)).toNat.beq (5 : Nat) then r_2.fst else m4.w5, w6 := bif (IntKind.i64.wrap (x7 + x24)).toNat.beq (6 : Nat) then r_2.fst else m4.w6, w7 := bif (IntKind.i64.wrap (x7 + x24)).toNat.beq (7 : Nat) then r_2.fst else m4.w7, w8 := bif (IntKind.i64.wrap (x7 + x24)).toNat.beq (8 : Nat) then r_2.fst else m4.w8, w9 := bif (IntKind.i64.wrap (x7 + x24)).toNat.beq (9 : Nat) then r_2.fst else m4.w9, w10 := bif (IntKind.i64.wrap (x7 + x24)).toNat.beq (10 : Nat) then r_2.fst else m4.w10, w11 := bif (IntKind.i64.wrap (x7 + x24)).toNat.beq (11 : Nat) then r_2.fst else m4.w11 : V12 } else none else none else none else none else none else none else k0 x9 x24 m4
def wide_Mul.l1 {R : Type} (N : Nat) (x5 : Bool) (x18 : W6) (x19 : Int) (x20 : Bool) (x7 : Int) (x8 : Int) (x23 : W6) (m2 : W6) (m1 : W6) (k0 : Int → Int → V12 → Option R) : Nat → Int → Int → V12 → Option R
  | 0, _, _, _ => none
  | n + 1, x9, x24, m4 => wide_Mul.b1 N x5 x18 x19 x20 x7 x8 x23 m2 m1 (fun x9 x24 m4 => wide_Mul.l1 N x5 x18 x19 x20 x7 x8 x23 m2 m1 k0 n x9 x24 m4) k0 x9 x24 m4
def wide_Mul.lc1 (N : Nat) : LC := fun R st k => tkSt 89 15 st fun e m => tkP 3 1 0 e fun e => tkP 4 2 0 e fun e => tkD 5 dB e fun x5 e => tkP 6 4 0 e fun e => tkD 18 dW e fun x18 e => tkD 19 (dI .i64) e fun x19 e => tkD 20 dB e fun x20 e => tkD 7 (dI .i64) e fun x7 e => tkD 8 (dI .u64) e fun x8 e => tkD 9 (dI .u64) e fun x9 e => tkD 23 dW e fun x23 e => tkD 24 (dI .i64) e fun x24 e => tkN e <| tkM 4 true 144 mV12 m fun m4 m => tkM 2 true 33 mW m fun m2 m => tkM 1 true 33 mW m fun m1 m => tkN m <| wide_Mul.l1 N x5 x18 x19 x20 x7 x8 x23 m2 m1 (fun x9 x24 m4 => k (.exit 2) (wide_Mul.enc1 x5 x18 x19 x20 x7 x8 x9 x23 x24 m4 m2 m1)) N x9 x24 m4
def wide_Mul.enc0 (x5 : Bool) (x18 : W6) (x19 : Int) (m4 : V12) (m2 : W6) (m1 : W6) : St := ⟨89, [(3, .p 1 0), (4, .p 2 0), (5, .v (dB.enc x5)), (6, .p 4 0), (18, .v (dW.enc x18)), (19, .v ((dI .i64).enc x19))], [(4, ⟨true, 144, mV12.enc m4⟩), (2, ⟨true, 33, mW.enc m2⟩), (1, ⟨true, 33, mW.enc m1⟩)], 7, []⟩
def wide_Mul.b0 {R : Type} (N : Nat) (x5 : Bool) (x18 : W6) (m2 : W6) (m1 : W6) (self : Int → V12 → Option R) (k0 : Int → V12 → Option R) (x19 : Int) (m4 : V12) : Option R := bif decide (x19 < (6 : Int)) then bif decide ((0 : Int) ≤ x19) && decide (x19 < (6 : Int)) then bif x19.toNat.blt (6 : Nat) && true then wide_Mul.l1 N x5 x18 x19 (decide (x19 < (6 : Int))) x19 (x18.get x19.toNat) m1 m2 m1 (fun (x9 x24 : Int) (m4 : V12) => bif decide ((0 : Int) ≤ IntKind.i64.wrap (x19 + (6 : Int))) && decide (IntKind.i64.wrap (x19 + (6 : Int)) < (12 : Int)) then bif ((IntKind.i64.wrap (x19 + (6 : Int))).toNat + (1 : Nat)).ble (12 : Nat) then self (IntKind.i64.wrap (x19 + (1 : Int))) { w0 := bif (IntKind.i64.wrap (x19 + (6 : Int))).toNat.beq (0 : Nat) then x9 else m4.w0, w1 := bif (IntKind.i64.wrap (x19 + (6 : Int))).toNat.beq (1 : Nat) then x9 else m4.w1, w2 := bif (IntKind.i64.wrap (x19 + (6 : Int))).toNat.beq (2 : Nat) then x9 else m4.w2, w3 := bif (IntKind.i64.wrap (x19 + (6 : Int))).toNat.beq (3 : Nat) then x9 else m4.w3, w4 := bif (IntKind.i64.wrap (x19 + (6 : Int))).toNat.beq (4 : Nat) then x9 else m4.w4, w5 := bif (IntKind.i64.wrap (x19 + (6 : Int))).toNat.beq (5 : Nat) then x9 else m4.w5, w6 := bif (IntKind.i64.wrap (x19 + (6 : Int))).toNat.beq (6 : Nat) then x9 else m4.w6, w7 := bif (IntKind.i64.wrap (x19 + (6 : Int))).toNat.beq (7 : Nat) then x9 else m4.w7, w8 := bif (IntKind.i64.wrap (x19 + (6 : Int))).toNat.beq (8 : Nat) then x9 else m4.w8, w9 := bif (IntKind.i64.wrap (x19 + (6 : Int))).toNat.beq (9 : Nat) then x9 else m4.w9, w10 := bif (IntKind.i64.wrap (x19 + (6 : Int))).toNat.beq (10 : Nat) then x9 else m4.w10, w11 := bif (IntKind.i64.wrap (x19 + (6 : Int))).toNat.beq (11 : Nat) then x9 else m4.w11 : V12 } else none else none) N (0 : Int) (0 : Int) m4 else none else none else k0 x19 m4
def wide_Mul.l0 {R : Type} (N : Nat) (x5 : Bool) (x18 : W6) (m2 : W6) (m1 : W6) (k0 : Int → V12 → Option R) : Nat → Int → V12 → Option R
  | 0, _, _ => none
  | n + 1, x19, m4 => wide_Mul.b0 N x5 x18 m2 m1 (fun x19 m4 => wide_Mul.l0 N x5 x18 m2 m1 k0 n x19 m4) k0 x19 m4
def wide_Mul.lc0 (N : Nat) : LC := fun R st k => tkSt 89 7 st fun e m => tkP 3 1 0 e fun e => tkP 4 2 0 e fun e => tkD 5 dB e fun x5 e => tkP 6 4 0 e fun e => tkD 18 dW e fun x18 e => tkD 19 (dI .i64) e fun x19 e => tkN e <| tkM 4 true 144 mV12 m fun m4 m => tkM 2 true 33 mW m fun m2 m => tkM 1 true 33 mW m fun m1 m => tkN m <| wide_Mul.l0 N x5 x18 m2 m1 (fun x19 m4 => k (.exit 0) (wide_Mul.enc0 x5 x18 x19 m4 m2 m1)) N x19 m4
def wide_Mul.enc2 (x5 : Bool) (x74 : V12) (x75 : Int) (m2 : W6) : St := ⟨89, [(4, .p 2 0), (5, .v (dB.enc x5)), (74, .v (dV12.enc x74)), (75, .v ((dI .i64).enc x75))], [(2, ⟨true, 33, mW.enc m2⟩)], 9, []⟩
def wide_Mul.b2 {R : Type} (N : Nat) (x74 : V12) (self : Bool → Int → W6 → Option R) (k0 : Bool → Int → W6 → Option R) (x5 : Bool) (x75 : Int) (m2 : W6) : Option R := bif decide (x75 < (12 : Int)) then bif decide ((0 : Int) ≤ x75) && decide (x75 < (12 : Int)) then bif x75.toNat.blt (12 : Nat) && true then bif decide (x75 < (6 : Int)) then bif decide ((0 : Int) ≤ x75) && decide (x75 < (6 : Int)) then bif (x75.toNat + (1 : Nat)).ble (6 : Nat) then self x5 (IntKind.i64.wrap (x75 + (1 : Int))) (m2.set x75.toNat (getI x75.toNat [x74.w0, x74.w1, x74.w2, x74.w3, x74.w4, x74.w5, x74.w6, x74.w7, x74.w8, x74.w9, x74.w10, x74.w11])) else none else none else bif !getI x75.toNat [x74.w0, x74.w1, x74.w2, x74.w3, x74.w4, x74.w5, x74.w6, x74.w7, x74.w8, x74.w9, x74.w10, x74.w11] == (0 : Int) then self true (IntKind.i64.wrap (x75 + (1 : Int))) m2 else self x5 (IntKind.i64.wrap (x75 + (1 : Int))) m2 else none else none else k0 x5 x75 m2
def wide_Mul.l2 {R : Type} (N : Nat) (x74 : V12) (k0 : Bool → Int → W6 → Option R) : Nat → Bool → Int → W6 → Option R
  | 0, _, _, _ => none
  | n + 1, x5, x75, m2 => wide_Mul.b2 N x74 (fun x5 x75 m2 => wide_Mul.l2 N x74 k0 n x5 x75 m2) k0 x5 x75 m2
def wide_Mul.lc2 (N : Nat) : LC := fun R st k => tkSt 89 9 st fun e m => tkP 4 2 0 e fun e => tkD 5 dB e fun x5 e => tkD 74 dV12 e fun x74 e => tkD 75 (dI .i64) e fun x75 e => tkN e <| tkM 2 true 33 mW m fun m2 m => tkN m <| wide_Mul.l2 N x74 (fun x5 x75 m2 => k (.exit 4) (wide_Mul.enc2 x5 x74 x75 m2)) N x5 x75 m2
def wide_Mul.f (N : Nat) (a : W6) (b : W6) : Option (W6 × Bool) := wide_Mul.l0 N false a { w0 := (0 : Int), w1 := (0 : Int), w2 := (0 : Int), w3 := (0 : Int), w4 := (0 : Int), w5 := (0 : Int) : W6 } b (fun (x19 : Int) (m4 : V12) => wide_Mul.l2 N m4 (fun (x5 : Bool) (x75 : Int) (m2 : W6) => some (m2, x5)) N false (0 : Int) { w0 := (0 : Int), w1 := (0 : Int), w2 := (0 : Int), w3 := (0 : Int), w4 := (0 : Int), w5 := (0 : Int) : W6 }) N (0 : Int) { w0 := (0 : Int), w1 := (0 : Int), w2 := (0 : Int), w3 := (0 : Int), w4 := (0 : Int), w5 := (0 : Int), w6 := (0 : Int), w7 := (0 : Int), w8 := (0 : Int), w9 := (0 : Int), w10 := (0 : Int), w11 := (0 : Int) : V12 }
def wide_Mul.g (a : W6) (b : W6) : Option (W6 × Bool) := wide_Mul.f fuel a b
def wide_Mul.ct : CT := CT.of2 dW dW (dT2 dW dB) wide_Mul.g

end
end Go.Proofs.YtnfbcofieobkkaaDoor
