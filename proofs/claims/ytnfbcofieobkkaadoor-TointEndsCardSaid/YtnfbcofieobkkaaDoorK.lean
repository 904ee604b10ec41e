/- The evaluator of a function's code, its soundness, and the ways in and out of it, in one text. -/
import Derived.WalkKit
import Derived.Below
import Derived.Lib.TrailingZeros
import Derived.Orders
import Derived.LoopN
import Derived.Scope
import Derived.ChangeKeysEq

/- An evaluator of the model's code on abstract states, and (in the texts behind this one) the proof that what it computes is what a call does. -/
namespace Go.Proofs.YtnfbcofieobkkaaDoor.Ev
open Go Go.RowKit
set_option linter.unusedVariables false
set_option linter.unusedSimpArgs false

/-- A value, or a place: a pointer into a labelled block, a slice of one. -/
inductive AV where
  | v (x : Value)
  | p (l off : Nat)
  | s (l off len cap : Nat)

/-- What a block holds. -/
inductive Blk where
  | lit (cs : List Value)
  | ints (k : IntKind) (l : List Int)

def Blk.cells : Blk → List Value
  | .lit cs => cs
  | .ints k l => l.map (Value.int k)

structure Bk where
  own : Bool
  ty : TypeId
  b : Blk

structure St where
  n : Nat
  env : List (Nat × AV)
  mem : List (Nat × Bk)
  nx : Nat
  mv : List (Nat × Nat)

def lk {α : Type} (t : Nat) : List (Nat × α) → Option α
  | [] => none
  | (u, a) :: l => bif Nat.beq t u then some a else lk t l

def pt {α : Type} (t : Nat) (a : α) : List (Nat × α) → List (Nat × α)
  | [] => [(t, a)]
  | (u, b) :: l => bif Nat.beq t u then (t, a) :: l else (u, b) :: pt t a l

inductive TK where
  | int (k : IntKind)
  | bool
  | str
  | slice (e : TypeId)
  | arr (n : Nat) (e : TypeId)
  | struct (fs : List (Nat × TypeId))
  | fn
  | other

structure TI where
  k : TK
  size : Nat
  bytes : Nat
  zero : List Value

def TI.agg (i : TI) : Bool := match i.k with | .arr .. => true | .struct .. => true | _ => false

/-- What a call comes to: handed the arguments, the memory and what goes on with the result. -/
def CT : Type 1 := (R : Type) → List AV → (Nat → Option Bk) → (Value → Option R) → Option R

inductive CK where
  | i (k : IntKind)
  | b
  | s

inductive Ex where
  | normal
  | exit (id : Nat)
  | ret

/-- What a loop comes to. -/
def LC : Type 1 := (R : Type) → St → (Ex → St → Option R) → Option R

structure Cfg where
  T : List (Nat × TI)
  EQ : List (Nat × List CK)
  C : List (FuncId × CT)
  lp : List (Nat × LC)
  un : List (Nat × Nat)
  ks : List (Nat × List Nat)
  keep : List Nat

def lkC (t : Nat) : List (Nat × CT) → Option CT
  | [] => none
  | (u, a) :: l => bif Nat.beq t u then some a else lkC t l

def lkL (t : Nat) : List (Nat × LC) → Option LC
  | [] => none
  | (u, a) :: l => bif Nat.beq t u then some a else lkL t l

inductive Eff where
  | val (ls : List Nat) (a : AV)
  | wr (l : Nat) (b : Blk)
  | nw (T : TypeId) (b : Blk) (sl : Bool) (len : Nat)

def setL (j : Nat) (i : Nat) (v : Int) : List Int → List Int
  | [] => []
  | x :: xs => (bif Nat.beq i j then v else x) :: setL (j + 1) i v xs

def getI : Nat → List Int → Int
  | _, [] => 0
  | i, x :: xs => match i with | 0 => x | j + 1 => getI j xs

def getV {R : Type} (i : Nat) (k : Value → Option R) : List Value → Option R
  | [] => none
  | x :: xs => match i with | 0 => k x | j + 1 => getV j k xs

def oneB : Value → Bool
  | .agg _ => false
  | .tuple _ => false
  | _ => true

def toInts (kk : IntKind) : List Value → Option (List Int)
  | [] => some []
  | .int k x :: r => match decide (k = kk), toInts kk r with | true, some l => some (x :: l) | _, _ => none
  | _ :: _ => none

def ovw (off : Nat) (vs cs : List Value) : List Value := cs.take off ++ (vs ++ cs.drop (off + vs.length))

def ovwI (off : Nat) : List Int → List Int → List Int
  | [], l => l
  | x :: xs, l => ovwI (off + 1) xs (setL 0 off x l)

def rng : Nat → Nat → List Nat
  | _, 0 => []
  | i, n + 1 => i :: rng (i + 1) n

def Blk.get {R : Type} (b : Blk) (ti : TI) (off : Nat) (k : Value → Option R) : Option R :=
  match b with
  | .lit cs => bif ti.agg then (bif Nat.ble (off + ti.size) cs.length then k (.agg ⟨(cs.drop off).take ti.size⟩) else none) else getV off k cs
  | .ints kk l => bif ti.agg then (bif Nat.ble (off + ti.size) l.length then k (.agg ⟨(rng off ti.size).map fun j => .int kk (getI j l)⟩) else none)
      else (bif Nat.blt off l.length then k (.int kk (getI off l)) else none)

def Blk.put {R : Type} (b : Blk) (off : Nat) (vs : List Value) (k : Blk → Option R) : Option R :=
  match b with
  | .lit cs => bif Nat.ble (off + vs.length) cs.length && vs.all oneB then k (.lit (ovw off vs cs)) else none
  | .ints kk l => match toInts kk vs with
    | none => none
    | some xs => bif Nat.ble (off + xs.length) l.length then (bif Nat.ble 2 xs.length && (Nat.beq off 0 && Nat.beq xs.length l.length) then k (.ints kk xs) else k (.ints kk (ovwI off xs l))) else none

/-- A new block of cells: ints where all are of one kind. -/
def Blk.of (cs : List Value) : Blk :=
  match cs with
  | .int k _ :: _ :: _ => match toInts k cs with | some l => .ints k l | none => .lit cs
  | _ => .lit cs

def cellsV : Value → List Value
  | .agg cs => cs.toList
  | v => [v]

def shlI (k : IntKind) (x y : Int) : Int := k.wrap (x * 2 ^ min y.toNat k.bits)
def shrI (k : IntKind) (x y : Int) : Int := x.fdiv (2 ^ min y.toNat k.bits)
def andI (k : IntKind) (x y : Int) : Int := k.wrap (BitVec.ofInt k.bits x &&& BitVec.ofInt k.bits y).toNat
def orI (k : IntKind) (x y : Int) : Int := k.wrap (BitVec.ofInt k.bits x ||| BitVec.ofInt k.bits y).toNat
def xorI (k : IntKind) (x y : Int) : Int := k.wrap (BitVec.ofInt k.bits x ^^^ BitVec.ofInt k.bits y).toNat
def strEq (a b : ByteArray) : Bool := a.toList == b.toList
def strLt (a b : ByteArray) : Bool := Op.bytesLess a.toList b.toList

def eqCells : List CK → List Value → List Value → Option Bool
  | [], [], [] => some true
  | .i kk :: ks, .int k x :: r, .int k' y :: s => match decide (k = kk) && decide (k' = kk), eqCells ks r s with
    | true, some b => some ((x == y) && b)
    | _, _ => none
  | .b :: ks, .bool x :: r, .bool y :: s => match eqCells ks r s with
    | some b => some ((x == y) && b)
    | _ => none
  | .s :: ks, .string x :: r, .string y :: s => match eqCells ks r s with
    | some b => some (strEq x y && b)
    | _ => none
  | _, _, _ => none

def evBin {R : Type} (cfg : Cfg) (op : BinOp) (T : TypeId) (a b : Value) (k : Value → Option R) : Option R :=
  match a, b with
  | .int kx x, .int ky y =>
    match op with
    | .shl => bif ky.signed && decide (y < 0) then none else k (.int kx (shlI kx x y))
    | .shr => bif ky.signed && decide (y < 0) then none else k (.int kx (shrI kx x y))
    | .add => bif decide (kx = ky) then k (.int kx (kx.wrap (x + y))) else none
    | .sub => bif decide (kx = ky) then k (.int kx (kx.wrap (x - y))) else none
    | .mul => bif decide (kx = ky) then k (.int kx (kx.wrap (x * y))) else none
    | .quo => bif decide (kx = ky) then (bif decide (y = 0) then none else k (.int kx (kx.wrap (x.tdiv y)))) else none
    | .rem => bif decide (kx = ky) then (bif decide (y = 0) then none else k (.int kx (x.tmod y))) else none
    | .and => bif decide (kx = ky) then k (.int kx (andI kx x y)) else none
    | .or => bif decide (kx = ky) then k (.int kx (orI kx x y)) else none
    | .xor => bif decide (kx = ky) then k (.int kx (xorI kx x y)) else none
    | .eql => bif decide (kx = ky) then k (.bool (x == y)) else none
    | .neq => bif decide (kx = ky) then k (.bool (!(x == y))) else none
    | .lss => bif decide (kx = ky) then k (.bool (decide (x < y))) else none
    | .leq => bif decide (kx = ky) then k (.bool (decide (x ≤ y))) else none
    | .gtr => bif decide (kx = ky) then k (.bool (decide (y < x))) else none
    | .geq => bif decide (kx = ky) then k (.bool (decide (y ≤ x))) else none
    | _ => none
  | .string x, .string y =>
    match op with
    | .eql => k (.bool (strEq x y))
    | .neq => k (.bool (!strEq x y))
    | .lss => k (.bool (strLt x y))
    | .leq => k (.bool (strLt x y || strEq x y))
    | .gtr => k (.bool (!(strLt x y || strEq x y)))
    | .geq => k (.bool (!strLt x y))
    | _ => none
  | .bool x, .bool y =>
    match lk T cfg.T, op with
    | some { k := .bool, .. }, .eql => k (.bool (x == y))
    | some { k := .bool, .. }, .neq => k (.bool (!(x == y)))
    | _, _ => none
  | .agg xs, .agg ys =>
    match lk T cfg.EQ with
    | some ks => match eqCells ks xs.toList ys.toList, op with
      | some b, .eql => k (.bool b)
      | some b, .neq => k (.bool (!b))
      | _, _ => none
    | none => none
  | _, _ => none

def wfB : Value → Bool
  | .int k n => decide (k.min ≤ n) && decide (n ≤ k.max)
  | .bool _ => true
  | .string s => Nat.ble s.size 9223372036854775807
  | .slice none n _ => Nat.ble n 9223372036854775807
  | .func _ _ _ => true
  | .nilFunc => true
  | _ => false

def getO {R : Type} (get : Nat → Option AV) (x : Operand) (k : AV → Option R) : Option R :=
  match x with
  | .tmp t => match get t with | some a => k a | none => none
  | .const c => bif wfB c then k (.v c) else none
  | .func f => k (.v (.func (.func f) #[] #[]))
  | .global _ => none

def getOs {R : Type} (get : Nat → Option AV) (k : List AV → Option R) : List Operand → Option R
  | [] => k []
  | x :: xs => getO get x fun a => getOs get (fun l => k (a :: l)) xs

def lab : AV → List Nat
  | .v _ => []
  | .p l _ => [l]
  | .s l _ _ _ => [l]

def maxI (x y : Int) : Int := if y > x then y else x
def minI (x y : Int) : Int := if y < x then y else x

/-- The parts of a composite laid over its zero. -/
def parts (place : Nat → Option (Nat × Nat)) : List (Nat × AV) → List Value → Option (List Value)
  | [], cs => some cs
  | (i, .v x) :: r, cs =>
    match place i with
    | some (off, size) => bif Nat.beq (cellsV x).length size && Nat.ble (off + size) cs.length && (cellsV x).all oneB then parts place r (ovw off (cellsV x) cs) else none
    | none => none
  | _ :: _, _ => none

def nthL {α : Type} (i : Nat) : List α → Option α
  | [] => none
  | x :: xs => match i with | 0 => some x | j + 1 => nthL j xs

def sizeT (cfg : Cfg) (t : TypeId) : Option Nat := match lk t cfg.T with | some i => some i.size | none => none

def partV {R : Type} (ti : TI) (cs : List Value) (off : Nat) (k : Value → Option R) : Option R :=
  bif ti.agg then k (.agg ⟨(cs.drop off).take ti.size⟩) else getV off k cs

def chainV {R : Type} (f : Nat → Option R) (j : Nat) : Nat → Nat → Option R
  | _, 0 => none
  | e, n + 1 => bif Nat.beq j e then f e else chainV f j (e + 1) n

/-- An element of an array's value. -/
def pickV {R : Type} (ti : TI) (cs : List Value) (j n : Nat) (k : Value → Option R) : Option R :=
  match ti.k with
  | .int kk => (match toInts kk cs with
    | some l => bif Nat.blt j l.length && Nat.beq ti.size 1 then k (.int kk (getI j l)) else none
    | none => none)
  | _ => chainV (fun e => partV ti cs (e * ti.size) k) j 0 n

/-- A slice of bytes as a string. -/
def strOf (off n : Nat) (xs : List Int) : ByteArray := ⟨(((xs.drop off).take n).map fun x => UInt8.ofNat x.toNat).toArray⟩

def optI {R : Type} (get : Nat → Option AV) (x : Option Operand) (d : Int) (k : Int → Option R) : Option R :=
  match x with
  | none => k d
  | some y => getO get y fun
    | .v (.int _ n) => k n
    | _ => none

/-- A place's offset. -/
def offs (o j s : Nat) : Nat := bif Nat.beq o 0 && Nat.beq s 1 then j else o + j * s

def evOp {R : Type} (cfg : Cfg) (get : Nat → Option AV) (mem : Nat → Option Bk) (o : Oper) (k : Eff → Option R) : Option R :=
  match o.op with
  | .move x => getO get x fun a => k (.val [] a)
  | .assign x => getO get x fun a => k (.val [] a)
  | .pick c a b => getO get c fun
    | .v (.bool t) => bif t then getO get a fun x => k (.val [] x) else getO get b fun x => k (.val [] x)
    | _ => none
  | .alloc T => match lk T cfg.T with
    | some ti => k (.nw T (.of ti.zero) false 0)
    | none => none
  | .box T x => getO get x fun
    | .v y => bif (cellsV y).all oneB then k (.nw T (.of (cellsV y)) false 0) else none
    | _ => none
  | .build T ps => match lk T cfg.T with
    | some { k := .struct fs, zero, .. } => getOs get (fun l =>
        match parts (fun i => match nthL i fs with | some (off, t) => (match sizeT cfg t with | some s => some (off, s) | none => none) | none => none) ((ps.toList.map (·.1)).zip l) zero with
        | some cs => k (.val [] (.v (.agg ⟨cs⟩)))
        | none => none) (ps.toList.map (·.2))
    | some { k := .arr _ e, zero, .. } => match sizeT cfg e with
      | some s => getOs get (fun l =>
          match parts (fun i => some (i * s, s)) ((ps.toList.map (·.1)).zip l) zero with
          | some cs => k (.val [] (.v (.agg ⟨cs⟩)))
          | none => none) (ps.toList.map (·.2))
      | none => none
    | _ => none
  | .load T x => match lk T cfg.T with
    | some ti => getO get x fun
      | .p l off => match mem l with
        | some bk => bk.b.get ti off fun y => k (.val [l] (.v y))
        | none => none
      | _ => none
    | none => none
  | .store T a x => match lk T cfg.T with
    | some ti => getO get a fun
      | .p l off => getO get x fun
        | .v y => match mem l with
          | some bk => bif bk.own && Nat.beq (cellsV y).length ti.size then bk.b.put off (cellsV y) fun b => k (.wr l b) else none
          | none => none
        | _ => none
      | _ => none
    | none => none
  | .nilCheck x => getO get x fun
    | .p l off => k (.val [] (.p l off))
    | _ => none
  | .binOp op T x y _ => getO get x fun
    | .v a => getO get y fun
      | .v b => evBin cfg op T a b fun c => k (.val [] (.v c))
      | _ => none
    | _ => none
  | .unOp op _ x => getO get x fun
    | .v (.int kk n) => match op with
      | .neg => k (.val [] (.v (.int kk (kk.wrap (0 - n)))))
      | .xor => k (.val [] (.v (.int kk (xorI kk (if kk.signed then -1 else kk.max) n))))
      | _ => none
    | .v (.bool b) => match op with
      | .not => k (.val [] (.v (.bool (!b))))
      | _ => none
    | _ => none
  | .convert src dst x => match lk src cfg.T with
    | some si => match lk dst cfg.T with
      | some ti => getO get x fun
        | .v (.int _ n) => match ti.k with
          | .int kk => k (.val [] (.v (.int kk (kk.wrap n))))
          | _ => none
        | .v (.string s) => match ti.k with
          | .str => k (.val [] (.v (.string s)))
          | _ => none
        | .s l off n _ => match ti.k, si.k, mem l with
          | .str, .slice e, some { b := .ints .u8 xs, .. } => match lk e cfg.T with
            | some { k := .int .u8, .. } => bif Nat.ble (off + n) xs.length then k (.val [l] (.v (.string (strOf off n xs)))) else none
            | _ => none
          | _, _, _ => none
        | _ => none
      | none => none
    | none => none
  | .fieldAddr T x f => match lk T cfg.T with
    | some { k := .struct fs, .. } => match nthL f fs with
      | some (off, t) => match sizeT cfg t with
        | some (_ + 1) => getO get x fun
          | .p l o => k (.val [] (.p l (o + off)))
          | _ => none
        | _ => none
      | none => none
    | _ => none
  | .field T x f => match lk T cfg.T with
    | some { k := .struct fs, .. } => match nthL f fs with
      | some (off, t) => match lk t cfg.T with
        | some ti => getO get x fun
          | .v (.agg cs) => partV ti cs.toList off fun y => k (.val [] (.v y))
          | _ => none
        | none => none
      | none => none
    | _ => none
  | .indexAddr T x i => match lk T cfg.T with
    | some { k := .arr n e, .. } => match sizeT cfg e with
      | some s => getO get x fun
        | .p l o => getO get i fun
          | .v (.int _ j) => bif decide (0 ≤ j) && decide (j < (n : Int)) then k (.val [] (.p l (offs o j.toNat s))) else none
          | _ => none
        | _ => none
      | none => none
    | some { k := .slice e, .. } => match sizeT cfg e with
      | some s => getO get x fun
        | .s l o n _ => getO get i fun
          | .v (.int _ j) => bif decide (0 ≤ j) && decide (j < (n : Int)) then k (.val [] (.p l (offs o j.toNat s))) else none
          | _ => none
        | _ => none
      | none => none
    | _ => none
  | .index T x i => match lk T cfg.T with
    | some { k := .str, .. } => getO get x fun
      | .v (.string s) => getO get i fun
        | .v (.int _ j) => bif decide (0 ≤ j) && decide (j < (s.size : Int)) then k (.val [] (.v (.int .u8 ((s.toList.getD j.toNat 0).toNat)))) else none
        | _ => none
      | _ => none
    | some { k := .arr n e, .. } => match lk e cfg.T with
      | some ti => getO get x fun
        | .v (.agg cs) => getO get i fun
          | .v (.int _ j) => bif decide (0 ≤ j) && decide (j < (n : Int)) then pickV ti cs.toList j.toNat n fun y => k (.val [] (.v y)) else none
          | _ => none
        | _ => none
      | none => none
    | _ => none
  | .makeSlice T len cap => match lk T cfg.T with
    | some { k := .slice e, .. } => match lk e cfg.T with
      | some { k := .int kk, size := 1, bytes, zero := [.int kz 0] } => bif !decide (kz = kk) then none else getO get len fun
        | .v (.int _ n) => getO get cap fun
          | .v (.int _ c) => bif decide (n = c) && decide (0 ≤ n) && decide (bytes * n ≤ 281474976710656) && decide (n ≤ 9223372036854775807) then k (.nw e (.ints kk (List.replicate n.toNat 0)) true n.toNat) else none
          | _ => none
        | _ => none
      | _ => none
    | _ => none
  | .buildSlice T len ps => match lk T cfg.T with
    | some { k := .slice e, .. } => match lk e cfg.T with
      | some ti => getOs get (fun l =>
          match parts (fun i => some (i * ti.size, ti.size)) ((ps.toList.map (·.1)).zip l) ((rng 0 (len * ti.size)).map fun i => ti.zero.getD (i % ti.size) undef) with
          | some cs => bif Nat.ble (len * ti.size) 1000 && Nat.ble len 9223372036854775807 && Nat.blt 0 (len * ti.size) then k (.nw e (.of cs) true len) else none
          | none => none) (ps.toList.map (·.2))
      | none => none
    | _ => none
  | .extract x i => getO get x fun
    | .v (.tuple vs) => getV i (fun y => k (.val [] (.v y))) vs.toList
    | _ => none
  | .call c => match c.callee with
    | .value f => getO get f fun
      | .v (.func (.func g) first cap) => match first.toList, cap.toList, lkC g cfg.C with
        | [], [], some ct => getOs get (fun args => ct R args mem fun y => k (.val (args.flatMap lab) (.v y))) c.args.toList
        | _, _, _ => none
      | _ => none
    | .builtin b => match b with
      | .len => match c.argTypes.toList, c.args.toList with
        | t :: _, x :: _ => match lk t cfg.T with
          | some { k := .str, .. } => getO get x fun
            | .v (.string s) => k (.val [] (.v (.int .i64 s.size)))
            | _ => none
          | some { k := .slice _, .. } => getO get x fun
            | .s _ _ n _ => k (.val [] (.v (.int .i64 n)))
            | .v (.slice none n _) => k (.val [] (.v (.int .i64 n)))
            | _ => none
          | some { k := .arr n _, .. } => getO get x fun _ => bif Nat.ble n 9223372036854775807 then k (.val [] (.v (.int .i64 n))) else none
          | _ => none
        | _, _ => none
      | .max => match c.args.toList with
        | [x, y] => getO get x fun
          | .v (.int kx a) => getO get y fun
            | .v (.int ky b) => bif decide (kx = ky) then k (.val [] (.v (.int kx (maxI a b)))) else none
            | _ => none
          | _ => none
        | _ => none
      | .min => match c.args.toList with
        | [x, y] => getO get x fun
          | .v (.int kx a) => getO get y fun
            | .v (.int ky b) => bif decide (kx = ky) then k (.val [] (.v (.int kx (minI a b)))) else none
            | _ => none
          | _ => none
        | _ => none
      | _ => none
    | _ => none
  | _ => none

def setBk (l : Nat) (b : Blk) : List (Nat × Bk) → List (Nat × Bk)
  | [] => []
  | (m, bk) :: r => bif Nat.beq l m then (m, { bk with b := b }) :: r else (m, bk) :: setBk l b r

def keepMv (d : Nat) (l : List (Nat × Nat)) : List (Nat × Nat) := l.filter fun (a, b) => !(Nat.beq a d) && !(Nat.beq b d)

/-- A slot is written. -/
def St.put (st : St) (dst : Option Nat) (a : AV) : Option St :=
  match dst with
  | none => some st
  | some d => bif Nat.blt d st.n then some { st with env := pt d a st.env, mv := keepMv d st.mv } else none

def St.app {R : Type} (st : St) (dst : Option Nat) (e : Eff) (k : St → Option R) : Option R :=
  match e with
  | .val _ a => match st.put dst a with | some s => k { s with nx := s.nx + 1 } | none => none
  | .wr l b => match ({ st with mem := setBk l b st.mem } : St).put dst (.v undef) with | some s => k { s with nx := s.nx + 1 } | none => none
  | .nw T b sl n => match ({ st with mem := (st.nx, ⟨true, T, b⟩) :: st.mem } : St).put dst (bif sl then .s st.nx 0 n n else .p st.nx 0) with
    | some s => k { s with nx := s.nx + 1 }
    | none => none

/-- A move within a region is kept in mind. -/
def St.note (st : St) (o : Oper) : St :=
  match o.dst, o.op with
  | some d, .move (.tmp s) => bif Nat.beq d s then st else { st with mv := (d, s) :: st.mv }
  | _, _ => st

/-- Slot g holds the bool b, and all that were moved from it. -/
def setB (g : Nat) (b : Bool) : List (Nat × Nat) → List (Nat × AV) → List (Nat × AV)
  | [], env => pt g (.v (.bool b)) env
  | (d, s) :: r, env => bif Nat.beq s g then setB g b r (pt d (.v (.bool b)) env) else setB g b r env

structure Log where
  i : Nat
  rd : List Nat
  dst : Option Nat
  ls : List Nat
  wr : Option Nat

def natK {R : Type} (n : Nat) (k : Nat → R) : R := match n with
  | 0 => k 0
  | m + 1 => k (m + 1)

def boolK {R : Type} (b : Bool) (k : Bool → R) : R := match b with
  | true => k true
  | false => k false

def envK {R : Type} : List (Nat × AV) → (List (Nat × AV) → R) → R
  | [], k => k []
  | (u, a) :: l, k => natK u fun u => envK l fun r => k ((u, a) :: r)

def memK {R : Type} : List (Nat × Bk) → (List (Nat × Bk) → R) → R
  | [], k => k []
  | (u, ⟨o, t, b⟩) :: l, k => natK u fun u => boolK o fun o => natK t fun t => memK l fun r => k ((u, ⟨o, t, b⟩) :: r)

def mvK {R : Type} : List (Nat × Nat) → (List (Nat × Nat) → R) → R
  | [], k => k []
  | (u, a) :: l, k => natK u fun u => natK a fun a => mvK l fun r => k ((u, a) :: r)

/-- The state, spelt out. -/
def St.norm {R : Type} (st : St) (k : St → R) : R := match st with
  | ⟨n, env, mem, nx, mv⟩ => natK n fun n => envK env fun env => memK mem fun mem => natK nx fun nx => mvK mv fun mv => k ⟨n, env, mem, nx, mv⟩

theorem natK_eq {R : Type} (n : Nat) (k : Nat → R) : natK n k = k n := by cases n <;> rfl
theorem boolK_eq {R : Type} (n : Bool) (k : Bool → R) : boolK n k = k n := by cases n <;> rfl
theorem envK_eq {R : Type} : ∀ (l : List (Nat × AV)) (k : List (Nat × AV) → R), envK l k = k l
  | [], _ => rfl
  | (u, a) :: l, k => by rw [envK, natK_eq, envK_eq l]
theorem memK_eq {R : Type} : ∀ (l : List (Nat × Bk)) (k : List (Nat × Bk) → R), memK l k = k l
  | [], _ => rfl
  | (u, ⟨o, t, b⟩) :: l, k => by rw [memK, natK_eq, boolK_eq, natK_eq, memK_eq l]
theorem mvK_eq {R : Type} : ∀ (l : List (Nat × Nat)) (k : List (Nat × Nat) → R), mvK l k = k l
  | [], _ => rfl
  | (u, a) :: l, k => by rw [mvK, natK_eq, natK_eq, mvK_eq l]
theorem norm_eq {R : Type} (st : St) (k : St → R) : st.norm k = k st := by
  obtain ⟨n, env, mem, nx, mv⟩ := st
  rw [St.norm, natK_eq, envK_eq, memK_eq, natK_eq, mvK_eq]

def evOps {R : Type} (cfg : Cfg) (ops : List Oper) (log : List (Option Eff)) (k : List (Option Eff) → St → Option R) : List Oper → St → Option R
  | [], st => k log st
  | o :: rest, st =>
    let go (st : St) : Option R := evOp cfg (fun t => lk t st.env) (fun l => lk l st.mem) o fun e => st.app o.dst e fun st' => (st'.note o).norm fun st' => evOps cfg ops (log ++ [some e]) k rest st'
    let skip (st : St) : Option R := match st.put o.dst (.v undef) with | some s => ({ s with nx := s.nx + 1 } : St).norm fun s => evOps cfg ops (log ++ [none]) k rest s | none => none
    match o.guard with
    | none => go st
    | some (j, want) => match (nthL j ops).bind (·.dst) with
      | some g => match lk g st.env with
        | some (.v (.bool b)) =>
          bif b then (let s : St := { st with env := setB g true st.mv st.env }; bif want then go s else skip s)
          else (let s : St := { st with env := setB g false st.mv st.env }; bif want then skip s else go s)
        | some (.v (.tuple _)) => skip st
        | _ => none
      | none => none

def firstReg : Code → Nat
  | .region id _ _ => id
  | .seq a _ => firstReg a
  | .cond _ a _ => firstReg a
  | .block _ b => firstReg b
  | .loop b => firstReg b
  | .scope b => firstReg b
  | _ => 0

def St.trim (st : St) (keep : List Nat) : St := { st with env := st.env.filter fun p => keep.contains p.1, mv := [] }

/-- The slots that an operation looks at. -/
def opReads (ops : List Oper) (o : Oper) : List Nat :=
  (o.op.operands.toList.filterMap fun | .tmp t => some t | _ => none) ++
  (match o.guard with | some (g, _) => (match (nthL g ops).bind (·.dst) with | some d => [d] | none => []) | none => [])

def Eff.acc : Option Eff → List Nat
  | some (.val ls _) => ls
  | some (.wr l _) => [l]
  | _ => []

def Eff.wrs : Option Eff → List Nat
  | some (.wr l _) => [l]
  | _ => []

def meet (a b : List Nat) : Bool := a.any fun x => b.any fun y => Nat.beq x y

def dstL (o : Oper) : List Nat := match o.dst with | some d => [d] | none => []

/-- Two operations of which neither may run ahead of the other one. -/
def conf (ops : List Oper) (oi : Oper) (ei : Option Eff) (oj : Oper) (ej : Option Eff) : Bool :=
  meet (dstL oi) (opReads ops oj) || meet (dstL oi) (dstL oj) || meet (dstL oj) (opReads ops oi) ||
  meet (Eff.wrs ei) (Eff.acc ej) || meet (Eff.wrs ej) (Eff.acc ei)

def ordered (i : Nat) (oj : Oper) : Bool := oj.after.toList.any fun e => Nat.beq e.on i && Region.binds .any e

/-- Every later operation that may not run ahead of this one says so. -/
def okFrom (ops : List Oper) (i : Nat) (oi : Oper) (ei : Option Eff) : List (Oper × Option Eff) → Bool
  | [] => true
  | (oj, ej) :: r => (!conf ops oi ei oj ej || ordered i oj) && okFrom ops i oi ei r

def okAll (ops : List Oper) : Nat → List (Oper × Option Eff) → Bool
  | _, [] => true
  | i, (o, e) :: r => (o.after.toList.all fun d => !Region.binds .any d || Nat.blt d.on i) && okFrom ops (i) o e r && okAll ops (i + 1) r

def evRegion {R : Type} (cfg : Cfg) (ops : List Oper) (draw : Bool) (st : St) (k : St → Option R) : Option R :=
  evOps cfg ops [] (fun log st' => bif !draw || okAll ops 0 (ops.zip log) then (st'.trim cfg.keep).norm k else none) ops { st with mv := [] }

def St.head (st : St) (keys : List Nat) (nx : Nat) : St :=
  { n := st.n, env := st.env.filter fun p => keys.contains p.1, mem := st.mem.filter fun p => Nat.blt p.1 nx && st.env.any fun q => keys.contains q.1 && (lab q.2).any (Nat.beq p.1), nx := nx, mv := [] }

def St.below (st : St) (nx : Nat) : Bool := st.env.all fun p => (lab p.2).all fun l => Nat.blt l nx

/-- One round of a loop. -/
def stepL {R : Type} (f : St → (Ex → St → Option R) → Option R) (keys : List Nat) (nx : Nat) (self : St → Option R) (k : Ex → St → Option R) (st : St) : Option R :=
  f st fun e st' => bif (st'.head keys nx).below nx then (st'.head keys nx).norm fun st' => (match e with
    | .normal => self st'
    | e => k e st') else none

def loopN {R : Type} (f : St → (Ex → St → Option R) → Option R) (keys : List Nat) (nx : Nat) : Nat → St → (Ex → St → Option R) → Option R
  | 0, _, _ => none
  | n + 1, st, k => stepL f keys nx (fun s => loopN f keys nx n s k) k st

def loopsOf : Code → List Code
  | .seq a b => loopsOf a ++ loopsOf b
  | .cond _ a b => loopsOf a ++ loopsOf b
  | .block _ b => loopsOf b
  | .loop b => b :: loopsOf b
  | .scope b => loopsOf b
  | _ => []

def evCode {R : Type} (cfg : Cfg) (N : Nat) : Code → St → (Ex → St → Option R) → Option R
  | .skip, st, k => k .normal st
  | .region _ ops draw, st, k => evRegion cfg ops.toList draw st fun s => k .normal s
  | .seq a b, st, k => evCode cfg N a st fun e s => match e with
    | .normal => evCode cfg N b s k
    | e => k e s
  | .cond c a b, st, k => getO (fun t => lk t st.env) c fun
    | .v (.bool t) => bif t then evCode cfg N a st k else evCode cfg N b st k
    | _ => none
  | .block id b, st, k => evCode cfg N b st fun e s => match e with
    | .exit i => bif Nat.beq i id then k .normal s else k (.exit i) s
    | e => k e s
  | .loop b, st, k =>
    let keys := match lk (firstReg b) cfg.ks with | some l => l | none => st.env.map (·.1)
    bif (st.head keys st.nx).below st.nx then (st.head keys st.nx).norm fun st => (match lkL (firstReg b) cfg.lp with
      | some lc => lc R st k
      | none => match lk (firstReg b) cfg.un with
        | some m => loopN (evCode cfg N b) (st.env.map (·.1)) st.nx m st k
        | none => loopN (evCode cfg N b) (st.env.map (·.1)) st.nx N st k) else none
  | .scope b, st, k => evCode cfg N b st k
  | .label _, st, k => k .normal st
  | .exit id, st, k => k (.exit id) st
  | .ret, st, k => k .ret st
  | _, _, _ => none

def notTup : Value → Bool
  | .tuple _ => false
  | _ => true

def evRes {R : Type} (cfg : Cfg) (st : St) (k : List Value → Option R) : List ResultVar → Option R
  | [] => k []
  | .tmp t :: r => match lk t st.env with
    | some (.v x) => bif notTup x then evRes cfg st (fun l => k (x :: l)) r else none
    | _ => none
  | .cell a T :: r => match lk T cfg.T, lk a st.env with
    | some ti, some (.p l off) => match lk l st.mem with
      | some bk => bk.b.get ti off fun x => evRes cfg st (fun l => k (x :: l)) r
      | none => none
    | _, _ => none

def single : List Value → Value
  | [x] => x
  | l => .tuple ⟨l⟩

def args0 : Nat → List AV → List (Nat × AV)
  | _, [] => []
  | i, a :: l => (i, a) :: args0 (i + 1) l

/-- A function's body from its arguments to its result. -/
def evFunc {R : Type} (cfg : Cfg) (N : Nat) (fn : Func) (args : List AV) (mem : List (Nat × Bk)) (nx : Nat) (k : Value → Option R) : Option R :=
  match fn.body with
  | none => none
  | some body => evCode cfg N body { n := fn.ntmps, env := args0 0 args, mem := mem, nx := nx, mv := [] } fun e st => match e with
    | .exit _ => none
    | _ => evRes cfg st (fun l => k (single l)) fn.results.toList

end Go.Proofs.YtnfbcofieobkkaaDoor.Ev

/- The evaluator is sound, first part: single operations. -/
namespace Go.Proofs.YtnfbcofieobkkaaDoor.Ev
open Go Go.RowKit
set_option linter.unusedVariables false
set_option linter.unusedSimpArgs false

/-- The library's one table stands in its variable, which is the first one. -/
def WI (w : World) : Prop := ∀ j : Nat, j < 64 → w.cell? ⟨0, j, none⟩ = some (.int .u8 (Lib.deBruijn64tab.getD j 0 : Nat))

theorem WI.below {w w' : World} (h : WI w) (hb : Below w.heap.size w w') : WI w' := by
  intro j hj
  rw [hb.cell (p := ⟨0, j, none⟩) ?_]
  · exact h j hj
  · rcases Nat.lt_or_ge 0 w.heap.size with hlt | hge
    · exact hlt
    · have := h j hj
      unfold World.cell? at this
      rw [Array.getElem?_eq_none hge] at this
      cases this

def conc (ρ : Nat → Nat) : AV → Value
  | .v x => x
  | .p l o => .pointer (some ⟨ρ l, o, none⟩)
  | .s l o n c => .slice (some ⟨ρ l, o, none⟩) n c

def wf0 : Value → Prop
  | .int k n => k.min ≤ n ∧ n ≤ k.max
  | .string s => s.size ≤ 9223372036854775807
  | .slice _ n _ => n ≤ 9223372036854775807
  | .agg _ => False
  | .tuple _ => False
  | _ => True

def wf1 : Value → Prop
  | .agg cs => ∀ c ∈ cs.toList, wf0 c
  | x => wf0 x

def wf2 : Value → Prop
  | .tuple vs => ∀ v ∈ vs.toList, wf1 v
  | x => wf1 x

def AV.wf : AV → Prop
  | .v x => wf2 x
  | .p _ _ => True
  | .s _ _ n c => n ≤ 9223372036854775807 ∧ c ≤ 9223372036854775807

theorem wf1_of_wf0 {x : Value} (h : wf0 x) : wf1 x := by cases x <;> first | exact h | exact h.elim
theorem wf2_of_wf1 {x : Value} (h : wf1 x) : wf2 x := by cases x <;> first | exact h | exact h.elim
theorem wf2_of_wf0 {x : Value} (h : wf0 x) : wf2 x := wf2_of_wf1 (wf1_of_wf0 h)

theorem wrap_bounds (k : IntKind) (n : Int) : k.min ≤ k.wrap n ∧ k.wrap n ≤ k.max := by
  cases k <;> simp [IntKind.wrap, IntKind.min, IntKind.max, IntKind.bits, IntKind.signed] <;> (try split) <;> omega

theorem wf_wrap (k : IntKind) (n : Int) : wf0 (.int k (k.wrap n)) := wrap_bounds k n

theorem wfB_wf0 {c : Value} (h : wfB c = true) : wf0 c := by
  match c, h with
  | .int k n, h => simpa [wfB, wf0] using h
  | .bool _, _ => trivial
  | .string s, h => simpa [wfB, wf0, Nat.ble_eq] using h
  | .slice none n c, h => simpa [wfB, wf0, Nat.ble_eq] using h
  | .func _ _ _, _ => trivial
  | .nilFunc, _ => trivial

theorem nbeq (a b : Nat) : Nat.beq a b = decide (a = b) := by
  cases h : Nat.beq a b with
  | true => simp [Nat.eq_of_beq_eq_true h]
  | false => simp [Nat.ne_of_beq_eq_false h]

theorem nble (a b : Nat) : Nat.ble a b = decide (a ≤ b) := by
  cases h : Nat.ble a b with
  | true => simp [Nat.le_of_ble_eq_true h]
  | false =>
    have : ¬ a ≤ b := fun e => by rw [Nat.ble_eq_true_of_le e] at h; cases h
    simp [this]

theorem nblt (a b : Nat) : Nat.blt a b = decide (a < b) := by
  unfold Nat.blt
  rw [nble]
  rfl

theorem lk_nil {α : Type} (t : Nat) : lk t ([] : List (Nat × α)) = none := rfl
theorem lk_cons {α : Type} (t u : Nat) (a : α) (l : List (Nat × α)) : lk t ((u, a) :: l) = if t = u then some a else lk t l := by
  simp only [lk, nbeq]
  by_cases h : t = u <;> simp [h]

theorem lk_pt {α : Type} (t u : Nat) (a : α) : ∀ l : List (Nat × α), lk t (pt u a l) = if t = u then some a else lk t l
  | [] => lk_cons t u a []
  | (v, b) :: l => by
    simp only [pt, nbeq]
    by_cases h : u = v
    · subst h
      simp only [decide_true, cond_true, lk_cons]
      by_cases h2 : t = u <;> simp [h2]
    · simp only [h, decide_false, cond_false, lk_cons, lk_pt t u a l]
      by_cases h2 : t = v
      · subst h2
        have : t ≠ u := fun e => h e.symm
        simp [this]
      · simp [h2]

/-- What an operand is. -/
def Opd (get : Nat → Option AV) : Operand → AV → Prop
  | .tmp t, av => get t = some av
  | .const c, av => av = .v c ∧ wf0 c
  | .func f, av => av = .v (.func (.func f) #[] #[])
  | .global _, _ => False

section
variable {R : Type} {get : Nat → Option AV} {r : R}

theorem getO_some {x : Operand} {k : AV → Option R} (h : getO get x k = some r) : ∃ av, Opd get x av ∧ k av = some r := by
  cases x with
  | tmp t =>
    simp only [getO] at h
    split at h
    · rename_i a ha; exact ⟨a, ha, h⟩
    · cases h
  | const c =>
    simp only [getO] at h
    cases hc : wfB c with
    | false => simp [hc] at h
    | true => simp [hc] at h; exact ⟨_, ⟨rfl, wfB_wf0 hc⟩, h⟩
  | func f => exact ⟨_, rfl, h⟩
  | global g => simp [getO] at h

theorem getOs_some : ∀ {xs : List Operand} {k : List AV → Option R}, getOs get k xs = some r → ∃ avs, avs.length = xs.length ∧ (∀ p ∈ xs.zip avs, Opd get p.1 p.2) ∧ k avs = some r
  | [], k, h => ⟨[], rfl, by simp, h⟩
  | x :: xs, k, h => by
    simp only [getOs] at h
    obtain ⟨a, ha, h⟩ := getO_some h
    obtain ⟨l, hl, hz, h⟩ := getOs_some h
    refine ⟨a :: l, by simp [hl], ?_, h⟩
    intro p hp
    simp only [List.zip_cons_cons, List.mem_cons] at hp
    rcases hp with rfl | hp
    · exact ha
    · exact hz p hp
end

/-- The slots that an operation's operands name. -/
def tmpsOf (o : Oper) : List Nat := o.op.operands.toList.filterMap fun | .tmp t => some t | _ => none

/-- The slots hold what the abstract ones say. -/
def Agr (get : Nat → Option AV) (ρ : Nat → Nat) (a : Act) (o : Oper) : Prop := ∀ t ∈ tmpsOf o, ∀ av, get t = some av → a.tmps.getD t undef = conc ρ av

theorem mem_tmpsOf {o : Oper} {t : Nat} (h : .tmp t ∈ o.op.operands.toList) : t ∈ tmpsOf o := List.mem_filterMap.2 ⟨.tmp t, h, rfl⟩

theorem Agr.eval {get : Nat → Option AV} {ρ : Nat → Nat} {a : Act} {o : Oper} (hA : Agr get ρ a o) {x : Operand} {av : AV} (hx : x ∈ o.op.operands.toList) (h : Opd get x av) : a.eval x = conc ρ av := by
  cases x with
  | tmp t => exact hA t (mem_tmpsOf hx) av h
  | const c => obtain ⟨rfl, _⟩ := h; rfl
  | func f => cases h; rfl
  | global g => exact h.elim

/-- A block is as the abstract memory says. -/
def MAgr (mem : Nat → Option Bk) (ρ : Nat → Nat) (w : World) (l : Nat) : Prop :=
  ∀ bk, mem l = some bk → ∃ fr, w.heap[ρ l]? = some (.cells ⟨bk.b.cells⟩ bk.ty fr) ∧ (bk.own = true → fr = (0, 0))

def eLab : Eff → List Nat
  | .val _ a => lab a
  | _ => []

/-- The operation has this effect. -/
def EffOK (P : Program) (get : Nat → Option AV) (mem : Nat → Option Bk) (o : Oper) : Eff → Prop
  | .val ls av => ∀ ρ a w, WI w → Agr get ρ a o → (∀ l ∈ ls, MAgr mem ρ w l) → ∀ K Q, (∀ w', Below w.heap.size w w' → K (a.put o.dst (conc ρ av)) w') → o.wp P a w K Q
  | .wr l b => (∃ bk, mem l = some bk ∧ bk.own = true) ∧ ∀ ρ a w, Agr get ρ a o → MAgr mem ρ w l → ∀ K Q, K (a.put o.dst undef) (w.setRow (ρ l) ⟨b.cells⟩) → o.wp P a w K Q
  | .nw T b sl n => ∀ ρ a w, Agr get ρ a o → ∀ K Q,
      K (a.put o.dst (bif sl then .slice (some ⟨w.heap.size, 0, none⟩) n n else .pointer (some ⟨w.heap.size, 0, none⟩))) (w.alloc (.cells ⟨b.cells⟩ T)) → o.wp P a w K Q

def Eff.wf : Eff → Prop
  | .val _ a => a.wf
  | .wr _ b => ∀ c ∈ b.cells, wf0 c
  | .nw _ b _ n => (∀ c ∈ b.cells, wf0 c) ∧ n ≤ 9223372036854775807

/-- What the evaluation of an operation tells. -/
def Told (P : Program) (get : Nat → Option AV) (mem : Nat → Option Bk) (o : Oper) (e : Eff) : Prop :=
  EffOK P get mem o e ∧ e.wf ∧ ∀ l ∈ Eff.acc (some e) ++ eLab e, ∃ t ∈ tmpsOf o, ∃ av, get t = some av ∧ l ∈ lab av

/-- The types are as the table says. -/
structure TIok (P : Program) (t : TypeId) (i : TI) : Prop where
  und : match i.k with
    | .int k => P.underlying t = some (.int k)
    | .bool => P.underlying t = some .bool
    | .str => P.underlying t = some .string
    | .slice e => P.underlying t = some (.slice e)
    | .arr n e => P.underlying t = some (.array n e)
    | .struct fs => ∃ flds : Array Field, P.underlying t = some (.struct flds) ∧ flds.toList.map (fun f => (f.offset, f.type)) = fs ∧ ∀ f ∈ flds.toList, (P.info? f.type).isSome = true
    | .fn => ∃ d : Array TypeId × Array TypeId × Bool, P.underlying t = some (.func d.1 d.2.1 d.2.2)
    | .other => False
  inf : ∃ inf, P.info? t = some inf ∧ inf.size = i.size ∧ inf.bytes = i.bytes ∧ inf.zero = some (bif i.agg then .agg ⟨i.zero⟩ else (i.zero.headD undef))
  zl : i.zero.length = i.size
  z1 : i.agg = false → i.size = 1
  zw : ∀ c ∈ i.zero, wf0 c

/-- A call keeps what its contract says. -/
structure CTok (P : Program) (g : FuncId) (ct : CT) : Prop where
  enter : ∀ args w, (callFunc g args).run P w = .ok (.enter g args) w
  calls : ∀ (R : Type) args mem (k : Value → Option R) r, ct R args mem k = some r → (∀ a ∈ args, a.wf) → (∀ l bk, mem l = some bk → ∀ c ∈ bk.b.cells, wf0 c) →
    ∃ v, k v = some r ∧ wf2 v ∧ ∀ ρ w, WI w → (∀ a ∈ args, ∀ l ∈ lab a, MAgr mem ρ w l) →
      Calls P g (args.map (conc ρ)).toArray w fun e w' => e = .returned v ∧ Below w.heap.size w w'

structure CfgOk (P : Program) (cfg : Cfg) : Prop where
  T : ∀ t i, lk t cfg.T = some i → TIok P t i
  EQ : ∀ t ks, lk t cfg.EQ = some ks → P.eqGuardType P.depth t = false ∧ ∀ xs ys b, eqCells ks xs ys = some b → ∀ w, (Op.equal t (.agg ⟨xs⟩) (.agg ⟨ys⟩)).run P w = .ok b w
  C : ∀ g ct, lkC g cfg.C = some ct → CTok P g ct

end Go.Proofs.YtnfbcofieobkkaaDoor.Ev

/- The evaluator is sound, second part: memory and arithmetic of single operations. -/
namespace Go.Proofs.YtnfbcofieobkkaaDoor.Ev
open Go Go.RowKit
set_option linter.unusedVariables false
set_option linter.unusedSimpArgs false

section
variable {P : Program} {t : TypeId} {i : TI}

theorem TIok.size (H : TIok P t i) (w : World) : (sizeOf t).run P w = .ok i.size w := by
  obtain ⟨inf, h1, h2, _⟩ := H.inf
  simp [sizeOf, typeInfo, h1, h2]

theorem TIok.zeroV (H : TIok P t i) (w : World) : (zeroValue t).run P w = .ok (bif i.agg then .agg ⟨i.zero⟩ else (i.zero.headD undef)) w := by
  obtain ⟨inf, h1, _, _, h2⟩ := H.inf
  simp [zeroValue, typeInfo, h1, h2]

theorem TIok.bytesV (H : TIok P t i) (w : World) : ∃ inf, (typeInfo t).run P w = .ok inf w ∧ inf.bytes = i.bytes := by
  obtain ⟨inf, h1, _, h2, _⟩ := H.inf
  exact ⟨inf, by simp [typeInfo, h1], h2⟩

theorem TIok.isagg (H : TIok P t i) (w : World) : (isAgg t).run P w = .ok i.agg w := by
  have h := H.und
  unfold TI.agg
  cases hk : i.k with
  | arr n e => simp only [hk] at h ⊢; simp [isAgg, run_underlying h]
  | struct fs => simp only [hk] at h ⊢; obtain ⟨f, h, _⟩ := h; simp [isAgg, run_underlying h]
  | int k => simp only [hk] at h ⊢; simp [isAgg, run_underlying h]
  | bool => simp only [hk] at h ⊢; simp [isAgg, run_underlying h]
  | str => simp only [hk] at h ⊢; simp [isAgg, run_underlying h]
  | slice e => simp only [hk] at h ⊢; simp [isAgg, run_underlying h]
  | fn => simp only [hk] at h ⊢; obtain ⟨f, h⟩ := h; simp [isAgg, run_underlying h]
  | other => simp only [hk] at h
end

theorem getV_some {R : Type} {r : R} {k : Value → Option R} : ∀ {cs : List Value} {i : Nat}, getV i k cs = some r → ∃ y, cs[i]? = some y ∧ k y = some r
  | [], i, h => by simp [getV] at h
  | x :: xs, 0, h => ⟨x, rfl, h⟩
  | x :: xs, j + 1, h => by
    simp only [getV] at h
    obtain ⟨y, hy, h⟩ := getV_some h
    exact ⟨y, by simpa using hy, h⟩

theorem rng_map (off n : Nat) : rng off n = (List.range n).map (off + ·) := by
  induction n generalizing off with
  | zero => rfl
  | succ n ih =>
    rw [rng, ih, List.range_succ_eq_map, List.map_cons, List.map_map]
    simp only [Nat.add_zero, List.cons.injEq, true_and]
    apply List.map_congr_left
    intro j _
    simp; omega

theorem cell_at {w : World} {g : Nat} {cs : List Value} {ty : TypeId} {fr : Nat × Nat} (h : w.heap[g]? = some (.cells ⟨cs⟩ ty fr)) (j : Nat) : w.cell? ⟨g, j, none⟩ = cs[j]? := by
  simp [World.cell?, h]

theorem addr_add (g o j : Nat) : (⟨g, o, none⟩ : Addr).add j = ⟨g, o + j, none⟩ := by
  unfold Addr.add
  split <;> simp_all

theorem getI_eq : ∀ (l : List Int) (i : Nat), getI i l = l.getD i 0
  | [], i => by simp [getI]
  | x :: xs, 0 => rfl
  | x :: xs, j + 1 => by
    simp only [getI]
    rw [getI_eq xs j]
    simp [List.getD]

theorem Blk.get_some {R : Type} {r : R} {k : Value → Option R} {b : Blk} {ti : TI} {off : Nat} (h : b.get ti off k = some r) (hw : ∀ c ∈ b.cells, wf0 c) :
    ∃ y, k y = some r ∧ wf1 y ∧ ((ti.agg = true ∧ off + ti.size ≤ b.cells.length ∧ y = .agg ⟨(b.cells.drop off).take ti.size⟩) ∨ (ti.agg = false ∧ b.cells[off]? = some y)) := by
  cases b with
  | lit cs =>
    simp only [Blk.get, Blk.cells] at h hw ⊢
    cases ha : ti.agg with
    | true =>
      simp only [ha, cond_true, nble] at h
      by_cases hb : off + ti.size ≤ cs.length
      · simp only [hb, decide_true, cond_true] at h
        exact ⟨_, h, fun c hc => hw c (List.mem_of_mem_drop (List.mem_of_mem_take hc)), .inl ⟨rfl, hb, rfl⟩⟩
      · simp [hb] at h
    | false =>
      simp only [ha, cond_false] at h
      obtain ⟨y, hy, h⟩ := getV_some h
      exact ⟨y, h, wf1_of_wf0 (hw y (List.mem_of_getElem? hy)), .inr ⟨rfl, hy⟩⟩
  | ints kk l =>
    simp only [Blk.get, Blk.cells, getI_eq] at h hw ⊢
    cases ha : ti.agg with
    | true =>
      simp only [ha, cond_true, nble] at h
      by_cases hb : off + ti.size ≤ l.length
      · simp only [hb, decide_true, cond_true] at h
        have e : (rng off ti.size).map (fun j => Value.int kk (l.getD j 0)) = ((l.map (Value.int kk)).drop off).take ti.size := by
          rw [rng_map]
          apply List.ext_getElem?
          intro j
          simp only [List.getElem?_map, List.getElem?_take, List.getElem?_drop, List.getElem?_range]
          by_cases hj : j < ti.size
          · have : off + j < l.length := by omega
            simp [hj, List.getElem?_eq_getElem this, List.getD]
          · simp [hj]
        rw [e] at h
        exact ⟨_, h, fun c hc => hw c (List.mem_of_mem_drop (List.mem_of_mem_take hc)), .inl ⟨rfl, by simpa using hb, rfl⟩⟩
      · simp [hb] at h
    | false =>
      simp only [ha, cond_false, nblt] at h
      by_cases hb : off < l.length
      · simp only [hb, decide_true, cond_true] at h
        have hy : (l.map (Value.int kk))[off]? = some (.int kk (l.getD off 0)) := by simp [List.getElem?_eq_getElem hb, List.getD]
        exact ⟨_, h, wf1_of_wf0 (hw _ (List.mem_of_getElem? hy)), .inr ⟨rfl, hy⟩⟩
      · simp [hb] at h

theorem run_get {P : Program} {t : TypeId} {ti : TI} (H : TIok P t ti) {w : World} {g off : Nat} {cs : List Value} {ty : TypeId} {fr : Nat × Nat} (hg : w.heap[g]? = some (.cells ⟨cs⟩ ty fr)) {y : Value}
    (hy : (ti.agg = true ∧ off + ti.size ≤ cs.length ∧ y = .agg ⟨(cs.drop off).take ti.size⟩) ∨ (ti.agg = false ∧ cs[off]? = some y)) : (loadVar t ⟨g, off, none⟩).run P w = .ok y w := by
  rcases hy with ⟨ha, hb, rfl⟩ | ⟨ha, hy⟩
  · have hl := run_loadCells_list (P := P) w ⟨g, off, none⟩ ((cs.drop off).take ti.size) (fun j v hv => by
      rw [addr_add, cell_at hg]
      simp only [List.getElem?_take, List.getElem?_drop] at hv
      split at hv
      · exact hv
      · cases hv)
    have e : ((cs.drop off).take ti.size).length = ti.size := by simp; omega
    rw [e] at hl
    simp [loadVar, H.isagg, ha, H.size, hl]
  · simp [loadVar, H.isagg, ha, cell_at hg, hy]

theorem toInts_some {kk : IntKind} : ∀ {cs : List Value} {l : List Int}, toInts kk cs = some l → cs = l.map (Value.int kk)
  | [], l, h => by simp [toInts] at h; subst h; rfl
  | c :: cs, l, h => by
    cases c <;> simp only [toInts] at h <;> try cases h
    rename_i k x
    split at h
    · rename_i l' hk hl
      have hk : k = kk := by simpa using hk
      subst hk
      simp only [Option.some.injEq] at h
      subst h
      rw [toInts_some hl]
      rfl
    · cases h

theorem Blk.of_cells (cs : List Value) : (Blk.of cs).cells = cs := by
  unfold Blk.of
  split
  · split
    · rename_i l h; exact (toInts_some h).symm
    · rfl
  · rfl

theorem setL_eq : ∀ (l : List Int) (j i : Nat) (v : Int), setL j i v l = if j ≤ i then l.set (i - j) v else l
  | [], j, i, v => by simp [setL]
  | x :: xs, j, i, v => by
    simp only [setL, nbeq, setL_eq xs (j + 1) i v]
    by_cases h : i = j
    · subst h
      have : ¬ i + 1 ≤ i := by omega
      simp [this]
    · by_cases h2 : j ≤ i
      · have e : i - j = (i - (j + 1)) + 1 := by omega
        have h3 : j + 1 ≤ i := by omega
        simp [h, h2, h3, e]
      · have h3 : ¬ j + 1 ≤ i := by omega
        simp [h, h2, h3]

theorem ovw_cons (off : Nat) (v : Value) (vs cs : List Value) (h : off < cs.length) : ovw off (v :: vs) cs = ovw (off + 1) vs (cs.set off v) := by
  unfold ovw
  apply List.ext_getElem?
  intro j
  simp only [List.getElem?_append, List.length_take, List.getElem?_take, List.length_cons, List.getElem?_cons, List.getElem?_drop, List.getElem?_set, List.length_set]
  by_cases h1 : j < off
  · have a : j < min off cs.length := by omega
    have b : j < min (off + 1) cs.length := by omega
    have c : j < off + 1 := by omega
    have d : ¬ off = j := by omega
    simp [a, b, c, d, h1]
  · by_cases h2 : j = off
    · subst h2
      have a : min j cs.length = j := by omega
      have b : j < min (j + 1) cs.length := by omega
      simp [a, b, h]
    · have a : ¬ j < min off cs.length := by omega
      have b : ¬ j < min (off + 1) cs.length := by omega
      have c : min off cs.length = off := by omega
      have d : min (off + 1) cs.length = off + 1 := by omega
      have e : j - off = (j - (off + 1)) + 1 := by omega
      have f : ¬ j < off + 1 := by omega
      simp only [c, d, e]
      by_cases h3 : j - (off + 1) < vs.length
      · simp [h3, h1, f]
      · have h5 : off + (vs.length + 1) + (j - (off + 1) + 1 - (vs.length + 1)) = off + 1 + vs.length + (j - (off + 1) - vs.length) := by omega
        have h6 : ¬ off = off + 1 + vs.length + (j - (off + 1) - vs.length) := by omega
        simp [h3, h6, h1, f]; rw [show off + (vs.length + 1) = off + 1 + vs.length from by omega]

theorem ovwI_cells (kk : IntKind) : ∀ (xs : List Int) (off : Nat) (l : List Int), off + xs.length ≤ l.length → (ovwI off xs l).map (Value.int kk) = ovw off (xs.map (Value.int kk)) (l.map (Value.int kk))
  | [], off, l, _ => by simp [ovwI, ovw]
  | x :: xs, off, l, h => by
    simp only [List.length_cons] at h
    rw [ovwI, List.map_cons, ovw_cons _ _ _ _ (by simp; omega), setL_eq, ovwI_cells kk xs (off + 1) _ (by simp; omega)]
    simp [List.map_set]

theorem oneB_eq (v : Value) : oneB v = v.oneCell' := by cases v <;> rfl

theorem Blk.put_some {R : Type} {r : R} {k : Blk → Option R} {b : Blk} {off : Nat} {vs : List Value} (h : b.put off vs k = some r) :
    ∃ b', k b' = some r ∧ off + vs.length ≤ b.cells.length ∧ (∀ v ∈ vs, v.oneCell' = true) ∧ b'.cells = ovw off vs b.cells := by
  cases b with
  | lit cs =>
    simp only [Blk.put, Blk.cells, nble] at h ⊢
    by_cases hb : off + vs.length ≤ cs.length ∧ vs.all oneB = true
    · obtain ⟨h1, h2⟩ := hb
      simp only [h1, h2, decide_true, Bool.and_true, cond_true] at h
      exact ⟨_, h, h1, fun v hv => by rw [← oneB_eq]; exact List.all_eq_true.1 h2 v hv, rfl⟩
    · have : (decide (off + vs.length ≤ cs.length) && vs.all oneB) = false := by
        rw [Bool.eq_false_iff]; intro e; simp only [Bool.and_eq_true, decide_eq_true_eq] at e; exact hb e
      rw [this] at h; simp at h
  | ints kk l =>
    simp only [Blk.put, Blk.cells, nble] at h ⊢
    split at h
    · cases h
    · rename_i xs hx
      have e := toInts_some hx
      by_cases hb : off + xs.length ≤ l.length
      · simp only [hb, decide_true, cond_true] at h
        by_cases hf : (decide (2 ≤ xs.length) && (Nat.beq off 0 && Nat.beq xs.length l.length)) = true
        · rw [hf, cond_true] at h
          simp only [Bool.and_eq_true, nbeq, decide_eq_true_eq] at hf
          obtain ⟨_, rfl, hl⟩ := hf
          refine ⟨_, h, by subst e; simpa using hb, ?_, ?_⟩
          · intro v hv; subst e; obtain ⟨x, _, rfl⟩ := List.mem_map.1 hv; rfl
          · subst e
            have : (l.map (Value.int kk)).drop xs.length = [] := List.drop_eq_nil_of_le (by simp [hl])
            simp [Blk.cells, ovw, this]
        · have hf' : (decide (2 ≤ xs.length) && (Nat.beq off 0 && Nat.beq xs.length l.length)) = false := by rw [Bool.eq_false_iff]; exact hf
          rw [hf', cond_false] at h
          refine ⟨_, h, by subst e; simpa using hb, ?_, ?_⟩
          · intro v hv; subst e; obtain ⟨x, _, rfl⟩ := List.mem_map.1 hv; rfl
          · subst e; exact ovwI_cells kk xs off l hb
      · simp [hb] at h

theorem cellsV_eq (v : Value) : v.cells.toList = cellsV v := by cases v <;> rfl

theorem cellsV_wf {v : Value} (h : wf2 v) (h1 : (cellsV v).all oneB = true) : ∀ c ∈ cellsV v, wf0 c := by
  cases v <;> intro c hc <;> simp only [cellsV, List.mem_singleton] at hc <;> first | (subst hc; exact h) | skip
  · exact h c hc
  · subst hc; simp [cellsV, oneB] at h1

theorem mem_ovw {off : Nat} {vs cs : List Value} {c : Value} (h : c ∈ ovw off vs cs) : c ∈ vs ∨ c ∈ cs := by
  unfold ovw at h
  rcases List.mem_append.1 h with h | h
  · exact .inr (List.mem_of_mem_take h)
  · rcases List.mem_append.1 h with h | h
    · exact .inl h
    · exact .inr (List.mem_of_mem_drop h)

theorem run_put {P : Program} {t : TypeId} {ti : TI} (H : TIok P t ti) {w : World} {g off : Nat} {cs : List Value} {ty : TypeId} (hg : w.heap[g]? = some (.cells ⟨cs⟩ ty (0, 0))) {y : Value}
    (hs : (cellsV y).length = ti.size) (hl : off + (cellsV y).length ≤ cs.length) (h1 : ∀ v ∈ cellsV y, v.oneCell' = true) :
    (storeVar t ⟨g, off, none⟩ y).run P w = .ok () (w.setRow g ⟨ovw off (cellsV y) cs⟩) := by
  have hst := run_storeCells_at (P := P) g off ty (cellsV y) 0 ⟨cs⟩ w hg (by simpa using hl) h1
  have e : y.cells.size = ti.size := by rw [← hs, ← cellsV_eq, Array.length_toList]
  simp only [storeVar, Sem.run_bind, H.size, Result.andThen_ok, e, ne_eq, not_true_eq_false, if_false, cellsV_eq]
  simp only [Nat.add_zero] at hst
  simpa [ovw, List.append_assoc] using hst

theorem bits_le (k : IntKind) : (k.bits = 8 ∨ k.bits = 16 ∨ k.bits = 32 ∨ k.bits = 64) := by cases k <;> simp [IntKind.bits]

theorem wf_shr (k : IntKind) (x y : Int) (h : wf0 (.int k x)) : wf0 (.int k (shrI k x y)) := by
  simp only [wf0, shrI] at h ⊢
  have hp : (0 : Int) < 2 ^ min y.toNat k.bits := Int.pow_pos (by decide)
  generalize (2 : Int) ^ min y.toNat k.bits = p at hp
  have hd : x.fdiv p = x / p := Int.fdiv_eq_ediv_of_nonneg x (by omega)
  rw [hd]
  obtain ⟨h1, h2⟩ := h
  have hmin : k.min ≤ 0 := by cases k <;> simp [IntKind.min, IntKind.bits, IntKind.signed]
  have hmax : 0 ≤ k.max := by cases k <;> simp [IntKind.max, IntKind.bits, IntKind.signed]
  rcases Int.lt_or_le x 0 with hx | hx
  · have a : x ≤ x / p := by
      rw [Int.le_ediv_iff_mul_le hp]
      have : x * p ≤ x * 1 := Int.mul_le_mul_of_nonpos_left (by omega) (by omega)
      omega
    have b : x / p < 0 := Int.ediv_neg_of_neg_of_pos hx hp
    omega
  · have a : 0 ≤ x / p := Int.ediv_nonneg hx (by omega)
    have b : x / p ≤ x := Int.ediv_le_self p hx
    omega

theorem emod_le_self {a : Int} (h : 0 ≤ a) (b : Int) : a % b ≤ a := by
  obtain ⟨n, rfl⟩ := Int.eq_ofNat_of_zero_le h
  rcases Int.lt_or_le b 0 with hb | hb
  · obtain ⟨m, hm⟩ := Int.eq_ofNat_of_zero_le (a := -b) (by omega)
    rw [← Int.emod_neg, hm, ← Int.natCast_emod]
    exact Int.ofNat_le.2 (Nat.mod_le n m)
  · obtain ⟨m, rfl⟩ := Int.eq_ofNat_of_zero_le hb
    rw [← Int.natCast_emod]
    exact Int.ofNat_le.2 (Nat.mod_le n m)

theorem wf_tmod (k : IntKind) (x y : Int) (h : wf0 (.int k x)) : wf0 (.int k (x.tmod y)) := by
  simp only [wf0] at h ⊢
  have hmin : k.min ≤ 0 := by cases k <;> simp [IntKind.min, IntKind.bits, IntKind.signed]
  have hmax : 0 ≤ k.max := by cases k <;> simp [IntKind.max, IntKind.bits, IntKind.signed]
  rcases Int.lt_or_le x 0 with hx | hx
  · have e : x.tmod y = -((-x).tmod y) := by rw [Int.neg_tmod]; omega
    have a : 0 ≤ (-x).tmod y := Int.tmod_nonneg y (by omega)
    have b : (-x).tmod y ≤ -x := by
      have := Int.tmod_eq_emod_of_nonneg (a := -x) (by omega : 0 ≤ -x) (b := y)
      rw [this]
      exact emod_le_self (by omega) y
    omega
  · have a : 0 ≤ x.tmod y := Int.tmod_nonneg y hx
    have b : x.tmod y ≤ x := by
      have := Int.tmod_eq_emod_of_nonneg hx (b := y)
      rw [this]
      exact emod_le_self hx y
    omega

end Go.Proofs.YtnfbcofieobkkaaDoor.Ev

/- The evaluator is sound, third part: every single operation. -/
namespace Go.Proofs.YtnfbcofieobkkaaDoor.Ev
open Go Go.RowKit
set_option linter.unusedVariables false
set_option linter.unusedSimpArgs false

section
variable {P : Program} {cfg : Cfg} {get : Nat → Option AV} {mem : Nat → Option Bk} {R : Type} {r : R}

theorem opd_wf {x : Operand} {av : AV} (hget : ∀ t av, get t = some av → av.wf) (h : Opd get x av) : av.wf := by
  cases x with
  | tmp t => exact hget t av h
  | const c => obtain ⟨rfl, h⟩ := h; exact wf2_of_wf0 h
  | func f => cases h; trivial
  | global g => exact h.elim

theorem opd_lab {x : Operand} {av : AV} {o : Oper} (hx : x ∈ o.op.operands.toList) (h : Opd get x av) : ∀ l ∈ lab av, ∃ t ∈ tmpsOf o, ∃ av, get t = some av ∧ l ∈ lab av := by
  intro l hl
  cases x with
  | tmp t => exact ⟨t, mem_tmpsOf hx, av, h, hl⟩
  | const c => obtain ⟨rfl, _⟩ := h; simp [lab] at hl
  | func f => cases h; simp [lab] at hl
  | global g => exact h.elim

theorem wp_of_run {o : Oper} {a : Act} {w w' : World} {v : Value} {K : Act → World → Prop} {Q : Exit → Act → World → Prop} (h : (execOp a.eval o).run P w = .ok (.value v) w') (hK : K (a.put o.dst v) w') : o.wp P a w K Q := by
  unfold Oper.wp; rw [h]; exact hK

theorem told_av {o : Oper} {ls : List Nat} {av : AV} (hw : av.wf) (hl : ∀ l ∈ ls ++ lab av, ∃ t ∈ tmpsOf o, ∃ av, get t = some av ∧ l ∈ lab av)
    (hrun : ∀ ρ a w, Agr get ρ a o → (∀ l ∈ ls, MAgr mem ρ w l) → (execOp a.eval o).run P w = .ok (.value (conc ρ av)) w) : Told P get mem o (.val ls av) :=
  ⟨fun ρ a w _ hA hM _ _ hK => wp_of_run (hrun ρ a w hA hM) (hK w (Below.refl _ _)), hw, by simpa [Eff.acc, eLab] using hl⟩

theorem told_v {o : Oper} {x : Value} (hw : wf2 x) (hrun : ∀ ρ a w, Agr get ρ a o → (execOp a.eval o).run P w = .ok (.value x) w) : Told P get mem o (.val [] (.v x)) :=
  told_av hw (by simp [lab]) fun ρ a w hA _ => hrun ρ a w hA

theorem told_nw {o : Oper} {T : TypeId} {b : Blk} {sl : Bool} {n : Nat} (hw : ∀ c ∈ b.cells, wf0 c) (hn : n ≤ 9223372036854775807)
    (hrun : ∀ ρ a w, Agr get ρ a o → (execOp a.eval o).run P w =
      .ok (.value (bif sl then .slice (some ⟨w.heap.size, 0, none⟩) n n else .pointer (some ⟨w.heap.size, 0, none⟩))) (w.alloc (.cells ⟨b.cells⟩ T))) : Told P get mem o (.nw T b sl n) :=
  ⟨fun ρ a w hA _ _ hK => wp_of_run (hrun ρ a w hA) hK, ⟨hw, hn⟩, by simp [Eff.acc, eLab]⟩

theorem nthL_eq {α : Type} : ∀ (l : List α) (i : Nat), nthL i l = l[i]?
  | [], i => by simp [nthL]
  | x :: xs, 0 => rfl
  | x :: xs, j + 1 => by simp [nthL, nthL_eq xs j]

theorem bif_some {c : Bool} {x : Option R} (h : (bif c then x else none) = some r) : c = true ∧ x = some r := by
  cases c <;> simp at h; exact ⟨rfl, h⟩

theorem bif_none {c : Bool} {x : Option R} (h : (bif c then none else x) = some r) : c = false ∧ x = some r := by
  cases c <;> simp at h; exact ⟨rfl, h⟩

theorem wf_bit {k : IntKind} {n : Nat} : wf2 (.int k (k.wrap n)) := wf2_of_wf0 (wf_wrap k n)

theorem ne_dec {x y : Int} (b : Bool) : (!(x == y)) = b → (x != y) = b := fun h => h

theorem run_eqB {T : TypeId} {x y : Bool} {w : World} (hu : P.underlying T = some .bool) : (Op.equal T (.bool x) (.bool y)).run P w = .ok (x == y) w :=
  run_equalIn_bool' (P := P) w 9999 T x y hu

theorem not_neg {ky : IntKind} {y : Int} (hb : wf2 (.int ky y)) (h : (ky.signed && decide (y < 0)) = false) : ¬ y < 0 := by
  have h2 : ky.min ≤ y := hb.1
  cases ky <;> simp [IntKind.signed, IntKind.min] at h h2 <;> omega

/-- Arithmetic and comparisons. -/
theorem evBin_some (H : CfgOk P cfg) {op : BinOp} {T : TypeId} {a b : Value} {k : Value → Option R} (h : evBin cfg op T a b k = some r) (ha : wf2 a) (hb : wf2 b) :
    ∃ c, k c = some r ∧ wf2 c ∧ ∀ (x y : Operand) (w : World), (do eqGuard op T x y a b; binOp op T a b : Sem Value).run P w = .ok c w := by
  cases a with
  | int kx x =>
    cases b with
    | int ky y =>
      cases op <;> simp only [evBin] at h <;> first | (cases h; done) | skip
      case shl =>
        obtain ⟨h1, h⟩ := bif_none h
        have hy : ¬ y < 0 := not_neg hb h1
        exact ⟨_, h, wf2_of_wf0 (wf_wrap _ _), fun _ _ w => by simp [eqGuard, binOp, Op.shift, hy, shlI]⟩
      case shr =>
        obtain ⟨h1, h⟩ := bif_none h
        have hy : ¬ y < 0 := not_neg hb h1
        exact ⟨_, h, wf2_of_wf0 (wf_shr kx x y ha), fun _ _ w => by simp [eqGuard, binOp, Op.shift, hy, shrI]⟩
      case quo =>
        obtain ⟨h0, h⟩ := bif_some h
        obtain ⟨h1, h⟩ := bif_none h
        have h0 : kx = ky := by simpa using h0
        have hy : ¬ y = 0 := by simpa using h1
        exact ⟨_, h, wf2_of_wf0 (wf_wrap _ _), fun _ _ w => by simp [eqGuard, binOp, Op.intDiv, hy, h0]⟩
      case rem =>
        obtain ⟨h0, h⟩ := bif_some h
        obtain ⟨h1, h⟩ := bif_none h
        have h0 : kx = ky := by simpa using h0
        have hy : ¬ y = 0 := by simpa using h1
        exact ⟨_, h, wf2_of_wf0 (wf_tmod kx x y ha), fun _ _ w => by simp [eqGuard, binOp, Op.intDiv, hy, h0]⟩
      all_goals
        obtain ⟨h0, h2⟩ := bif_some h
        have h3 : kx = ky := by simpa using h0
        clear h h0
        subst h3
        first
        | exact ⟨_, h2, wf2_of_wf0 (wf_wrap _ _), fun _ _ w => by simp [eqGuard, binOp, Op.intArith, Op.intBits, andI, orI, xorI]⟩
        | exact ⟨_, h2, trivial, fun _ _ w => by simp [eqGuard, binOp, Op.intCmp, bne]⟩
    | _ => simp [evBin] at h
  | bool x =>
    cases b with
    | bool y =>
      simp only [evBin] at h
      split at h
      · rename_i i _ _ _ hT
        have hu := (H.T _ _ hT).und
        simp only at hu
        exact ⟨_, h, trivial, fun _ _ w => by simp [eqGuard, binOp, run_eqB hu]⟩
      · rename_i i _ _ _ hT
        have hu := (H.T _ _ hT).und
        simp only at hu
        exact ⟨_, h, trivial, fun _ _ w => by simp [eqGuard, binOp, run_eqB hu]⟩
      · cases h
    | _ => simp [evBin] at h
  | string x =>
    cases b with
    | string y =>
      cases op <;> simp only [evBin] at h <;> first
        | (cases h; done)
        | exact ⟨_, h, trivial, fun _ _ w => by simp [eqGuard, binOp, Op.stringOp, strEq, strLt]⟩
    | _ => simp [evBin] at h
  | agg xs =>
    cases b with
    | agg ys =>
      simp only [evBin] at h
      split at h
      · rename_i ks hks
        obtain ⟨hg, he⟩ := H.EQ _ _ hks
        split at h
        · rename_i b op hb
          have := he _ _ _ hb
          exact ⟨_, h, trivial, fun x y w => by
            have e := this w
            have g := run_eqGuard_agg (P := P) w .eql T x y ⟨xs.toList⟩ ⟨ys.toList⟩ hg
            simp only [Array.toArray_toList] at e g
            simp [g, binOp, e]⟩
        · rename_i b op hb
          have := he _ _ _ hb
          exact ⟨_, h, trivial, fun x y w => by
            have e := this w
            have g := run_eqGuard_agg (P := P) w .neq T x y ⟨xs.toList⟩ ⟨ys.toList⟩ hg
            simp only [Array.toArray_toList] at e g
            simp [g, binOp, e]⟩
        · cases h
      · cases h
    | _ => simp [evBin] at h
  | _ => simp [evBin] at h

/-- The parts of a composite, as the model fills them. -/
theorem fill_parts {place : Nat → Option (Nat × Nat)} : ∀ (l : List (Nat × AV)) (cs out : List Value), parts place l cs = some out →
    ∃ xs : List Value, l.map (·.2) = xs.map AV.v ∧ Instr.fill place ⟨cs⟩ ((l.map (·.1)).zip xs) = some ⟨out⟩ ∧ out.length = cs.length ∧ (∀ c ∈ out, c ∈ cs ∨ ∃ x ∈ xs, c ∈ cellsV x ∧ (cellsV x).all oneB = true)
  | [], cs, out, h => by
    simp only [parts, Option.some.injEq] at h
    subst h
    exact ⟨[], rfl, rfl, rfl, fun c hc => .inl hc⟩
  | (i, .v x) :: r, cs, out, h => by
    simp only [parts] at h
    split at h
    · rename_i off size hp
      obtain ⟨hb, h⟩ := bif_some h
      simp only [nbeq, nble, Bool.and_eq_true, decide_eq_true_eq] at hb
      obtain ⟨⟨h1, h2⟩, h0⟩ := hb
      obtain ⟨xs, e1, e2, e3, e4⟩ := fill_parts r _ _ h
      have hlen : (ovw off (cellsV x) cs).length = cs.length := by simp [ovw]; omega
      have hfold : x.cells.zipIdx.foldl (fun cs (c, j) => cs.setIfInBounds (off + j) c) (⟨cs⟩ : Array Value) = ⟨ovw off (cellsV x) cs⟩ := by
        rw [← Array.foldl_toList, Array.toList_zipIdx, cellsV_eq]
        have gen : ∀ (vs : List Value) (j : Nat) (cs : List Value), off + j + vs.length ≤ cs.length →
            (vs.zipIdx j).foldl (fun (cs : Array Value) (p : Value × Nat) => cs.setIfInBounds (off + p.2) p.1) (⟨cs⟩ : Array Value) = ⟨ovw (off + j) vs cs⟩ := by
          intro vs
          induction vs with
          | nil => intro j cs _; simp [ovw]
          | cons v vs ih =>
            intro j cs hj
            simp only [List.length_cons] at hj
            rw [List.zipIdx_cons, List.foldl_cons, ovw_cons _ _ _ _ (by omega)]
            have := ih (j + 1) (cs.set (off + j) v) (by simp; omega)
            simpa [Nat.add_assoc] using this
        exact gen (cellsV x) 0 cs (by omega)
      refine ⟨x :: xs, by simp [e1], ?_, by rw [e3, hlen], ?_⟩
      · have hsz : x.cells.size = size := by rw [← Array.length_toList, cellsV_eq, h1]
        have hle : ¬ (off + x.cells.size > (⟨cs⟩ : Array Value).size) := by simp [hsz]; omega
        simp only [List.map_cons, List.zip_cons_cons, Instr.fill, hp]
        rw [if_neg (by simp [hsz]; omega), hfold]
        exact e2
      · intro c hc
        rcases e4 c hc with h | ⟨y, hy, h⟩
        · rcases mem_ovw h with h | h
          · exact .inr ⟨x, by simp, h, h0⟩
          · exact .inl h
        · exact .inr ⟨y, by simp [hy], h⟩
    · cases h
  | (i, .p _ _) :: r, cs, out, h => by simp [parts] at h
  | (i, .s _ _ _ _) :: r, cs, out, h => by simp [parts] at h

end
end Go.Proofs.YtnfbcofieobkkaaDoor.Ev

/- The evaluator is sound, fourth part: the evaluation of an operation tells its effect. -/
namespace Go.Proofs.YtnfbcofieobkkaaDoor.Ev
open Go Go.RowKit
set_option linter.unusedVariables false
set_option linter.unusedSimpArgs false

section
variable {P : Program} {cfg : Cfg} {get : Nat → Option AV} {mem : Nat → Option Bk} {R : Type} {r : R}

def GW (get : Nat → Option AV) : Prop := ∀ t av, get t = some av → av.wf
def MW (mem : Nat → Option Bk) : Prop := ∀ l bk, mem l = some bk → ∀ c ∈ bk.b.cells, wf0 c

theorem ev_move {o : Oper} {x : Operand} (ho : o.op = .move x ∨ o.op = .assign x) {k : Eff → Option R} (h : (getO get x fun a => k (.val [] a)) = some r) (hg : GW get) : ∃ e, k e = some r ∧ Told P get mem o e := by
  obtain ⟨av, ha, h⟩ := getO_some h
  have hx : x ∈ o.op.operands.toList := by rcases ho with ho | ho <;> simp [ho, Op.operands]
  refine ⟨_, h, told_av (opd_wf hg ha) (by simpa using opd_lab hx ha) fun ρ a w hA _ => ?_⟩
  rcases ho with ho | ho <;> simp [execOp, ho, hA.eval hx ha]

theorem ev_pick {o : Oper} {c a b : Operand} (ho : o.op = .pick c a b) {k : Eff → Option R} (h : evOp cfg get mem o k = some r) (hg : GW get) : ∃ e, k e = some r ∧ Told P get mem o e := by
  simp only [evOp, ho] at h
  obtain ⟨av, hc, h⟩ := getO_some h
  split at h
  · rename_i t
    have hxc : c ∈ o.op.operands.toList := by simp [ho, Op.operands]
    cases t with
    | true =>
      simp only [cond_true] at h
      obtain ⟨av, ha, h⟩ := getO_some h
      have hx : a ∈ o.op.operands.toList := by simp [ho, Op.operands]
      refine ⟨_, h, told_av (opd_wf hg ha) (by simpa using opd_lab hx ha) fun ρ a w hA _ => ?_⟩
      simp [execOp, ho, hA.eval hx ha, hA.eval hxc hc, conc, asBool]
    | false =>
      simp only [cond_false] at h
      obtain ⟨av, ha, h⟩ := getO_some h
      have hx : b ∈ o.op.operands.toList := by simp [ho, Op.operands]
      refine ⟨_, h, told_av (opd_wf hg ha) (by simpa using opd_lab hx ha) fun ρ a w hA _ => ?_⟩
      simp [execOp, ho, hA.eval hx ha, hA.eval hxc hc, conc, asBool]
  · cases h

theorem ev_alloc (H : CfgOk P cfg) {o : Oper} {T : TypeId} (ho : o.op = .alloc T) {k : Eff → Option R} (h : evOp cfg get mem o k = some r) : ∃ e, k e = some r ∧ Told P get mem o e := by
  simp only [evOp, ho] at h
  split at h
  · rename_i ti hT
    have hok := H.T _ _ hT
    refine ⟨_, h, told_nw (by rw [Blk.of_cells]; exact hok.zw) (by omega) fun ρ a w _ => ?_⟩
    have hz : (bif ti.agg then Value.agg ⟨ti.zero⟩ else ti.zero.headD undef).cells = ⟨ti.zero⟩ := by
      cases ha : ti.agg with
      | true => rfl
      | false =>
        have h1 := hok.z1 ha
        have h2 := hok.zl
        have h3 := hok.zw
        match hz : ti.zero with
        | [] => simp [hz] at h2; omega
        | [c] =>
          have := h3 c (by simp [hz])
          cases c <;> first | rfl | exact this.elim
        | _ :: _ :: _ => simp [hz] at h2; omega
    simp only [List.headD_eq_head?_getD] at hz
    simp [execOp, ho, Instr.alloc, hok.zeroV, newVar, newRow, hz, Blk.of_cells]
  · cases h

theorem ev_box {o : Oper} {T : TypeId} {x : Operand} (ho : o.op = .box T x) {k : Eff → Option R} (h : evOp cfg get mem o k = some r) (hg : GW get) : ∃ e, k e = some r ∧ Told P get mem o e := by
  simp only [evOp, ho] at h
  obtain ⟨av, hx, h⟩ := getO_some h
  split at h
  · rename_i y
    obtain ⟨h1, h⟩ := bif_some h
    have hm : x ∈ o.op.operands.toList := by simp [ho, Op.operands]
    have hw := cellsV_wf (opd_wf hg hx) h1
    refine ⟨_, h, told_nw (by rw [Blk.of_cells]; exact hw) (by omega) fun ρ a w hA => ?_⟩
    have e : y.cells = ⟨cellsV y⟩ := by rw [← cellsV_eq]
    simp [execOp, ho, Instr.box, hA.eval hm hx, conc, newVar, newRow, e, Blk.of_cells]
  · cases h

theorem zip_vals {ps : List (Nat × Operand)} {avs : List AV} (hl : avs.length = ps.length) {xs : List Value} (hx : ((ps.map (·.1)).zip avs).map (·.2) = xs.map AV.v) : avs = xs.map AV.v := by
  have e1 : ((ps.map (·.1)).zip avs).map (·.2) = avs := by
    rw [← List.unzip_snd, List.unzip_zip (by simp [hl])]
  rw [e1] at hx
  exact hx

theorem zip_evals {ρ : Nat → Nat} {a : Act} {o : Oper} (hA : Agr get ρ a o) : ∀ {ps : List (Nat × Operand)} {xs : List Value}, (∀ p ∈ ps, p.2 ∈ o.op.operands.toList) → (∀ p ∈ (ps.map (·.2)).zip (xs.map AV.v), Opd get p.1 p.2) →
    xs.length = ps.length → ps.map (fun p => (p.1, a.eval p.2)) = (((ps.map (·.1)).zip (xs.map AV.v)).map (·.1)).zip xs
  | [], xs, _, _, _ => by simp
  | p :: ps, [], _, _, hl => by simp at hl
  | p :: ps, x :: xs, hp, hz, hl => by
    have ih := zip_evals hA (ps := ps) (xs := xs) (fun p hp' => hp p (by simp [hp'])) (fun q hq => hz q (by simp [hq])) (by simpa using hl)
    have e := hA.eval (hp p (by simp)) (hz (p.2, .v x) (by simp))
    simp only [conc] at e
    simp only [List.map_cons, List.zip_cons_cons, ih, e]

theorem wf_of_opds {xs : List Value} {os : List Operand} (hg : GW get) (hl : xs.length = os.length) (hz : ∀ p ∈ os.zip (xs.map AV.v), Opd get p.1 p.2) : ∀ x ∈ xs, wf2 x := by
  intro x hx
  obtain ⟨i, hi, rfl⟩ := List.mem_iff_getElem.1 hx
  have h1 : i < os.length := by omega
  have : (os[i], AV.v xs[i]) ∈ os.zip (xs.map AV.v) := by
    rw [List.mem_iff_getElem]
    exact ⟨i, by simp; omega, by simp⟩
  exact opd_wf hg (hz _ this)

theorem wf_parts {xs zero out : List Value} (hz : ∀ c ∈ zero, wf0 c) (hx : ∀ x ∈ xs, wf2 x) (h : ∀ c ∈ out, c ∈ zero ∨ ∃ x ∈ xs, c ∈ cellsV x ∧ (cellsV x).all oneB = true) : ∀ c ∈ out, wf0 c := by
  intro c hc
  rcases h c hc with h | ⟨x, hx', hc, h1⟩
  · exact hz c h
  · exact cellsV_wf (hx x hx') h1 c hc

theorem fill_congr {p q : Nat → Option (Nat × Nat)} (h : ∀ i, p i = q i) : ∀ (cs : Array Value) (l : List (Nat × Value)), Instr.fill p cs l = Instr.fill q cs l := by
  have : p = q := funext h
  subst this
  intros; rfl

theorem TIok.zcells {T : TypeId} {ti : TI} (hok : TIok P T ti) (ha : ti.agg = true) (w : World) : (zeroValue T).run P w = .ok (.agg ⟨ti.zero⟩) w := by rw [hok.zeroV, ha]; rfl

theorem sizeT_some (H : CfgOk P cfg) {t : TypeId} {s : Nat} (h : sizeT cfg t = some s) : ∃ ti, lk t cfg.T = some ti ∧ ti.size = s ∧ ∀ w, (sizeOf t).run P w = .ok s w := by
  unfold sizeT at h
  split at h
  · rename_i ti hT
    simp only [Option.some.injEq] at h
    subst h
    exact ⟨ti, hT, rfl, (H.T _ _ hT).size⟩
  · cases h

theorem map_toList_build {ps : Array (Nat × Operand)} {f : Operand → Value} : (ps.map fun p => (p.1, f p.2)).toList = ps.toList.map fun p => (p.1, f p.2) := by simp

theorem run_mapM {w : World} : ∀ {flds : List Field}, (∀ f ∈ flds, ∃ s, ∀ w, (sizeOf f.type).run P w = .ok s w) →
    ∃ out : List (Nat × Nat), (flds.mapM (fun f : Field => (do pure (f.offset, ← sizeOf f.type) : Sem (Nat × Nat)))).run P w = .ok out w ∧
      ∀ i : Nat, out[i]? = (flds[i]?).bind fun f => match (sizeOf f.type).run P w with | .ok s _ => some (f.offset, s) | _ => none
  | [], _ => ⟨[], by simp, by simp⟩
  | f :: fs, h => by
    obtain ⟨s, hs⟩ := h f (by simp)
    obtain ⟨out, h1, h2⟩ := run_mapM (w := w) (flds := fs) (fun f hf => h f (by simp [hf]))
    refine ⟨(f.offset, s) :: out, ?_, ?_⟩
    · simp only [List.mapM_cons, Sem.run_bind, hs, Result.andThen_ok, Sem.run_pure] at h1 ⊢
      rw [h1]
      rfl
    · intro i
      cases i with
      | zero => simp [hs]
      | succ i => simpa using h2 i

theorem ev_build (H : CfgOk P cfg) {o : Oper} {T : TypeId} {ps : Array (Nat × Operand)} (ho : o.op = .build T ps) {k : Eff → Option R} (h : evOp cfg get mem o k = some r) (hg : GW get) : ∃ e, k e = some r ∧ Told P get mem o e := by
  simp only [evOp, ho] at h
  have hm : ∀ p ∈ ps.toList, p.2 ∈ o.op.operands.toList := by
    intro p hp
    simp only [ho, Op.operands, List.mem_map]
    exact ⟨p, hp, rfl⟩
  split at h
  · rename_i fs size bytes zero hT
    have hok := H.T _ _ hT
    obtain ⟨avs, hl, hz, h⟩ := getOs_some h
    split at h
    · rename_i cs hcs
      obtain ⟨xs, e1, e2, e3, e4⟩ := fill_parts _ _ _ hcs
      have hle : avs.length = ps.toList.length := by simpa using hl
      have hx := zip_vals hle e1
      subst hx
      have hxl : xs.length = ps.toList.length := by simpa using hle
      have hw := wf_parts hok.zw (wf_of_opds hg (by simpa using hxl) hz) e4
      refine ⟨_, h, told_v (x := .agg ⟨cs⟩) hw fun ρ a w hA => ?_⟩
      have e5 := zip_evals hA hm hz hxl
      obtain ⟨flds, hu, hf, hi⟩ := hok.und
      have hsz : ∀ f ∈ flds.toList, ∃ s, ∀ w, (sizeOf f.type).run P w = .ok s w := by
        intro f hf
        have := hi f hf
        cases hq : P.info? f.type with
        | none => simp [hq] at this
        | some inf => exact ⟨inf.size, fun w => by simp [sizeOf, typeInfo, hq]⟩
      obtain ⟨out, ho1, ho2⟩ := run_mapM (w := w) hsz
      have hfill : Instr.fill (fun i : Nat => out[i]?) ⟨zero⟩ (ps.toList.map fun p => (p.1, a.eval p.2)) = some ⟨cs⟩ := by
        rw [e5]
        have key : ∀ (l : List (Nat × Value)) (c d : Array Value), Instr.fill (fun i => match nthL i fs with | some (off, t) => (match sizeT cfg t with | some s => some (off, s) | none => none) | none => none) c l = some d → Instr.fill (fun i : Nat => out[i]?) c l = some d := by
          intro l
          induction l with
          | nil => intro c d h; simpa [Instr.fill] using h
          | cons p l ih =>
            intro c d h
            obtain ⟨i, v⟩ := p
            simp only [Instr.fill] at h ⊢
            cases hn : nthL i fs with
            | none => simp [hn] at h
            | some q =>
              obtain ⟨off, t⟩ := q
              simp only [hn] at h
              cases hs : sizeT cfg t with
              | none => simp [hs] at h
              | some s =>
                simp only [hs] at h
                obtain ⟨ti, _, _, hrun⟩ := sizeT_some H hs
                have e : out[i]? = some (off, s) := by
                  rw [ho2]
                  rw [nthL_eq, ← hf, List.getElem?_map] at hn
                  cases hfi : flds.toList[i]? with
                  | none => simp [hfi] at hn
                  | some f =>
                    simp only [hfi, Option.map_some, Option.some.injEq, Prod.mk.injEq] at hn
                    obtain ⟨rfl, rfl⟩ := hn
                    simp [hrun w]
                rw [e]
                split at h
                · cases h
                · rename_i hc
                  simp only [hc]
                  exact ih _ _ h
        exact key _ _ _ e2
      have hmm : (flds.mapM (fun f : Field => (do pure (f.offset, ← sizeOf f.type) : Sem (Nat × Nat)))).run P w = .ok ⟨out⟩ w := by
        rw [Array.mapM_eq_mapM_toList]
        simp only [Sem.run_map, ho1]
        rfl
      have hzc := hok.zcells rfl w
      simp only [execOp, ho, Instr.build, Sem.run_bind, hzc, Result.andThen_ok, run_underlying hu, hmm, Value.cells]
      have hgx : (fun i => (⟨out⟩ : Array (Nat × Nat))[i]?) = fun i : Nat => out[i]? := by funext i; simp
      simp only [hgx, Array.toList_map, hfill, Sem.run_pure, conc, Result.andThen_ok]
    · cases h
  · rename_i n e size bytes zero hT
    have hok := H.T _ _ hT
    split at h
    · rename_i s hs
      obtain ⟨ti, _, _, hrun⟩ := sizeT_some H hs
      obtain ⟨avs, hl, hz, h⟩ := getOs_some h
      split at h
      · rename_i cs hcs
        obtain ⟨xs, e1, e2, e3, e4⟩ := fill_parts _ _ _ hcs
        have hle : avs.length = ps.toList.length := by simpa using hl
        have hx := zip_vals hle e1
        subst hx
        have hxl : xs.length = ps.toList.length := by simpa using hle
        have hw := wf_parts hok.zw (wf_of_opds hg (by simpa using hxl) hz) e4
        refine ⟨_, h, told_v (x := .agg ⟨cs⟩) hw fun ρ a w hA => ?_⟩
        have e5 := zip_evals hA hm hz hxl
        have hu := hok.und
        simp only at hu
        have hzc := hok.zcells rfl w
        rw [← e5] at e2
        simp only [execOp, ho, Instr.build, Sem.run_bind, hzc, Result.andThen_ok, run_underlying hu, hrun, Value.cells, Array.toList_map, e2, Sem.run_pure]
      · cases h
    · cases h
  · cases h

end
end Go.Proofs.YtnfbcofieobkkaaDoor.Ev

/- The evaluator is sound, fifth part: loads, stores, places, the rest of the operations. -/
namespace Go.Proofs.YtnfbcofieobkkaaDoor.Ev
open Go Go.RowKit
set_option linter.unusedVariables false
set_option linter.unusedSimpArgs false

section
variable {P : Program} {cfg : Cfg} {get : Nat → Option AV} {mem : Nat → Option Bk} {R : Type} {r : R}

theorem ev_load (H : CfgOk P cfg) {o : Oper} {T : TypeId} {x : Operand} (ho : o.op = .load T x) {k : Eff → Option R} (h : evOp cfg get mem o k = some r) (hM : MW mem) : ∃ e, k e = some r ∧ Told P get mem o e := by
  simp only [evOp, ho] at h
  split at h
  · rename_i ti hT
    have hok := H.T _ _ hT
    obtain ⟨av, hx, h⟩ := getO_some h
    split at h
    · rename_i l off
      split at h
      · rename_i bk hbk
        obtain ⟨y, h, hy, hc⟩ := Blk.get_some h (hM _ _ hbk)
        have hm : x ∈ o.op.operands.toList := by simp [ho, Op.operands]
        refine ⟨_, h, told_av (av := .v y) (wf2_of_wf1 hy) ?_ fun ρ a w hA hMa => ?_⟩
        · intro l' hl'
          simp only [lab, List.append_nil, List.mem_singleton] at hl'
          subst hl'
          exact opd_lab hm hx _ (by simp [lab])
        · obtain ⟨fr, hg, _⟩ := hMa l (by simp) bk hbk
          have e := hA.eval hm hx
          simp only [conc] at e
          have hr := run_get hok hg (off := off) hc
          simp [execOp, ho, Instr.loadAt, e, Instr.sureAddr, hr, conc]
      · cases h
    · cases h
  · cases h

theorem ev_store (H : CfgOk P cfg) {o : Oper} {T : TypeId} {x y : Operand} (ho : o.op = .store T x y) {k : Eff → Option R} (h : evOp cfg get mem o k = some r) (hg : GW get) (hM : MW mem) : ∃ e, k e = some r ∧ Told P get mem o e := by
  simp only [evOp, ho] at h
  split at h
  · rename_i ti hT
    have hok := H.T _ _ hT
    obtain ⟨av, hx, h⟩ := getO_some h
    split at h
    · rename_i l off
      obtain ⟨av2, hy, h⟩ := getO_some h
      split at h
      · rename_i v
        split at h
        · rename_i bk hbk
          obtain ⟨h1, h⟩ := bif_some h
          simp only [Bool.and_eq_true, nbeq, decide_eq_true_eq] at h1
          obtain ⟨hown, hlen⟩ := h1
          obtain ⟨b', h, h2, h3, h4⟩ := Blk.put_some h
          have hmx : x ∈ o.op.operands.toList := by simp [ho, Op.operands]
          have hmy : y ∈ o.op.operands.toList := by simp [ho, Op.operands]
          have h3' : (cellsV v).all oneB = true := List.all_eq_true.2 fun c hc => by rw [oneB_eq]; exact h3 c hc
          have hwv := cellsV_wf (opd_wf hg hy) h3'
          refine ⟨_, h, ⟨⟨⟨bk, hbk, hown⟩, fun ρ a w hA hMa K Q hK => ?_⟩, ?_, ?_⟩⟩
          · obtain ⟨fr, hgr, hfr⟩ := hMa bk hbk
            have hfr := hfr hown
            subst hfr
            have ex := hA.eval hmx hx
            have ey := hA.eval hmy hy
            simp only [conc] at ex ey
            have hr := run_put hok hgr hlen h2 h3
            have hrun : (execOp a.eval o).run P w = .ok .skip (w.setRow (ρ l) ⟨b'.cells⟩) := by
              simp [execOp, ho, Instr.storeAt, ex, ey, Instr.sureAddr, hr, h4]
            unfold Oper.wp
            rw [hrun]
            exact hK
          · intro c hc
            simp only [h4] at hc
            rcases mem_ovw hc with hc | hc
            · exact hwv c hc
            · exact hM _ _ hbk c hc
          · intro l' hl'
            simp only [Eff.acc, eLab, List.append_nil, List.mem_singleton] at hl'
            subst hl'
            exact opd_lab hmx hx _ (by simp [lab])
        · cases h
      · cases h
    · cases h
  · cases h

theorem ev_nilCheck {o : Oper} {x : Operand} (ho : o.op = .nilCheck x) {k : Eff → Option R} (h : evOp cfg get mem o k = some r) (_hg : GW get) : ∃ e, k e = some r ∧ Told P get mem o e := by
  simp only [evOp, ho] at h
  obtain ⟨av, hx, h⟩ := getO_some h
  split at h
  · rename_i l off
    have hm : x ∈ o.op.operands.toList := by simp [ho, Op.operands]
    refine ⟨_, h, told_av (av := .p l off) trivial (by simpa using opd_lab hm hx) fun ρ a w hA _ => ?_⟩
    have e := hA.eval hm hx
    simp only [conc] at e
    simp [execOp, ho, e, conc]
  · cases h

theorem ev_binOp (H : CfgOk P cfg) {o : Oper} {op : BinOp} {T U : TypeId} {x y : Operand} (ho : o.op = .binOp op T x y U) {k : Eff → Option R} (h : evOp cfg get mem o k = some r) (hg : GW get) : ∃ e, k e = some r ∧ Told P get mem o e := by
  simp only [evOp, ho] at h
  obtain ⟨av, hx, h⟩ := getO_some h
  split at h
  · rename_i a
    obtain ⟨av2, hy, h⟩ := getO_some h
    split at h
    · rename_i b
      obtain ⟨c, h, hw, hrun⟩ := evBin_some H h (opd_wf hg hx) (opd_wf hg hy)
      have hmx : x ∈ o.op.operands.toList := by simp [ho, Op.operands]
      have hmy : y ∈ o.op.operands.toList := by simp [ho, Op.operands]
      refine ⟨_, h, told_v hw fun ρ act w hA => ?_⟩
      have ex := hA.eval hmx hx
      have ey := hA.eval hmy hy
      simp only [conc] at ex ey
      simp only [execOp, ho, ex, ey]
      rw [Sem.run_bind, hrun]
      rfl
    · cases h
  · cases h

theorem ev_unOp {o : Oper} {op : UnOp} {T : TypeId} {x : Operand} (ho : o.op = .unOp op T x) {k : Eff → Option R} (h : evOp cfg get mem o k = some r) (_hg : GW get) : ∃ e, k e = some r ∧ Told P get mem o e := by
  simp only [evOp, ho] at h
  obtain ⟨av, hx, h⟩ := getO_some h
  have hm : x ∈ o.op.operands.toList := by simp [ho, Op.operands]
  split at h
  · split at h
    · refine ⟨_, h, told_v (wf2_of_wf0 (wf_wrap _ _)) fun ρ act w hA => ?_⟩
      have ex := hA.eval hm hx
      simp only [conc] at ex
      simp [execOp, ho, ex, Op.unary, Op.intArith]
    · refine ⟨_, h, told_v (wf2_of_wf0 (wf_wrap _ _)) fun ρ act w hA => ?_⟩
      have ex := hA.eval hm hx
      simp only [conc] at ex
      simp [execOp, ho, ex, Op.unary, Op.intBits, xorI]
    · cases h
  · split at h
    · refine ⟨_, h, told_v trivial fun ρ act w hA => ?_⟩
      have ex := hA.eval hm hx
      simp only [conc] at ex
      simp [execOp, ho, ex, Op.unary]
    · cases h
  · cases h

theorem TIok.some_und {t : TypeId} {i : TI} (H : TIok P t i) : ∃ d, P.underlying t = some d := by
  have h := H.und
  cases hk : i.k <;> simp only [hk] at h <;> first | exact ⟨_, h⟩ | exact h.elim | exact ⟨_, h.choose_spec.1⟩ | exact ⟨_, h.choose_spec⟩

theorem foldl_push : ∀ (bs : List Int) (acc : ByteArray), bs.foldl (fun r n => r.push (UInt8.ofNat n.toNat)) acc = ⟨acc.data ++ (bs.map fun x => UInt8.ofNat x.toNat).toArray⟩
  | [], acc => by simp
  | b :: bs, acc => by
    rw [List.foldl_cons, foldl_push bs]
    simp [ByteArray.push]

theorem run_strOf {w : World} {g off n cap : Nat} {xs : List Int} {ty : TypeId} {fr : Nat × Nat} (hg : w.heap[g]? = some (.cells ⟨xs.map (Value.int .u8)⟩ ty fr)) (hb : off + n ≤ xs.length) :
    (Conv.bytesToString (.slice (some ⟨g, off, none⟩) n cap)).run P w = .ok (.string (strOf off n xs)) w := by
  have hl := run_loadCells_list (P := P) w ⟨g, off, none⟩ (((xs.drop off).take n).map (Value.int .u8)) (fun j v hv => by
    rw [addr_add, cell_at hg]
    simp only [List.getElem?_map, List.getElem?_take, List.getElem?_drop] at hv ⊢
    split at hv
    · exact hv
    · cases hv)
  have e : (((xs.drop off).take n).map (Value.int IntKind.u8)).length = n := by simp; omega
  rw [e] at hl
  rw [Go.run_bytesToString w _ n cap _ hl, foldl_push]
  simp [strOf]

theorem ev_convert (H : CfgOk P cfg) {o : Oper} {S T : TypeId} {x : Operand} (ho : o.op = .convert S T x) {k : Eff → Option R} (h : evOp cfg get mem o k = some r) (hg : GW get) : ∃ e, k e = some r ∧ Told P get mem o e := by
  simp only [evOp, ho] at h
  split at h
  · rename_i si hS
    obtain ⟨d, hd⟩ := (H.T _ _ hS).some_und
    split at h
    · rename_i ti hT
      have hok := (H.T _ _ hT).und
      obtain ⟨av, hx, h⟩ := getO_some h
      have hm : x ∈ o.op.operands.toList := by simp [ho, Op.operands]
      split at h
      · split at h
        · rename_i kk hk
          simp only [hk] at hok
          refine ⟨_, h, told_v (wf2_of_wf0 (wf_wrap _ _)) fun ρ act w hA => ?_⟩
          have ex := hA.eval hm hx
          simp only [conc] at ex
          simp only [execOp, ho, ex, convert, Sem.run_bind, run_underlying hd, run_underlying hok, Result.andThen_ok]
          cases d <;> simp [Conv.intToInt]
        · cases h
      · split at h
        · rename_i hk
          simp only [hk] at hok
          refine ⟨_, h, told_v (opd_wf hg hx) fun ρ act w hA => ?_⟩
          have ex := hA.eval hm hx
          simp only [conc] at ex
          simp only [execOp, ho, ex, convert, Sem.run_bind, run_underlying hd, run_underlying hok, Result.andThen_ok]
          cases d <;> simp
        · cases h
      · rename_i l off n cap
        split at h
        · rename_i e xs hk hsk hmem
          split at h
          · rename_i he
            obtain ⟨h1, h⟩ := bif_some h
            have h1 : off + n ≤ xs.length := by simpa [nble] using h1
            simp only [hk] at hok
            have hsu := (H.T _ _ hS).und
            simp only [hsk] at hsu
            have heu := (H.T _ _ he).und
            simp only at heu
            have hn : n ≤ 9223372036854775807 := (opd_wf hg hx : AV.wf (.s l off n cap)).1
            refine ⟨_, h, told_av (av := .v (.string (strOf off n xs))) ?_ ?_ fun ρ act w hA hMa => ?_⟩
            · show (strOf off n xs).size ≤ _
              have : (strOf off n xs).size = n := by simp [strOf, ByteArray.size]; omega
              omega
            · intro l' hl'
              simp only [lab, List.append_nil, List.mem_singleton] at hl'
              subst hl'
              exact opd_lab hm hx _ (by simp [lab])
            · have ex := hA.eval hm hx
              simp only [conc] at ex
              obtain ⟨fr, hgr, _⟩ := hMa l (by simp) _ hmem
              have hr := run_strOf (P := P) (cap := cap) hgr h1
              simp only [execOp, ho, ex, convert, Sem.run_bind, run_underlying hsu, run_underlying hok, Result.andThen_ok, run_underlying heu, hr, Sem.run_pure, conc]
          · cases h
        · cases h
      · cases h
    · cases h
  · cases h

theorem ev_fieldAddr (H : CfgOk P cfg) {o : Oper} {T : TypeId} {x : Operand} {f : Nat} (ho : o.op = .fieldAddr T x f) {k : Eff → Option R} (h : evOp cfg get mem o k = some r) : ∃ e, k e = some r ∧ Told P get mem o e := by
  simp only [evOp, ho] at h
  have hm : x ∈ o.op.operands.toList := by simp [ho, Op.operands]
  split at h
  · rename_i fs _ _ _ hT
    obtain ⟨flds, hu, hf, _⟩ := (H.T _ _ hT).und
    split at h
    · rename_i off t hn
      split at h
      · rename_i s hs
        obtain ⟨ti, _, _, hrun⟩ := sizeT_some H hs
        obtain ⟨av, hx, h⟩ := getO_some h
        split at h
        · rename_i l o'
          refine ⟨_, h, told_av (av := .p l (o' + off)) trivial ?_ fun ρ act w hA _ => ?_⟩
          · have := opd_lab hm hx
            simpa [lab] using this
          · have ex := hA.eval hm hx
            simp only [conc] at ex
            rw [nthL_eq, ← hf, List.getElem?_map] at hn
            cases hfi : flds.toList[f]? with
            | none => simp [hfi] at hn
            | some fl =>
              simp only [hfi, Option.map_some, Option.some.injEq, Prod.mk.injEq] at hn
              obtain ⟨rfl, rfl⟩ := hn
              have hfi' : flds[f]? = some fl := by simpa using hfi
              simp [execOp, ho, ex, Instr.fieldAt, run_underlying hu, hfi', Instr.sureAddr, fieldPlace, hrun, addr_add, conc]
        · cases h
      · cases h
    · cases h
  · cases h

theorem part_some {k : Value → Option R} {ti : TI} {cs : List Value} {off : Nat} (h : partV ti cs off k = some r) {t : TypeId} (hok : TIok P t ti) (hw : ∀ c ∈ cs, wf0 c) :
    ∃ y, k y = some r ∧ wf2 y ∧ ∀ w, (part t ⟨cs⟩ off).run P w = .ok y w := by
  unfold partV at h
  cases ha : ti.agg with
  | true =>
    simp only [ha, cond_true] at h
    refine ⟨_, h, fun c hc => hw c (List.mem_of_mem_drop (List.mem_of_mem_take hc)), fun w => ?_⟩
    simp only [part, Sem.run_bind, hok.isagg, ha, Result.andThen_ok, if_true, hok.size, Sem.run_pure]
    congr 2
    apply Array.ext'
    simp [List.extract_eq_drop_take', Nat.add_sub_cancel_left, List.extract_eq_take_drop]
  | false =>
    simp only [ha, cond_false] at h
    obtain ⟨y, hy, h⟩ := getV_some h
    refine ⟨y, h, wf2_of_wf0 (hw y (List.mem_of_getElem? hy)), fun w => ?_⟩
    simp [part, hok.isagg, ha, hy]

theorem ev_field (H : CfgOk P cfg) {o : Oper} {T : TypeId} {x : Operand} {f : Nat} (ho : o.op = .field T x f) {k : Eff → Option R} (h : evOp cfg get mem o k = some r) (hg : GW get) : ∃ e, k e = some r ∧ Told P get mem o e := by
  simp only [evOp, ho] at h
  have hm : x ∈ o.op.operands.toList := by simp [ho, Op.operands]
  split at h
  · rename_i fs _ _ _ hT
    obtain ⟨flds, hu, hf, _⟩ := (H.T _ _ hT).und
    split at h
    · rename_i off t hn
      split at h
      · rename_i ti hTt
        obtain ⟨av, hx, h⟩ := getO_some h
        split at h
        · rename_i cs
          obtain ⟨y, h, hw, hrun⟩ := part_some h (H.T _ _ hTt) (opd_wf hg hx)
          refine ⟨_, h, told_v hw fun ρ act w hA => ?_⟩
          have ex := hA.eval hm hx
          simp only [conc] at ex
          rw [nthL_eq, ← hf, List.getElem?_map] at hn
          cases hfi : flds.toList[f]? with
          | none => simp [hfi] at hn
          | some fl =>
            simp only [hfi, Option.map_some, Option.some.injEq, Prod.mk.injEq] at hn
            obtain ⟨rfl, rfl⟩ := hn
            have hfi' : flds[f]? = some fl := by simpa using hfi
            have hr := hrun w
            simp only [Array.toArray_toList] at hr
            simp [execOp, ho, ex, Instr.field, run_underlying hu, hfi', asAgg, hr]
        · cases h
      · cases h
    · cases h
  · cases h

end
end Go.Proofs.YtnfbcofieobkkaaDoor.Ev

/- The evaluator is sound, sixth part: indexes, slices, calls; and all operations together. -/
namespace Go.Proofs.YtnfbcofieobkkaaDoor.Ev
open Go Go.RowKit
set_option linter.unusedVariables false
set_option linter.unusedSimpArgs false

section
variable {P : Program} {cfg : Cfg} {get : Nat → Option AV} {mem : Nat → Option Bk} {R : Type} {r : R}

theorem in_range {j : Int} {n : Nat} (h : (decide (0 ≤ j) && decide (j < (n : Int))) = true) : 0 ≤ j ∧ j < (n : Int) := by simpa using h

theorem offs_eq (o j s : Nat) : offs o j s = o + j * s := by
  unfold offs
  by_cases h : o = 0 ∧ s = 1
  · obtain ⟨rfl, rfl⟩ := h
    simp
  · have : (Nat.beq o 0 && Nat.beq s 1) = false := by
      cases e : (Nat.beq o 0 && Nat.beq s 1)
      · rfl
      · simp only [Bool.and_eq_true, nbeq, decide_eq_true_eq] at e
        exact absurd e h
    simp [this]

theorem ev_indexAddr (H : CfgOk P cfg) {o : Oper} {T : TypeId} {x i : Operand} (ho : o.op = .indexAddr T x i) {k : Eff → Option R} (h : evOp cfg get mem o k = some r) : ∃ e, k e = some r ∧ Told P get mem o e := by
  simp only [evOp, ho] at h
  have hm : x ∈ o.op.operands.toList := by simp [ho, Op.operands]
  have hmi : i ∈ o.op.operands.toList := by simp [ho, Op.operands]
  split at h
  · rename_i n e _ _ _ hT
    have hu := (H.T _ _ hT).und
    simp only at hu
    split at h
    · rename_i s hs
      obtain ⟨ti, _, _, hrun⟩ := sizeT_some H hs
      obtain ⟨av, hx, h⟩ := getO_some h
      split at h
      · rename_i l o'
        obtain ⟨av2, hi, h⟩ := getO_some h
        split at h
        · rename_i kj j
          obtain ⟨h1, h⟩ := bif_some h
          obtain ⟨h2, h3⟩ := in_range h1
          refine ⟨_, h, told_av (av := .p l (offs o' j.toNat s)) trivial ?_ fun ρ act w hA _ => ?_⟩
          · have := opd_lab hm hx
            simpa [lab] using this
          · have ex := hA.eval hm hx
            have ei := hA.eval hmi hi
            simp only [conc] at ex ei
            simp [execOp, ho, ex, ei, Instr.indexAt, run_underlying hu, Instr.sureAddr, asIntOf, h2, h3, hrun, addr_add, conc, offs_eq]
        · cases h
      · cases h
    · cases h
  · rename_i e _ _ _ hT
    have hu := (H.T _ _ hT).und
    simp only at hu
    split at h
    · rename_i s hs
      obtain ⟨ti, _, _, hrun⟩ := sizeT_some H hs
      obtain ⟨av, hx, h⟩ := getO_some h
      split at h
      · rename_i l o' n c
        obtain ⟨av2, hi, h⟩ := getO_some h
        split at h
        · rename_i kj j
          obtain ⟨h1, h⟩ := bif_some h
          obtain ⟨h2, h3⟩ := in_range h1
          refine ⟨_, h, told_av (av := .p l (offs o' j.toNat s)) trivial ?_ fun ρ act w hA _ => ?_⟩
          · have := opd_lab hm hx
            simpa [lab] using this
          · have ex := hA.eval hm hx
            have ei := hA.eval hmi hi
            simp only [conc] at ex ei
            simp [execOp, ho, ex, ei, Instr.indexAt, run_underlying hu, asIntOf, h2, h3, hrun, addr_add, conc, offs_eq]
        · cases h
      · cases h
    · cases h
  · cases h

theorem str_at (s : ByteArray) (i : Nat) (h : i < s.size) : s[i]? = some (s.toList.getD i 0) := by
  rw [ByteArray.toList_eq]
  have h2 : i < s.data.toList.length := by rw [Array.length_toList]; exact h
  simp only [List.getD, List.getElem?_eq_getElem h2, Option.getD_some]
  rw [getElem?_pos s i h]
  rfl

theorem chainV_some {f : Nat → Option R} {j : Nat} : ∀ {n e : Nat}, chainV f j e n = some r → f j = some r
  | 0, e, h => by cases h
  | n + 1, e, h => by
    simp only [chainV, nbeq] at h
    by_cases hj : j = e
    · subst hj; simpa using h
    · simp only [hj, decide_false, cond_false] at h
      exact chainV_some h

theorem getV_eq {k : Value → Option R} : ∀ (cs : List Value) (i : Nat) (v : Value), cs[i]? = some v → getV i k cs = k v
  | [], i, v, h => by simp at h
  | c :: cs, 0, v, h => by simp at h; subst h; rfl
  | c :: cs, i + 1, v, h => by
    simp only [getV]
    exact getV_eq cs i v (by simpa using h)

theorem pick_part {ti : TI} {cs : List Value} {j n : Nat} {k : Value → Option R} (h : pickV ti cs j n k = some r) : partV ti cs (j * ti.size) k = some r := by
  unfold pickV at h
  split at h
  · rename_i kk hk
    split at h
    · rename_i l hl
      obtain ⟨h1, h⟩ := bif_some h
      simp only [Bool.and_eq_true, nblt, nbeq, decide_eq_true_eq] at h1
      obtain ⟨hlt, hs⟩ := h1
      have ha : ti.agg = false := by unfold TI.agg; rw [hk]
      unfold partV
      rw [ha, hs, Nat.mul_one]
      simp only [cond_false]
      rw [getV_eq cs j (.int kk (getI j l)) ?_]
      · exact h
      · rw [toInts_some hl, getI_eq, List.getElem?_map, List.getElem?_eq_getElem hlt]
        simp [List.getD, hlt]
    · cases h
  · exact chainV_some h

theorem ev_index (H : CfgOk P cfg) {o : Oper} {T : TypeId} {x i : Operand} (ho : o.op = .index T x i) {k : Eff → Option R} (h : evOp cfg get mem o k = some r) (hg : GW get) : ∃ e, k e = some r ∧ Told P get mem o e := by
  simp only [evOp, ho] at h
  have hm : x ∈ o.op.operands.toList := by simp [ho, Op.operands]
  have hmi : i ∈ o.op.operands.toList := by simp [ho, Op.operands]
  split at h
  · rename_i _ _ _ hT
    have hu := (H.T _ _ hT).und
    simp only at hu
    obtain ⟨av, hx, h⟩ := getO_some h
    split at h
    · rename_i s
      obtain ⟨av2, hi, h⟩ := getO_some h
      split at h
      · rename_i kj j
        obtain ⟨h1, h⟩ := bif_some h
        obtain ⟨h2, h3⟩ := in_range h1
        refine ⟨_, h, told_v (wf2_of_wf0 ?_) fun ρ act w hA => ?_⟩
        · have := UInt8.toNat_lt (s.toList.getD j.toNat 0)
          generalize (s.toList.getD j.toNat 0).toNat = m at this
          simp only [wf0, IntKind.min, IntKind.max, IntKind.signed, IntKind.bits]
          simp
          omega
        · have ex := hA.eval hm hx
          have ei := hA.eval hmi hi
          simp only [conc] at ex ei
          have hlt : j.toNat < s.size := by omega
          have e := str_at s j.toNat hlt
          simp [execOp, ho, ex, ei, Instr.index, run_underlying hu, asIntOf, h2, e]
      · cases h
    · cases h
  · rename_i n e _ _ _ hT
    have hu := (H.T _ _ hT).und
    simp only at hu
    split at h
    · rename_i ti hTe
      obtain ⟨av, hx, h⟩ := getO_some h
      split at h
      · rename_i cs
        obtain ⟨av2, hi, h⟩ := getO_some h
        split at h
        · rename_i kj j
          obtain ⟨h1, h⟩ := bif_some h
          obtain ⟨h2, h3⟩ := in_range h1
          have hok := H.T _ _ hTe
          obtain ⟨y, h, hw, hrun⟩ := part_some (pick_part h) hok (opd_wf hg hx)
          refine ⟨_, h, told_v hw fun ρ act w hA => ?_⟩
          have ex := hA.eval hm hx
          have ei := hA.eval hmi hi
          simp only [conc] at ex ei
          have hr := hrun w
          simp only [Array.toArray_toList] at hr
          simp [execOp, ho, ex, ei, Instr.index, run_underlying hu, asIntOf, h2, h3, hok.size, hr]
        · cases h
      · cases h
    · cases h
  · cases h

theorem ev_makeSlice (H : CfgOk P cfg) {o : Oper} {T : TypeId} {x y : Operand} (ho : o.op = .makeSlice T x y) {k : Eff → Option R} (h : evOp cfg get mem o k = some r) : ∃ e, k e = some r ∧ Told P get mem o e := by
  simp only [evOp, ho] at h
  have hm : x ∈ o.op.operands.toList := by simp [ho, Op.operands]
  have hmy : y ∈ o.op.operands.toList := by simp [ho, Op.operands]
  split at h
  · rename_i e _ _ _ hT
    have hu := (H.T _ _ hT).und
    simp only at hu
    split at h
    · rename_i kk bytes kz hTe
      obtain ⟨hk0, h⟩ := bif_none h
      have hk : kz = kk := by simpa using hk0
      subst hk
      have hok := H.T _ _ hTe
      obtain ⟨av, hx, h⟩ := getO_some h
      split at h
      · rename_i k1 n
        obtain ⟨av2, hy, h⟩ := getO_some h
        split at h
        · rename_i k2 c
          obtain ⟨h1, h5⟩ := bif_some h
          clear h
          simp only [Bool.and_eq_true, decide_eq_true_eq] at h1
          obtain ⟨⟨⟨h0, h2⟩, h3⟩, h4⟩ := h1
          subst h0
          refine ⟨_, h5, told_nw ?_ (by omega) fun ρ act w hA => ?_⟩
          · intro c hc
            simp only [Blk.cells, List.map_replicate, List.mem_replicate] at hc
            rw [hc.2]
            cases kz <;> simp [wf0, IntKind.min, IntKind.max, IntKind.signed, IntKind.bits]
          · have ex := hA.eval hm hx
            have ey := hA.eval hmy hy
            simp only [conc] at ex ey
            obtain ⟨inf, hi1, hi2, hi3, hi4⟩ := hok.inf
            have hr := run_make (P := P) w T e inf _ hu hi1 hi4 k1 k2 n n h2 (Int.le_refl _) (by rw [hi3]; exact h3) h4
            have hcells : madeCells (Value.int kz 0).cells (n.toNat * 1) = ⟨(List.replicate n.toNat (0 : Int)).map (Value.int kz)⟩ := by
              apply Array.ext'
              simp [madeCells, Value.cells, Array.toList_range, List.map_const', Nat.mod_one]
            simp only [hi2] at hr
            simp only [execOp, ho, ex, ey]
            rw [Sem.run_bind, hr]
            simp only [Result.andThen_ok, Sem.run_pure, cond_true, Blk.cells]
            have hb : (bif TI.agg { k := .int kz, size := 1, bytes := bytes, zero := [.int kz 0] } then Value.agg ⟨[.int kz 0]⟩ else List.headD [Value.int kz 0] undef) = .int kz 0 := rfl
            rw [hb, hcells]
        · cases h
      · cases h
    · cases h
  · cases h

theorem ev_buildSlice (H : CfgOk P cfg) {o : Oper} {T : TypeId} {len : Nat} {ps : Array (Nat × Operand)} (ho : o.op = .buildSlice T len ps) {k : Eff → Option R} (h : evOp cfg get mem o k = some r) (hg : GW get) : ∃ e, k e = some r ∧ Told P get mem o e := by
  simp only [evOp, ho] at h
  have hm : ∀ p ∈ ps.toList, p.2 ∈ o.op.operands.toList := by
    intro p hp
    simp only [ho, Op.operands, List.mem_map]
    exact ⟨p, hp, rfl⟩
  split at h
  · rename_i e _ _ _ hT
    have hu := (H.T _ _ hT).und
    simp only at hu
    split at h
    · rename_i ti hTe
      have hok := H.T _ _ hTe
      obtain ⟨avs, hl, hz, h⟩ := getOs_some h
      split at h
      · rename_i cs hcs
        obtain ⟨h1, h⟩ := bif_some h
        simp only [nble, nblt, Bool.and_eq_true, decide_eq_true_eq] at h1
        obtain ⟨⟨h1, h0len⟩, hpos⟩ := h1
        have hlen : len ≤ 9223372036854775807 := h0len
        obtain ⟨xs, e1, e2, e3, e4⟩ := fill_parts _ _ _ hcs
        have hle : avs.length = ps.toList.length := by simpa using hl
        have hx := zip_vals hle e1
        subst hx
        have hxl : xs.length = ps.toList.length := by simpa using hle
        have hz0 : ∀ c ∈ (rng 0 (len * ti.size)).map (fun i => ti.zero.getD (i % ti.size) undef), wf0 c := by
          intro c hc
          obtain ⟨i, hi, rfl⟩ := List.mem_map.1 hc
          rw [rng_map] at hi
          simp only [Nat.zero_add, List.map_id'', List.mem_range, List.mem_map] at hi
          obtain ⟨i', hi, rfl⟩ := hi
          have hs : 0 < ti.size := by
            rcases Nat.eq_zero_or_pos ti.size with h0 | h0
            · rw [h0] at hi; simp at hi
            · exact h0
          have hlt : i' % ti.size < ti.zero.length := by rw [hok.zl]; exact Nat.mod_lt _ hs
          rw [List.getD_eq_getElem?_getD, List.getElem?_eq_getElem hlt]
          exact hok.zw _ (List.getElem_mem hlt)
        have hw := wf_parts hz0 (wf_of_opds hg (by simpa using hxl) hz) e4
        refine ⟨_, h, told_nw (by rw [Blk.of_cells]; exact hw) hlen fun ρ a w hA => ?_⟩
        have e5 := zip_evals hA hm hz hxl
        rw [← e5] at e2
        have hcells : ((Array.range (len * ti.size)).map fun i => (⟨ti.zero⟩ : Array Value)[i % (⟨ti.zero⟩ : Array Value).size]!) = ⟨(rng 0 (len * ti.size)).map fun i => ti.zero.getD (i % ti.size) undef⟩ := by
          apply Array.ext'
          simp only [Array.toList_map, Array.toList_range, rng_map, List.map_map]
          apply List.map_congr_left
          intro i hi
          have hs : 0 < ti.size := by
            rcases Nat.eq_zero_or_pos ti.size with h0 | h0
            · rw [h0] at hi; simp at hi
            · exact h0
          have hlt : i % ti.size < ti.zero.length := by rw [hok.zl]; exact Nat.mod_lt _ hs
          simp only [List.size_toArray, hok.zl, Function.comp, Nat.zero_add, List.getD_eq_getElem?_getD, List.getElem?_eq_getElem hlt, Option.getD_some]
          simp [hlt]
        have hbig : ¬ len * ti.size > 2 ^ 24 := by omega
        obtain ⟨zv, hz1, hz2⟩ : ∃ zv : Value, (∀ w, (zeroValue e).run P w = .ok zv w) ∧ zv.cells = ⟨ti.zero⟩ := by
          refine ⟨_, hok.zeroV, ?_⟩
          cases ha : ti.agg with
          | true => rfl
          | false =>
            have h1 := hok.z1 ha
            have h2 := hok.zl
            have h3 := hok.zw
            match hz : ti.zero with
            | [] => simp [hz] at h2; omega
            | [c] =>
              have := h3 c (by simp [hz])
              cases c <;> first | rfl | exact this.elim
            | _ :: _ :: _ => simp [hz] at h2; omega
        simp only [execOp, ho, Instr.buildSlice, Sem.run_bind, run_underlying hu, Result.andThen_ok, hok.size, if_neg hbig, Sem.run_pure, Array.toList_map]
        have h0 : ¬ len * ti.size = 0 := by omega
        simp only [h0, if_false, Sem.run_bind, hz1, Result.andThen_ok, Sem.run_pure, hz2, hcells, e2]
        simp [newRow, Blk.of_cells]
      · cases h
    · cases h
  · cases h

theorem ev_extract {o : Oper} {x : Operand} {i : Nat} (ho : o.op = .extract x i) {k : Eff → Option R} (h : evOp cfg get mem o k = some r) (hg : GW get) : ∃ e, k e = some r ∧ Told P get mem o e := by
  simp only [evOp, ho] at h
  have hm : x ∈ o.op.operands.toList := by simp [ho, Op.operands]
  obtain ⟨av, hx, h⟩ := getO_some h
  split at h
  · rename_i vs
    obtain ⟨y, hy, h⟩ := getV_some h
    have hw : wf2 (.tuple vs) := opd_wf hg hx
    refine ⟨_, h, told_v (wf2_of_wf1 (hw y (List.mem_of_getElem? hy))) fun ρ act w hA => ?_⟩
    have ex := hA.eval hm hx
    simp only [conc] at ex
    have hy' : vs[i]? = some y := by simpa using hy
    simp [execOp, ho, ex, Instr.extract, hy']
  · cases h

theorem map_evals {ρ : Nat → Nat} {a : Act} {o : Oper} (hA : Agr get ρ a o) : ∀ {os : List Operand} {avs : List AV}, (∀ x ∈ os, x ∈ o.op.operands.toList) → avs.length = os.length → (∀ p ∈ os.zip avs, Opd get p.1 p.2) → os.map a.eval = avs.map (conc ρ)
  | [], [], _, _, _ => rfl
  | [], _ :: _, _, hl, _ => by simp at hl
  | _ :: _, [], _, hl, _ => by simp at hl
  | x :: os, av :: avs, hm, hl, hz => by
    rw [List.map_cons, List.map_cons, hA.eval (hm x List.mem_cons_self) (hz (x, av) List.mem_cons_self), map_evals hA (fun y hy => hm y (List.mem_cons_of_mem _ hy)) (by simpa using hl) (fun p hp => hz p (List.mem_cons_of_mem _ hp))]

theorem opds_wf (hg : GW get) : ∀ {os : List Operand} {avs : List AV}, avs.length = os.length → (∀ p ∈ os.zip avs, Opd get p.1 p.2) → ∀ a ∈ avs, a.wf
  | [], [], _, _, a, ha => by simp at ha
  | [], _ :: _, hl, _, _, _ => by simp at hl
  | _ :: _, [], hl, _, _, _ => by simp at hl
  | x :: os, av :: avs, hl, hz, a, ha => by
    rcases List.mem_cons.1 ha with rfl | ha
    · exact opd_wf hg (hz (x, a) List.mem_cons_self)
    · exact opds_wf hg (by simpa using hl) (fun p hp => hz p (List.mem_cons_of_mem _ hp)) a ha

theorem opds_lab {o : Oper} : ∀ {os : List Operand} {avs : List AV}, (∀ x ∈ os, x ∈ o.op.operands.toList) → avs.length = os.length → (∀ p ∈ os.zip avs, Opd get p.1 p.2) → ∀ a ∈ avs, ∀ l ∈ lab a, ∃ t ∈ tmpsOf o, ∃ av, get t = some av ∧ l ∈ lab av
  | [], [], _, _, _, a, ha => by simp at ha
  | [], _ :: _, _, hl, _, _, _ => by simp at hl
  | _ :: _, [], _, hl, _, _, _ => by simp at hl
  | x :: os, av :: avs, hm, hl, hz, a, ha => by
    rcases List.mem_cons.1 ha with rfl | ha
    · exact opd_lab (hm x List.mem_cons_self) (hz (x, a) List.mem_cons_self)
    · exact opds_lab (fun y hy => hm y (List.mem_cons_of_mem _ hy)) (by simpa using hl) (fun p hp => hz p (List.mem_cons_of_mem _ hp)) a ha

theorem ev_call (H : CfgOk P cfg) {o : Oper} {c : Call} {f : Operand} (ho : o.op = .call c) (hc : c.callee = .value f) {k : Eff → Option R} (h : evOp cfg get mem o k = some r) (hg : GW get) (hM : MW mem) : ∃ e, k e = some r ∧ Told P get mem o e := by
  simp only [evOp, ho, hc] at h
  have hmf : f ∈ o.op.operands.toList := by simp [ho, Op.operands, Call.operands, hc]
  have hma : ∀ x ∈ c.args.toList, x ∈ o.op.operands.toList := by
    intro x hx
    simp only [ho, Op.operands, Call.operands, hc, Array.toList_append]
    exact List.mem_append_right _ hx
  obtain ⟨av, hf, h⟩ := getO_some h
  split at h
  · rename_i g first cap
    split at h
    · rename_i ct hfirst hcap hct
      have hcok := H.C _ _ hct
      obtain ⟨avs, hl, hz, h⟩ := getOs_some h
      obtain ⟨v, h, hw, hcall⟩ := hcok.calls _ _ _ _ _ h (opds_wf hg hl hz) hM
      have e1 : first = #[] := by rw [← Array.toArray_toList (xs := first), hfirst]
      have e2 : cap = #[] := by rw [← Array.toArray_toList (xs := cap), hcap]
      subst e1 e2
      refine ⟨_, h, ⟨fun ρ a w hWI hA hMa K Q hK => ?_, hw, ?_⟩⟩
      · have ef := hA.eval hmf hf
        simp only [conc] at ef
        have ea := map_evals hA hma hl hz
        have ea' : c.args.map a.eval = (avs.map (conc ρ)).toArray := by rw [← ea]; apply Array.ext'; simp
        have hrun : (execOp a.eval o).run P w = .ok (.enter g (avs.map (conc ρ)).toArray) w := by
          simp only [execOp, ho, resolve, hc, ef, Deferred.ofValue, Sem.run_bind, Sem.run_pure, Result.andThen_ok, invoke, ea']
          simp [hcok.enter]
        unfold Oper.wp
        rw [hrun]
        show Calls P g _ w _
        refine Calls.mono (hcall ρ w hWI fun x hx l hl' => hMa l ?_) ?_
        · exact List.mem_flatMap.2 ⟨x, hx, hl'⟩
        · rintro e w' ⟨rfl, hb⟩
          exact hK w' hb
      · intro l hl'
        simp only [Eff.acc, eLab, lab, List.append_nil, List.mem_flatMap] at hl'
        obtain ⟨x, hx, hl'⟩ := hl'
        exact opds_lab hma hl hz x hx l hl'
    · cases h
  · cases h

theorem asIntPair {a b : Value} : True := trivial

theorem ev_len (H : CfgOk P cfg) {o : Oper} {c : Call} (ho : o.op = .call c) (hc : c.callee = .builtin .len) {k : Eff → Option R} (h : evOp cfg get mem o k = some r) (hg : GW get) : ∃ e, k e = some r ∧ Told P get mem o e := by
  simp only [evOp, ho, hc] at h
  have hma : ∀ x ∈ c.args.toList, x ∈ o.op.operands.toList := by
    intro x hx
    simp only [ho, Op.operands, Call.operands, hc, Array.toList_append]
    exact List.mem_append_right _ hx
  split at h
  · rename_i t ts x xs ht hx
    have hat : c.argTypes[0]? = some t := by rw [← Array.getElem?_toList, ht]; rfl
    have hax : ∀ f : Operand → Value, (c.args.map f)[0]? = some (f x) := by
      intro f
      rw [← Array.getElem?_toList, Array.toList_map, hx]
      rfl
    have hm : x ∈ o.op.operands.toList := hma x (by rw [hx]; exact List.mem_cons_self)
    split at h
    · rename_i _ _ _ hT
      have hu := (H.T _ _ hT).und
      simp only at hu
      obtain ⟨av, hx', h⟩ := getO_some h
      split at h
      · rename_i s
        refine ⟨_, h, told_v (wf2_of_wf0 ?_) fun ρ act w hA => ?_⟩
        · have : s.size ≤ 9223372036854775807 := opd_wf hg hx'
          simp only [wf0, IntKind.min, IntKind.max, IntKind.signed, IntKind.bits]
          simp
          omega
        · have ex := hA.eval hm hx'
          simp only [conc] at ex
          simp [execOp, ho, resolve, hc, invoke, builtin, Builtin.len_, hat, hax, ex, run_underlying hu, goInt]
      · cases h
    · rename_i _ _ _ _ hT
      have hu := (H.T _ _ hT).und
      simp only at hu
      obtain ⟨av, hx', h⟩ := getO_some h
      split at h
      · rename_i l off n cap
        refine ⟨_, h, told_v (wf2_of_wf0 ?_) fun ρ act w hA => ?_⟩
        · have : n ≤ 9223372036854775807 := (opd_wf hg hx' : AV.wf (.s l off n cap)).1
          simp only [wf0, IntKind.min, IntKind.max, IntKind.signed, IntKind.bits]
          simp
          omega
        · have ex := hA.eval hm hx'
          simp only [conc] at ex
          simp [execOp, ho, resolve, hc, invoke, builtin, Builtin.len_, hat, hax, ex, run_underlying hu, goInt]
      · rename_i n cap
        refine ⟨_, h, told_v (wf2_of_wf0 ?_) fun ρ act w hA => ?_⟩
        · have : n ≤ 9223372036854775807 := opd_wf hg hx'
          simp only [wf0, IntKind.min, IntKind.max, IntKind.signed, IntKind.bits]
          simp
          omega
        · have ex := hA.eval hm hx'
          simp only [conc] at ex
          simp [execOp, ho, resolve, hc, invoke, builtin, Builtin.len_, hat, hax, ex, run_underlying hu, goInt]
      · cases h
    · rename_i n e _ _ _ hT
      have hu := (H.T _ _ hT).und
      simp only at hu
      obtain ⟨av, hx', h⟩ := getO_some h
      obtain ⟨hn, h⟩ := bif_some h
      simp only [nble, decide_eq_true_eq] at hn
      refine ⟨_, h, told_v (wf2_of_wf0 ?_) fun ρ act w hA => ?_⟩
      · simp only [wf0, IntKind.min, IntKind.max, IntKind.signed, IntKind.bits]
        simp
        omega
      · simp [execOp, ho, resolve, hc, invoke, builtin, Builtin.len_, hat, hax, run_underlying hu, goInt]
    · cases h
  · cases h

theorem ev_max {o : Oper} {c : Call} (ho : o.op = .call c) (hc : c.callee = .builtin .max) {k : Eff → Option R} (h : evOp cfg get mem o k = some r) (hg : GW get) : ∃ e, k e = some r ∧ Told P get mem o e := by
  simp only [evOp, ho, hc] at h
  have hma : ∀ x ∈ c.args.toList, x ∈ o.op.operands.toList := by
    intro x hx
    simp only [ho, Op.operands, Call.operands, hc, Array.toList_append]
    exact List.mem_append_right _ hx
  split at h
  · rename_i x y hxy
    have hmx : x ∈ o.op.operands.toList := hma x (by rw [hxy]; simp)
    have hmy : y ∈ o.op.operands.toList := hma y (by rw [hxy]; simp)
    obtain ⟨av, hx, h⟩ := getO_some h
    split at h
    · rename_i kx a
      obtain ⟨av2, hy, h⟩ := getO_some h
      split at h
      · rename_i ky b
        obtain ⟨hk, h2⟩ := bif_some h
        have hk : kx = ky := by simpa using hk
        subst hk
        have wx := opd_wf hg hx
        have wy := opd_wf hg hy
        refine ⟨_, h2, told_v (x := .int kx (maxI a b)) ?_ fun ρ act w hA => ?_⟩
        · simp only [maxI]; split <;> assumption
        · have ex := hA.eval hmx hx
          have ey := hA.eval hmy hy
          simp only [conc] at ex ey
          have e : (c.args.map act.eval).toList = [.int kx a, .int kx b] := by rw [Array.toList_map, hxy]; simp [ex, ey]
          simp only [execOp, ho, resolve, hc, Sem.run_bind, Sem.run_pure, Result.andThen_ok, invoke, builtin, Builtin.max_, e]
          simp [Builtin.max2, maxI]
      · cases h
    · cases h
  · cases h

theorem ev_min {o : Oper} {c : Call} (ho : o.op = .call c) (hc : c.callee = .builtin .min) {k : Eff → Option R} (h : evOp cfg get mem o k = some r) (hg : GW get) : ∃ e, k e = some r ∧ Told P get mem o e := by
  simp only [evOp, ho, hc] at h
  have hma : ∀ x ∈ c.args.toList, x ∈ o.op.operands.toList := by
    intro x hx
    simp only [ho, Op.operands, Call.operands, hc, Array.toList_append]
    exact List.mem_append_right _ hx
  split at h
  · rename_i x y hxy
    have hmx : x ∈ o.op.operands.toList := hma x (by rw [hxy]; simp)
    have hmy : y ∈ o.op.operands.toList := hma y (by rw [hxy]; simp)
    obtain ⟨av, hx, h⟩ := getO_some h
    split at h
    · rename_i kx a
      obtain ⟨av2, hy, h⟩ := getO_some h
      split at h
      · rename_i ky b
        obtain ⟨hk, h2⟩ := bif_some h
        have hk : kx = ky := by simpa using hk
        subst hk
        have wx := opd_wf hg hx
        have wy := opd_wf hg hy
        refine ⟨_, h2, told_v (x := .int kx (minI a b)) ?_ fun ρ act w hA => ?_⟩
        · simp only [minI]; split <;> assumption
        · have ex := hA.eval hmx hx
          have ey := hA.eval hmy hy
          simp only [conc] at ex ey
          have e : (c.args.map act.eval).toList = [.int kx a, .int kx b] := by rw [Array.toList_map, hxy]; simp [ex, ey]
          simp only [execOp, ho, resolve, hc, Sem.run_bind, Sem.run_pure, Result.andThen_ok, invoke, builtin, Builtin.min_, e]
          simp [Builtin.min2, minI]
      · cases h
    · cases h
  · cases h

/-- The evaluation of an operation tells its effect. -/
theorem evOp_some (H : CfgOk P cfg) {o : Oper} {k : Eff → Option R} (h : evOp cfg get mem o k = some r) (hg : GW get) (hM : MW mem) : ∃ e, k e = some r ∧ Told P get mem o e := by
  cases ho : o.op with
  | move x => exact ev_move (.inl ho) (by simpa only [evOp, ho] using h) hg
  | assign x => exact ev_move (.inr ho) (by simpa only [evOp, ho] using h) hg
  | pick c a b => exact ev_pick ho h hg
  | alloc T => exact ev_alloc H ho h
  | box T x => exact ev_box ho h hg
  | build T ps => exact ev_build H ho h hg
  | buildSlice T n ps => exact ev_buildSlice H ho h hg
  | load T x => exact ev_load H ho h hM
  | store T x y => exact ev_store H ho h hg hM
  | nilCheck x => exact ev_nilCheck ho h hg
  | binOp op T x y U => exact ev_binOp H ho h hg
  | unOp op T x => exact ev_unOp ho h hg
  | convert S T x => exact ev_convert H ho h hg
  | fieldAddr T x f => exact ev_fieldAddr H ho h
  | field T x f => exact ev_field H ho h hg
  | indexAddr T x i => exact ev_indexAddr H ho h
  | index T x i => exact ev_index H ho h hg
  | makeSlice T x y => exact ev_makeSlice H ho h
  | extract x i => exact ev_extract ho h hg
  | call c =>
    cases hc : c.callee with
    | value f => exact ev_call H ho hc h hg hM
    | invoke rc m => simp [evOp, ho, hc] at h
    | builtin b =>
      cases b with
      | len => exact ev_len H ho hc h hg
      | max => exact ev_max ho hc h hg
      | min => exact ev_min ho hc h hg
      | _ => simp [evOp, ho, hc] at h
  | _ => simp [evOp, ho] at h

end
end Go.Proofs.YtnfbcofieobkkaaDoor.Ev

/- The evaluator is sound, seventh part: a step from state to state; regions in the order of the text. -/
namespace Go.Proofs.YtnfbcofieobkkaaDoor.Ev
open Go Go.RowKit
set_option linter.unusedVariables false
set_option linter.unusedSimpArgs false

/-- The memory and the slots are as the abstract state says. -/
structure FRel (w0 : World) (ρ : Nat → Nat) (env : Nat → Option AV) (mem : Nat → Option Bk) (n : Nat) (a : Act) (w : World) : Prop where
  sz : a.tmps.size = n
  df : a.defers = []
  he : ∀ t av, env t = some av → a.tmps.getD t undef = conc ρ av
  hm : ∀ l bk, mem l = some bk → ∃ fr, w.heap[ρ l]? = some (.cells ⟨bk.b.cells⟩ bk.ty fr) ∧ (bk.own = true → fr = (0, 0) ∧ w0.heap.size ≤ ρ l)
  hi : ∀ l bk l' bk', mem l = some bk → mem l' = some bk' → bk.own = true → ρ l = ρ l' → l = l'
  hb : Below w0.heap.size w0 w
  wi : WI w0

def valOf (lbl : Nat) : Option Eff → AV
  | some (.val _ a) => a
  | some (.nw _ _ sl n) => bif sl then .s lbl 0 n n else .p lbl 0
  | _ => .v undef

def effEnv (dst : Option Nat) (lbl : Nat) (e : Option Eff) (env : Nat → Option AV) : Nat → Option AV :=
  fun t => if dst = some t then some (valOf lbl e) else env t

def effMem (lbl : Nat) (e : Option Eff) (mem : Nat → Option Bk) : Nat → Option Bk :=
  match e with
  | some (.wr l b) => fun m => if m = l then (mem l).map fun bk => { bk with b := b } else mem m
  | some (.nw T b _ _) => fun m => if m = lbl then some ⟨true, T, b⟩ else mem m
  | _ => mem

theorem getD_put (a : Act) (d : Nat) (v : Value) (t : Nat) (hd : d < a.tmps.size) : (a.put (some d) v).tmps.getD t undef = if d = t then v else a.tmps.getD t undef := by
  simp only [Act.put, Array.getD_eq_getD_getElem?, Array.getElem?_setIfInBounds]
  split
  · rename_i h; subst h; simp [hd]
  · rfl

theorem conc_upd {ρ : Nat → Nat} {lbl g : Nat} {av : AV} (h : lbl ∉ lab av) : conc (fun l => if l = lbl then g else ρ l) av = conc ρ av := by
  cases av with
  | v x => rfl
  | p l o => simp [lab] at h; simp [conc, Ne.symm h]
  | s l o n c => simp [lab] at h; simp [conc, Ne.symm h]

theorem FRel.put {w0 : World} {ρ : Nat → Nat} {env : Nat → Option AV} {mem : Nat → Option Bk} {n : Nat} {a : Act} {w : World} (h : FRel w0 ρ env mem n a w) (dst : Option Nat) (hd : ∀ d, dst = some d → d < n) (av : AV) :
    FRel w0 ρ (fun t => if dst = some t then some av else env t) mem n (a.put dst (conc ρ av)) w := by
  cases dst with
  | none => exact ⟨h.sz, h.df, fun t x hx => h.he t x (by simpa using hx), h.hm, h.hi, h.hb, h.wi⟩
  | some d =>
    have hlt : d < a.tmps.size := by rw [h.sz]; exact hd d rfl
    refine ⟨by simp [Act.put, h.sz], h.df, fun t x hx => ?_, h.hm, h.hi, h.hb, h.wi⟩
    rw [getD_put a d _ t hlt]
    by_cases e : d = t
    · subst e; simp at hx; subst hx; simp
    · simp only [Option.some.injEq, e, if_false] at hx ⊢
      exact h.he t x hx

theorem FRel.world {w0 : World} {ρ : Nat → Nat} {env : Nat → Option AV} {mem : Nat → Option Bk} {n : Nat} {a : Act} {w w' : World} (h : FRel w0 ρ env mem n a w) (hb : Below w.heap.size w w') :
    FRel w0 ρ env mem n a w' := by
  refine ⟨h.sz, h.df, h.he, fun l bk hl => ?_, h.hi, h.hb.trans (hb.mono h.hb.size), h.wi⟩
  obtain ⟨fr, hg, ho⟩ := h.hm l bk hl
  refine ⟨fr, ?_, ho⟩
  rw [hb.block (ρ l) (by
    rcases Nat.lt_or_ge (ρ l) w.heap.size with hlt | hge
    · exact hlt
    · rw [Array.getElem?_eq_none hge] at hg; cases hg)]
  exact hg

section
variable {P : Program} {cfg : Cfg}

/-- One operation, from state to state. -/
theorem step_go {get : Nat → Option AV} {mem0 : Nat → Option Bk} {o : Oper} {e : Eff} (hT : EffOK P get mem0 o e) {w0 : World} {ρ : Nat → Nat} {env : Nat → Option AV} {mem : Nat → Option Bk} {n lbl : Nat} {a : Act} {w : World}
    (h : FRel w0 ρ env mem n a w) (hget : ∀ t ∈ tmpsOf o, get t = env t) (hmem : ∀ l ∈ Eff.acc (some e), mem0 l = mem l) (hd : ∀ d, o.dst = some d → d < n)
    (hf1 : ∀ t av, env t = some av → lbl ∉ lab av) (hf2 : mem lbl = none) {K : Act → World → Prop} {Q : Exit → Act → World → Prop}
    (hK : ∀ ρ' a' w', FRel w0 ρ' (effEnv o.dst lbl (some e) env) (effMem lbl (some e) mem) n a' w' → K a' w') : o.wp P a w K Q := by
  have hA : Agr get ρ a o := fun t ht av hav => h.he t av (by rw [← hget t ht]; exact hav)
  cases e with
  | val ls av =>
    refine hT ρ a w (h.wi.below h.hb) hA (fun l hl bk hbk => ?_) K Q fun w' hb => hK ρ _ _ ((h.world hb).put o.dst hd av)
    rw [hmem l hl] at hbk
    obtain ⟨fr, hg, ho⟩ := h.hm l bk hbk
    exact ⟨fr, hg, fun h => (ho h).1⟩
  | wr l b =>
    obtain ⟨⟨bk, hbk, hown⟩, hT⟩ := hT
    have hl : l ∈ Eff.acc (some (.wr l b)) := by simp [Eff.acc]
    have hbk' : mem l = some bk := by rw [← hmem l hl]; exact hbk
    obtain ⟨fr, hg, ho⟩ := h.hm l bk hbk'
    obtain ⟨hfr, hB⟩ := ho hown
    refine hT ρ a w hA (fun bk2 hbk2 => ?_) K Q (hK ρ _ _ ?_)
    · rw [hbk] at hbk2
      cases hbk2
      exact ⟨fr, hg, fun _ => hfr⟩
    · have h2 : FRel w0 ρ env (effMem lbl (some (.wr l b)) mem) n a (w.setRow (ρ l) ⟨b.cells⟩) := by
        have hlt : ρ l < w.heap.size := by
          rcases Nat.lt_or_ge (ρ l) w.heap.size with hlt | hge
          · exact hlt
          · rw [Array.getElem?_eq_none hge] at hg; cases hg
        refine ⟨h.sz, h.df, h.he, fun m bkm hm => ?_, fun m bkm m' bkm' hm hm' hom hρ => ?_, ?_, h.wi⟩
        · simp only [effMem] at hm
          split at hm
          · rename_i e; subst e
            simp only [hbk', Option.map_some, Option.some.injEq] at hm
            subst hm
            exact ⟨fr, setRow_heap w _ _ _ _ _ hg, ho⟩
          · rename_i hne
            obtain ⟨fr', hg', ho'⟩ := h.hm m bkm hm
            refine ⟨fr', ?_, ho'⟩
            rw [setRow_other w _ _ _ (fun e => hne (h.hi l bk m bkm hbk' hm hown e.symm).symm)]
            exact hg'
        · have back : ∀ m bkm, effMem lbl (some (.wr l b)) mem m = some bkm → ∃ bk0, mem m = some bk0 ∧ bk0.own = bkm.own := by
            intro m bkm hm
            simp only [effMem] at hm
            split at hm
            · rename_i e; subst e
              simp only [hbk', Option.map_some, Option.some.injEq] at hm
              subst hm
              exact ⟨bk, hbk', rfl⟩
            · exact ⟨bkm, hm, rfl⟩
          obtain ⟨b1, e1, e2⟩ := back m bkm hm
          obtain ⟨b2, e3, _⟩ := back m' bkm' hm'
          exact h.hi m b1 m' b2 e1 e3 (by rw [e2]; exact hom) hρ
        · exact h.hb.trans ⟨rfl, rfl, rfl, by simp, fun k hk => setRow_other w _ _ _ (by omega)⟩
      exact h2.put o.dst hd (.v undef)
  | nw T b sl m =>
    have hnew : ∀ (l : Nat) bk, mem l = some bk → ρ l < w.heap.size := by
      intro l bk hl
      obtain ⟨fr, hg, _⟩ := h.hm l bk hl
      rcases Nat.lt_or_ge (ρ l) w.heap.size with hlt | hge
      · exact hlt
      · rw [Array.getElem?_eq_none hge] at hg; cases hg
    have hne : ∀ (l : Nat) bk, mem l = some bk → l ≠ lbl := fun l bk hl e => by subst e; rw [hf2] at hl; cases hl
    have h2 : FRel w0 (fun l => if l = lbl then w.heap.size else ρ l) env (effMem lbl (some (.nw T b sl m)) mem) n a (w.alloc (.cells ⟨b.cells⟩ T)) := by
      refine ⟨h.sz, h.df, fun t av hav => ?_, fun l bk hl => ?_, fun l bk l' bk' hl hl' hown hρ => ?_, h.hb.alloc h.hb.size _, h.wi⟩
      · rw [conc_upd (hf1 t av hav)]; exact h.he t av hav
      · simp only [effMem] at hl
        split at hl
        · rename_i e; subst e
          simp only [Option.some.injEq] at hl
          subst hl
          exact ⟨(0, 0), by simp only [if_true]; exact heap_alloc_new w _, fun _ => ⟨rfl, by simp; exact h.hb.size⟩⟩
        · rename_i e
          obtain ⟨fr, hg, ho⟩ := h.hm l bk hl
          refine ⟨fr, ?_, by simpa [e] using ho⟩
          simp only [e, if_false]
          rw [Below.heap_alloc _ _ _ (hnew l bk hl)]
          exact hg
      · simp only [effMem] at hl hl'
        by_cases e1 : l = lbl <;> by_cases e2 : l' = lbl
        · rw [e1, e2]
        · simp only [e2, if_false] at hl'
          simp only [e1, e2, if_true, if_false] at hρ
          have := hnew l' bk' hl'
          omega
        · simp only [e1, if_false] at hl
          simp only [e1, e2, if_true, if_false] at hρ
          have := hnew l bk hl
          omega
        · simp only [e1, e2, if_false] at hl hl' hρ
          exact h.hi l bk l' bk' hl hl' hown hρ
    refine hT ρ a w hA K Q (hK (fun l => if l = lbl then w.heap.size else ρ l) _ _ ?_)
    have h3 := h2.put o.dst hd (bif sl then .s lbl 0 m m else .p lbl 0)
    have e : conc (fun l => if l = lbl then w.heap.size else ρ l) (bif sl then .s lbl 0 m m else .p lbl 0) = (bif sl then .slice (some ⟨w.heap.size, 0, none⟩) m m else .pointer (some ⟨w.heap.size, 0, none⟩)) := by
      cases sl <;> simp [conc]
    rw [e] at h3
    exact h3

/-- What holds of every abstract state. -/
structure Inv (st : St) : Prop where
  we : GW fun t => lk t st.env
  wm : MW fun l => lk l st.mem
  lb : ∀ t av, lk t st.env = some av → ∀ l ∈ lab av, l < st.nx
  mb : ∀ l bk, lk l st.mem = some bk → l < st.nx
  mv : ∀ p ∈ st.mv, lk p.1 st.env = lk p.2 st.env

theorem lk_setBk (l : Nat) (b : Blk) (m : Nat) : ∀ mem : List (Nat × Bk), lk m (setBk l b mem) = if m = l then (lk l mem).map fun bk => { bk with b := b } else lk m mem
  | [] => by simp [setBk, lk_nil]
  | (k, bk) :: r => by
    simp only [setBk, nbeq]
    by_cases h : l = k
    · subst h
      simp only [decide_true, cond_true, lk_cons]
      by_cases h2 : m = l <;> simp [h2]
    · simp only [h, decide_false, cond_false, lk_cons, lk_setBk l b m r]
      by_cases h2 : m = k
      · subst h2
        have : ¬ m = l := fun e => h e.symm
        simp [this]
      · simp [h2]

theorem mem_keepMv {d : Nat} {l : List (Nat × Nat)} {p : Nat × Nat} (h : p ∈ keepMv d l) : p ∈ l ∧ p.1 ≠ d ∧ p.2 ≠ d := by
  simp only [keepMv, List.mem_filter, nbeq, Bool.and_eq_true, Bool.not_eq_true', decide_eq_false_iff_not] at h
  exact ⟨h.1, h.2⟩

theorem put_some {st s : St} {dst : Option Nat} {av : AV} (h : st.put dst av = some s) :
    s.n = st.n ∧ s.mem = st.mem ∧ s.nx = st.nx ∧ (∀ d, dst = some d → d < st.n) ∧ (∀ t, lk t s.env = if dst = some t then some av else lk t st.env) ∧
      (∀ p ∈ s.mv, p ∈ st.mv ∧ ∀ d, dst = some d → p.1 ≠ d ∧ p.2 ≠ d) := by
  cases dst with
  | none => simp only [St.put, Option.some.injEq] at h; subst h; exact ⟨rfl, rfl, rfl, by simp, by simp, fun p hp => ⟨hp, by simp⟩⟩
  | some d =>
    simp only [St.put] at h
    obtain ⟨h1, h⟩ := bif_some h
    simp only [nblt, decide_eq_true_eq] at h1
    simp only [Option.some.injEq] at h
    subst h
    refine ⟨rfl, rfl, rfl, fun d' e => by cases e; exact h1, fun t => ?_, fun p hp => ?_⟩
    · simp only [lk_pt, Option.some.injEq]
      by_cases e : t = d
      · simp [e]
      · have : ¬ d = t := fun e' => e e'.symm
        simp [e, this]
    · obtain ⟨a, b, c⟩ := mem_keepMv hp
      exact ⟨a, fun d' e => by cases e; exact ⟨b, c⟩⟩

/-- The state behind an effect. -/
theorem app_some {R : Type} {r : R} {st : St} {dst : Option Nat} {e : Eff} {k : St → Option R} (h : st.app dst e k = some r) (hI : Inv st) (hw : e.wf) (hl : ∀ l ∈ eLab e, l < st.nx) :
    ∃ s, k s = some r ∧ s.n = st.n ∧ s.nx = st.nx + 1 ∧ (∀ d, dst = some d → d < st.n) ∧ (∀ t, lk t s.env = effEnv dst st.nx (some e) (fun t => lk t st.env) t) ∧
      (∀ l, lk l s.mem = effMem st.nx (some e) (fun l => lk l st.mem) l) ∧ Inv s := by
  have main : ∀ (mem' : List (Nat × Bk)) (av : AV) (s : St), ({ st with mem := mem' } : St).put dst av = some s → av.wf → (∀ l ∈ lab av, l < st.nx + 1) → MW (fun l => lk l mem') → (∀ l bk, lk l mem' = some bk → l < st.nx + 1) →
      Inv { s with nx := s.nx + 1 } := by
    intro mem' av s hp hwv hlv hwm hmb
    obtain ⟨h1, h2, h3, h4, h5, h6⟩ := put_some hp
    simp only at h1 h2 h3 h5 h6
    refine ⟨fun t x hx => ?_, ?_, fun t x hx l hl => ?_, fun l bk hl => ?_, fun p hp => ?_⟩
    · simp only [h5] at hx
      split at hx
      · cases hx; exact hwv
      · exact hI.we t x hx
    · simp only [h2]; exact hwm
    · simp only [h5, h3] at hx ⊢
      split at hx
      · cases hx; exact hlv l hl
      · have := hI.lb t x hx l hl; omega
    · simp only [h2, h3] at hl ⊢
      exact hmb l bk hl
    · obtain ⟨a, b⟩ := h6 p hp
      simp only [h5]
      have e1 : ¬ dst = some p.1 := fun e => (b _ e).1 rfl
      have e2 : ¬ dst = some p.2 := fun e => (b _ e).2 rfl
      simp only [e1, e2, if_false]
      exact hI.mv p a
  cases e with
  | val ls a =>
    simp only [St.app] at h
    split at h
    · rename_i s hp
      obtain ⟨h1, h2, h3, h4, h5, h6⟩ := put_some hp
      exact ⟨_, h, h1, by simp [h3], h4, fun t => by simp [effEnv, valOf, h5], fun l => by simp [effMem, h2],
        main st.mem a s hp hw (fun l hl' => by have := hl l (by simpa [eLab] using hl'); omega) hI.wm (fun l bk hb => by have := hI.mb l bk hb; omega)⟩
    · cases h
  | wr l b =>
    simp only [St.app] at h
    split at h
    · rename_i s hp
      obtain ⟨h1, h2, h3, h4, h5, h6⟩ := put_some hp
      refine ⟨_, h, h1, by simp [h3], h4, fun t => by simp [effEnv, valOf, h5], fun m => by simp [effMem, h2, lk_setBk], main _ _ s hp ?_ (by simp [lab]) ?_ ?_⟩
      · intro v hv; simp at hv
      · intro m bk hm c hc
        have hm : lk m (setBk l b st.mem) = some bk := hm
        rw [lk_setBk] at hm
        split at hm
        · rename_i e; subst e
          cases hx : lk m st.mem with
          | none => simp [hx] at hm
          | some bk0 => simp [hx] at hm; subst hm; exact hw c hc
        · exact hI.wm m bk hm c hc
      · intro m bk hm
        rw [lk_setBk] at hm
        split at hm
        · rename_i e; subst e
          cases hx : lk m st.mem with
          | none => simp [hx] at hm
          | some bk0 => have := hI.mb m bk0 hx; omega
        · have := hI.mb m bk hm; omega
    · cases h
  | nw T b sl n =>
    simp only [St.app] at h
    split at h
    · rename_i s hp
      obtain ⟨h1, h2, h3, h4, h5, h6⟩ := put_some hp
      refine ⟨_, h, h1, by simp [h3], h4, fun t => by simp [effEnv, valOf, h5], fun m => by simp [effMem, h2, lk_cons], main _ _ s hp ?_ ?_ ?_ ?_⟩
      · cases sl
        · trivial
        · exact ⟨hw.2, hw.2⟩
      · cases sl <;> simp [lab]
      · intro m bk hm c hc
        have hm : lk m ((st.nx, (⟨true, T, b⟩ : Bk)) :: st.mem) = some bk := hm
        rw [lk_cons] at hm
        split at hm
        · cases hm; exact hw.1 c hc
        · exact hI.wm m bk hm c hc
      · intro m bk hm
        rw [lk_cons] at hm
        split at hm
        · omega
        · have := hI.mb m bk hm; omega
    · cases h

theorem yielded_of {ops : Array Oper} {a : Act} {j g : Nat} {b : Bool} (hj : (ops[j]?).bind (·.dst) = some g) (h : a.tmps.getD g undef = .bool b) : yielded ops a.tmps j = some b := by
  unfold yielded
  rw [hj]
  simp only [Option.bind_some]
  simp only [Array.getD_eq_getD_getElem?] at h
  cases hg : a.tmps[g]? with
  | none => simp [hg, undef] at h
  | some v => simp only [hg, Option.getD_some] at h; simp [h]

theorem yielded_not {ops : Array Oper} {a : Act} {j g : Nat} {vs : Array Value} (hj : (ops[j]?).bind (·.dst) = some g) (h : a.tmps.getD g undef = .tuple vs) : yielded ops a.tmps j = none := by
  unfold yielded
  rw [hj]
  simp only [Option.bind_some]
  simp only [Array.getD_eq_getD_getElem?] at h
  cases hg : a.tmps[g]? with
  | none => rfl
  | some v => simp only [hg, Option.getD_some] at h; simp [h]

theorem setB_lk {g : Nat} {b : Bool} : ∀ (mv : List (Nat × Nat)) (env : List (Nat × AV)), (∀ p ∈ mv, lk p.1 env = lk p.2 env) → lk g env = some (.v (.bool b)) → ∀ t, lk t (setB g b mv env) = lk t env
  | [], env, _, hg, t => by
    simp only [setB, lk_pt]
    split
    · rename_i e; rw [e, hg]
    · rfl
  | (d, s) :: r, env, hmv, hg, t => by
    simp only [setB, nbeq]
    have h1 := hmv (d, s) List.mem_cons_self
    by_cases e : s = g
    · subst e
      simp only [decide_true, cond_true]
      have key : ∀ t, lk t (pt d (.v (.bool b)) env) = lk t env := by
        intro t
        rw [lk_pt]
        split
        · rename_i e; subst e; rw [h1, hg]
        · rfl
      rw [setB_lk r _ (fun p hp => by rw [key, key]; exact hmv p (List.mem_cons_of_mem _ hp)) (by rw [key]; exact hg), key]
    · simp only [e, decide_false, cond_false]
      exact setB_lk r env (fun p hp => hmv p (List.mem_cons_of_mem _ hp)) hg t

theorem Inv.congr {st s : St} (h : Inv st) (he : ∀ t, lk t s.env = lk t st.env) (hm : s.mem = st.mem) (hx : s.nx = st.nx) (hv : ∀ p ∈ s.mv, p ∈ st.mv) : Inv s :=
  ⟨fun t av (hav : lk t s.env = some av) => h.we t av (by show lk t st.env = some av; rw [← he]; exact hav), by rw [hm]; exact h.wm, fun t av hav l hl => by rw [hx]; exact h.lb t av (by rw [← he]; exact hav) l hl,
    fun l bk hl => by rw [hx]; exact h.mb l bk (by rw [← hm]; exact hl), fun p hp => by rw [he, he]; exact h.mv p (hv p hp)⟩

theorem note_inv {st : St} {o : Oper} (hI : Inv st) (hw : ∀ s d, o.dst = some d → o.op = .move (.tmp s) → s ≠ d → lk d st.env = lk s st.env) : Inv (st.note o) := by
  unfold St.note
  split
  · rename_i d s hd ho
    by_cases hds : d = s
    · subst hds; simp [Nat.beq_refl]; exact hI
    · have : Nat.beq d s = false := by rw [nbeq]; simp [hds]
      simp only [this, cond_false]
      refine ⟨hI.we, hI.wm, hI.lb, hI.mb, fun p hp => ?_⟩
      rcases List.mem_cons.1 hp with rfl | hp
      · exact hw s d hd ho (fun e => hds e.symm)
      · exact hI.mv p hp
  · exact hI

/-- How the evaluation went, operation by operation. -/
inductive Tr (P : Program) (ops : List Oper) : List Oper → List (Option Eff) → St → St → Prop
  | nil (st : St) : Tr P ops [] [] st st
  | go {o : Oper} {rest : List Oper} {e : Eff} {es : List (Option Eff)} {st s stN : St} (hI : Inv st)
      (hg : ∀ j want, o.guard = some (j, want) → ∃ g, (nthL j ops).bind (·.dst) = some g ∧ lk g st.env = some (.v (.bool want)))
      (hT : Told P (fun t => lk t st.env) (fun l => lk l st.mem) o e) (hn : s.n = st.n) (hx : s.nx = st.nx + 1) (hd : ∀ d, o.dst = some d → d < st.n)
      (he : ∀ t, lk t s.env = effEnv o.dst st.nx (some e) (fun t => lk t st.env) t) (hm : ∀ l, lk l s.mem = effMem st.nx (some e) (fun l => lk l st.mem) l)
      (hr : Tr P ops rest es s stN) : Tr P ops (o :: rest) (some e :: es) st stN
  | skip {o : Oper} {rest : List Oper} {es : List (Option Eff)} {st s stN : St} (hI : Inv st)
      (hg : ∃ j want g, o.guard = some (j, want) ∧ (nthL j ops).bind (·.dst) = some g ∧ (lk g st.env = some (.v (.bool (!want))) ∨ ∃ vs, lk g st.env = some (.v (.tuple vs))))
      (hn : s.n = st.n) (hx : s.nx = st.nx + 1) (hd : ∀ d, o.dst = some d → d < st.n)
      (he : ∀ t, lk t s.env = effEnv o.dst st.nx none (fun t => lk t st.env) t) (hm : ∀ l, lk l s.mem = lk l st.mem)
      (hr : Tr P ops rest es s stN) : Tr P ops (o :: rest) (none :: es) st stN

theorem Tr.congr {ops rest : List Oper} {es : List (Option Eff)} {st st' stN : St} (h : Tr P ops rest es st stN) (hI : Inv st') (he : ∀ t, lk t st'.env = lk t st.env) (hm : st'.mem = st.mem) (hx : st'.nx = st.nx) (hn : st'.n = st.n) (hne : rest ≠ []) :
    Tr P ops rest es st' stN := by
  have e1 : (fun t => lk t st'.env) = fun t => lk t st.env := funext he
  cases h with
  | nil => exact absurd rfl hne
  | go hI0 hg hT hn0 hx0 hd he0 hm0 hr =>
    refine .go hI (fun j want hj => ?_) (by rw [e1, hm]; exact hT) (by omega) (by omega) (by rw [hn]; exact hd) (by rw [e1, hx]; exact he0) (by rw [hm, hx]; exact hm0) hr
    obtain ⟨g, h1, h2⟩ := hg j want hj
    exact ⟨g, h1, by rw [he]; exact h2⟩
  | skip hI0 hg hn0 hx0 hd he0 hm0 hr =>
    refine .skip hI ?_ (by omega) (by omega) (by rw [hn]; exact hd) (by rw [e1, hx]; exact he0) (by rw [hm]; exact hm0) hr
    obtain ⟨j, want, g, h1, h2, h3⟩ := hg
    exact ⟨j, want, g, h1, h2, by rw [he]; exact h3⟩

theorem evOp_move (H : CfgOk P cfg) {R : Type} {r : R} {get : Nat → Option AV} {mem : Nat → Option Bk} {o : Oper} {k : Eff → Option R} (h : evOp cfg get mem o k = some r) (hg : GW get) (hM : MW mem) :
    ∃ e, k e = some r ∧ Told P get mem o e ∧ ∀ sl, o.op = .move (.tmp sl) → ∃ av, get sl = some av ∧ e = .val [] av := by
  by_cases hmv : ∃ sl, o.op = .move (.tmp sl)
  · obtain ⟨sl, ho⟩ := hmv
    simp only [evOp, ho] at h
    obtain ⟨av, ha, h⟩ := getO_some h
    have hx : Operand.tmp sl ∈ o.op.operands.toList := by simp [ho, Op.operands]
    refine ⟨_, h, told_av (opd_wf hg ha) (by simpa using opd_lab hx ha) fun ρ a w hA _ => by simp [execOp, ho, hA.eval hx ha], fun sl' h' => ?_⟩
    rw [ho] at h'
    cases h'
    exact ⟨av, ha, rfl⟩
  · obtain ⟨e, h1, h2⟩ := evOp_some H h hg hM
    exact ⟨e, h1, h2, fun sl h' => absurd ⟨sl, h'⟩ hmv⟩

theorem note_lk {st : St} {o : Oper} : (st.note o).env = st.env ∧ (st.note o).mem = st.mem ∧ (st.note o).nx = st.nx ∧ (st.note o).n = st.n := by
  unfold St.note
  split
  · rename_i d s _ _
    cases Nat.beq d s <;> exact ⟨rfl, rfl, rfl, rfl⟩
  · exact ⟨rfl, rfl, rfl, rfl⟩

theorem evOps_tr (H : CfgOk P cfg) {R : Type} {r : R} {ops : List Oper} : ∀ (rest : List Oper) (st : St) (log : List (Option Eff)) (k : List (Option Eff) → St → Option R), evOps cfg ops log k rest st = some r → Inv st →
    ∃ es stN, k (log ++ es) stN = some r ∧ Inv stN ∧ es.length = rest.length ∧ Tr P ops rest es st stN
  | [], st, log, k, h, hI => ⟨[], st, by simpa [evOps] using h, hI, rfl, .nil st⟩
  | o :: rest, st, log, k, h, hI => by
    have goC : ∀ st' : St, Inv st' → (∀ t, lk t st'.env = lk t st.env) → st'.mem = st.mem → st'.nx = st.nx → st'.n = st.n → (∀ j want, o.guard = some (j, want) → ∃ g, (nthL j ops).bind (·.dst) = some g ∧ lk g st'.env = some (.v (.bool want))) →
        (evOp cfg (fun t => lk t st'.env) (fun l => lk l st'.mem) o fun e => st'.app o.dst e fun s => evOps cfg ops (log ++ [some e]) k rest (s.note o)) = some r →
        ∃ es stN, k (log ++ es) stN = some r ∧ Inv stN ∧ es.length = (o :: rest).length ∧ Tr P ops (o :: rest) es st stN := by
      intro st' hI' he hm hx hn hg h
      obtain ⟨e, h, hT, hmove⟩ := evOp_move H h hI'.we hI'.wm
      obtain ⟨s, h, h1, h2, h3, h4, h5, h6⟩ := app_some h hI' hT.2.1 (fun l hl => by
        obtain ⟨t, _, av, hav, hl'⟩ := hT.2.2 l (List.mem_append_right _ hl)
        exact hI'.lb t av hav l hl')
      have hnote : Inv (s.note o) := by
        refine note_inv h6 (fun sl d hd ho hne => ?_)
        obtain ⟨av, hav, rfl⟩ := hmove sl ho
        rw [h4, h4]
        have e1 : ¬ o.dst = some sl := by rw [hd]; intro e; cases e; exact hne rfl
        simp only [effEnv, hd, if_true, valOf]
        rw [hd] at e1
        simp only [e1, if_false]
        exact hav.symm
      obtain ⟨es, stN, hk, hIN, hlen, htr⟩ := evOps_tr H rest (s.note o) _ k h hnote
      refine ⟨some e :: es, stN, by simpa using hk, hIN, by simp [hlen], ?_⟩
      obtain ⟨n1, n2, n3, n4⟩ := note_lk (st := s) (o := o)
      have ht : Tr P ops (o :: rest) (some e :: es) st' stN :=
        .go hI' hg hT (s := s.note o) (by rw [n4, h1]) (by rw [n3, h2]) h3 (by rw [n1]; exact h4) (by rw [n2]; exact h5) htr
      exact ht.congr hI (fun t => (he t).symm) hm.symm hx.symm hn.symm (by simp)
    have skipC : ∀ st' : St, Inv st' → (∀ t, lk t st'.env = lk t st.env) → st'.mem = st.mem → st'.nx = st.nx → st'.n = st.n →
        (∃ j want g, o.guard = some (j, want) ∧ (nthL j ops).bind (·.dst) = some g ∧ (lk g st'.env = some (.v (.bool (!want))) ∨ ∃ vs, lk g st'.env = some (.v (.tuple vs)))) →
        (match st'.put o.dst (.v undef) with | some s => evOps cfg ops (log ++ [none]) k rest { s with nx := s.nx + 1 } | none => none) = some r →
        ∃ es stN, k (log ++ es) stN = some r ∧ Inv stN ∧ es.length = (o :: rest).length ∧ Tr P ops (o :: rest) es st stN := by
      intro st' hI' he hm hx hn hg h
      split at h
      · rename_i s hp
        obtain ⟨h1, h2, h3, h4, h5, h6⟩ := put_some hp
        have hIs : Inv { s with nx := s.nx + 1 } := by
          refine ⟨fun t x (hx : lk t s.env = some x) => ?_, ?_, fun t x (hx : lk t s.env = some x) l hl => ?_, fun l bk (hl : lk l s.mem = some bk) => ?_, fun p hp => ?_⟩
          · rw [h5] at hx
            split at hx
            · cases hx; intro v hv; simp at hv
            · exact hI'.we t x hx
          · show MW fun l => lk l s.mem
            rw [h2]; exact hI'.wm
          · rw [h5] at hx
            split at hx
            · cases hx; simp [lab] at hl
            · have := hI'.lb t x hx l hl; show l < s.nx + 1; omega
          · rw [h2] at hl
            have := hI'.mb l bk hl; show l < s.nx + 1; omega
          · obtain ⟨a, b⟩ := h6 p hp
            show lk p.1 s.env = lk p.2 s.env
            rw [h5, h5]
            have e1 : ¬ o.dst = some p.1 := fun e => (b _ e).1 rfl
            have e2 : ¬ o.dst = some p.2 := fun e => (b _ e).2 rfl
            simp only [e1, e2, if_false]
            exact hI'.mv p a
        obtain ⟨es, stN, hk, hIN, hlen, htr⟩ := evOps_tr H rest _ _ k h hIs
        refine ⟨none :: es, stN, by simpa using hk, hIN, by simp [hlen], ?_⟩
        have ht : Tr P ops (o :: rest) (none :: es) st' stN :=
          .skip hI' hg (s := { s with nx := s.nx + 1 }) h1 (by show s.nx + 1 = _; rw [h3]) h4 (fun t => by show lk t s.env = _; simp [h5, effEnv, valOf]) (fun l => by show lk l s.mem = _; rw [h2]) htr
        exact ht.congr hI (fun t => (he t).symm) hm.symm hx.symm hn.symm (by simp)
      · cases h
    simp only [evOps, norm_eq] at h
    split at h
    · rename_i hg
      exact goC st hI (fun _ => rfl) rfl rfl rfl (fun j want hj => by rw [hg] at hj; cases hj) h
    · rename_i j want hg
      split at h
      · rename_i g hj
        split at h
        · rename_i b hb
          have hlk : ∀ (c : Bool), c = b → ∀ t, lk t (setB g c st.mv st.env) = lk t st.env := fun c hc => by subst hc; exact setB_lk st.mv st.env hI.mv hb
          have hIc : ∀ (c : Bool), c = b → Inv { st with env := setB g c st.mv st.env } := fun c hc => hI.congr (hlk c hc) rfl rfl (fun p hp => hp)
          cases b with
          | true =>
            simp only [cond_true] at h
            cases want with
            | true =>
              simp only [cond_true] at h
              refine goC { st with env := setB g true st.mv st.env } (hIc true rfl) (hlk true rfl) rfl rfl rfl (fun j' want' hj' => ?_) h
              rw [hg] at hj'; cases hj'
              exact ⟨g, hj, by show lk g (setB g true st.mv st.env) = _; rw [hlk true rfl]; exact hb⟩
            | false =>
              simp only [cond_false] at h
              exact skipC { st with env := setB g true st.mv st.env } (hIc true rfl) (hlk true rfl) rfl rfl rfl ⟨j, false, g, hg, hj, .inl (by show lk g (setB g true st.mv st.env) = _; rw [hlk true rfl]; exact hb)⟩ h
          | false =>
            simp only [cond_false] at h
            cases want with
            | true =>
              simp only [cond_true] at h
              exact skipC { st with env := setB g false st.mv st.env } (hIc false rfl) (hlk false rfl) rfl rfl rfl ⟨j, true, g, hg, hj, .inl (by show lk g (setB g false st.mv st.env) = _; rw [hlk false rfl]; exact hb)⟩ h
            | false =>
              simp only [cond_false] at h
              refine goC { st with env := setB g false st.mv st.env } (hIc false rfl) (hlk false rfl) rfl rfl rfl (fun j' want' hj' => ?_) h
              rw [hg] at hj'; cases hj'
              exact ⟨g, hj, by show lk g (setB g false st.mv st.env) = _; rw [hlk false rfl]; exact hb⟩
        · rename_i vs hvs
          exact skipC st hI (fun _ => rfl) rfl rfl rfl ⟨j, want, g, hg, hj, .inr ⟨vs, hvs⟩⟩ h
        · cases h
      · cases h

end
end Go.Proofs.YtnfbcofieobkkaaDoor.Ev

/- The evaluator is sound, eighth part: a region runs, in the order of the text or in any order that its edges allow. -/
namespace Go.Proofs.YtnfbcofieobkkaaDoor.Ev
open Go Go.RowKit
set_option linter.unusedVariables false
set_option linter.unusedSimpArgs false

section
variable {P : Program} {cfg : Cfg}

def SRel (w0 : World) (ρ : Nat → Nat) (st : St) (a : Act) (w : World) : Prop := FRel w0 ρ (fun t => lk t st.env) (fun l => lk l st.mem) st.n a w

theorem skip_not {ops : List Oper} {o : Oper} {st : St} {a : Act} {env : Nat → Option AV}
    (hg : ∃ j want g, o.guard = some (j, want) ∧ (nthL j ops).bind (·.dst) = some g ∧ (lk g st.env = some (.v (.bool (!want))) ∨ ∃ vs, lk g st.env = some (.v (.tuple vs))))
    (he : ∀ t av, env t = some av → ∀ x, av = .v x → a.tmps.getD t undef = x) (hs : ∀ j want g, o.guard = some (j, want) → (nthL j ops).bind (·.dst) = some g → lk g st.env = env g) : Region.wanted o (yielded ops.toArray a.tmps) = false := by
  obtain ⟨j, want, g, h1, h2, h3⟩ := hg
  have hj : (ops.toArray[j]?).bind (·.dst) = some g := by rw [nthL_eq] at h2; simpa using h2
  have e := hs j want g h1 h2
  unfold Region.wanted
  rw [h1]
  simp only
  rcases h3 with h3 | ⟨vs, h3⟩
  · rw [yielded_of hj (he g _ (by rw [← e]; exact h3) _ rfl)]
    cases want <;> rfl
  · rw [yielded_not hj (he g _ (by rw [← e]; exact h3) _ rfl)]
    rfl

theorem go_wanted {ops : List Oper} {o : Oper} {st : St} {a : Act} {env : Nat → Option AV}
    (hg : ∀ j want, o.guard = some (j, want) → ∃ g, (nthL j ops).bind (·.dst) = some g ∧ lk g st.env = some (.v (.bool want)))
    (he : ∀ t av, env t = some av → ∀ x, av = .v x → a.tmps.getD t undef = x) (hs : ∀ j want g, o.guard = some (j, want) → (nthL j ops).bind (·.dst) = some g → lk g st.env = env g) : Region.wanted o (yielded ops.toArray a.tmps) = true := by
  unfold Region.wanted
  cases hgd : o.guard with
  | none => rfl
  | some p =>
    obtain ⟨j, want⟩ := p
    obtain ⟨g, h2, h3⟩ := hg j want hgd
    have hj : (ops.toArray[j]?).bind (·.dst) = some g := by rw [nthL_eq] at h2; simpa using h2
    have e := hs j want g hgd h2
    simp only
    rw [yielded_of hj (he g _ (by rw [← e]; exact h3) _ rfl)]
    simp

theorem FRel.val {w0 : World} {ρ : Nat → Nat} {env : Nat → Option AV} {mem : Nat → Option Bk} {n : Nat} {a : Act} {w : World} (h : FRel w0 ρ env mem n a w) : ∀ t av, env t = some av → ∀ x, av = .v x → a.tmps.getD t undef = x := by
  rintro t av hav x rfl
  exact h.he t _ hav

/-- In the order of the text. -/
theorem tr_seq {ops : List Oper} : ∀ {rest : List Oper} {es : List (Option Eff)} {st stN : St}, Tr P ops rest es st stN → ∀ {w0 : World} {ρ : Nat → Nat} {a : Act} {w : World}, SRel w0 ρ st a w → ∀ {Q : Exit → Act → World → Prop},
    (∀ ρ' a' w', SRel w0 ρ' stN a' w' → Q .normal a' w') → wpList P ops.toArray Q rest a w := by
  intro rest es st stN h
  induction h with
  | nil st => intro w0 ρ a w hR Q hQ; exact wpList_nil (hQ ρ a w hR)
  | @go o rest e es st s stN hI hg hT hn hx hd he hm hr ih =>
    intro w0 ρ a w hR Q hQ
    have hw := go_wanted hg hR.val (fun _ _ _ _ _ => rfl)
    unfold wpList
    rw [if_pos hw]
    refine .inl (step_go hT.1 hR (fun _ _ => rfl) (fun _ _ => rfl) hd (lbl := st.nx) ?_ ?_ fun ρ' a' w' hR' => ih (ρ := ρ') ?_ hQ)
    · intro t av hav hl
      have := hI.lb t av hav _ hl
      omega
    · cases hmm : lk st.nx st.mem with
      | none => rfl
      | some bk => have := hI.mb _ _ hmm; omega
    · have e1 : (fun t => lk t s.env) = effEnv o.dst st.nx (some e) (fun t => lk t st.env) := funext he
      have e2 : (fun l => lk l s.mem) = effMem st.nx (some e) (fun l => lk l st.mem) := funext hm
      unfold SRel
      rw [e1, e2, hn]
      exact hR'
  | @skip o rest es st s stN hI hg hn hx hd he hm hr ih =>
    intro w0 ρ a w hR Q hQ
    have hw := skip_not hg hR.val (fun _ _ _ _ _ => rfl)
    unfold wpList
    rw [if_neg (by rw [hw]; simp)]
    refine ih (ρ := ρ) ?_ hQ
    have e1 : (fun t => lk t s.env) = effEnv o.dst st.nx none (fun t => lk t st.env) := funext he
    have e2 : (fun l => lk l s.mem) = fun l => lk l st.mem := funext hm
    unfold SRel
    rw [e1, e2, hn]
    exact hR.put o.dst hd (.v undef)

/-! ### Any order -/

def stepE (nx : Nat) (i : Nat) (p : Oper × Option Eff) (env : Nat → Option AV) : Nat → Option AV := effEnv p.1.dst (nx + i) p.2 env
def stepM (nx : Nat) (i : Nat) (p : Oper × Option Eff) (mem : Nat → Option Bk) : Nat → Option Bk := effMem (nx + i) p.2 mem

def foldE (nx : Nat) (L : Nat → Bool) : List (Oper × Option Eff) → Nat → (Nat → Option AV) → Nat → Option AV
  | [], _, env => env
  | p :: r, i, env => foldE nx L r (i + 1) (if L i then stepE nx i p env else env)

def foldM (nx : Nat) (L : Nat → Bool) : List (Oper × Option Eff) → Nat → (Nat → Option Bk) → Nat → Option Bk
  | [], _, mem => mem
  | p :: r, i, mem => foldM nx L r (i + 1) (if L i then stepM nx i p mem else mem)

theorem foldE_append (nx : Nat) (L : Nat → Bool) : ∀ (l r : List (Oper × Option Eff)) (i : Nat) (env : Nat → Option AV), foldE nx L (l ++ r) i env = foldE nx L r (i + l.length) (foldE nx L l i env)
  | [], r, i, env => rfl
  | p :: l, r, i, env => by
    simp only [List.cons_append, foldE, foldE_append nx L l r, List.length_cons]
    congr 1
    omega

theorem foldM_append (nx : Nat) (L : Nat → Bool) : ∀ (l r : List (Oper × Option Eff)) (i : Nat) (mem : Nat → Option Bk), foldM nx L (l ++ r) i mem = foldM nx L r (i + l.length) (foldM nx L l i mem)
  | [], r, i, mem => rfl
  | p :: l, r, i, mem => by
    simp only [List.cons_append, foldM, foldM_append nx L l r, List.length_cons]
    congr 1
    omega

theorem foldE_congr (nx : Nat) {L L' : Nat → Bool} : ∀ (l : List (Oper × Option Eff)) (i : Nat) (env : Nat → Option AV), (∀ j, i ≤ j → j < i + l.length → L j = L' j) → foldE nx L l i env = foldE nx L' l i env
  | [], _, _, _ => rfl
  | p :: l, i, env, h => by
    simp only [foldE]
    rw [h i (Nat.le_refl _) (by simp), foldE_congr nx l (i + 1) _ (fun j h1 h2 => h j (by omega) (by simp; omega))]

theorem foldM_congr (nx : Nat) {L L' : Nat → Bool} : ∀ (l : List (Oper × Option Eff)) (i : Nat) (mem : Nat → Option Bk), (∀ j, i ≤ j → j < i + l.length → L j = L' j) → foldM nx L l i mem = foldM nx L' l i mem
  | [], _, _, _ => rfl
  | p :: l, i, mem, h => by
    simp only [foldM]
    rw [h i (Nat.le_refl _) (by simp), foldM_congr nx l (i + 1) _ (fun j h1 h2 => h j (by omega) (by simp; omega))]

/-- A slot that no executed operation of these writes. -/
theorem foldE_free (nx : Nat) {L : Nat → Bool} {t : Nat} : ∀ (l : List (Oper × Option Eff)) (i : Nat) (env : Nat → Option AV), (∀ j p, l[j]? = some p → L (i + j) = true → p.1.dst ≠ some t) → foldE nx L l i env t = env t
  | [], _, _, _ => rfl
  | p :: l, i, env, h => by
    simp only [foldE]
    rw [foldE_free nx l (i + 1) _ (fun j q hj hL => h (j + 1) q (by simpa using hj) (by rw [← hL]; congr 1; omega))]
    split
    · rename_i hL
      have := h 0 p rfl (by simpa using hL)
      simp [stepE, effEnv, this]
    · rfl

/-- Two selections that agree on the writers of a slot. -/
theorem foldE_agree (nx : Nat) {L L' : Nat → Bool} {t : Nat} : ∀ (l : List (Oper × Option Eff)) (i : Nat) (env env' : Nat → Option AV), env t = env' t → (∀ j p, l[j]? = some p → p.1.dst = some t → L (i + j) = L' (i + j)) → foldE nx L l i env t = foldE nx L' l i env' t
  | [], _, _, _, h, _ => h
  | p :: l, i, env, env', h0, h => by
    simp only [foldE]
    refine foldE_agree nx l (i + 1) _ _ ?_ (fun j q hj hd => by
      have := h (j + 1) q (by simpa using hj) hd
      rw [show i + 1 + j = i + (j + 1) by omega]; exact this)
    by_cases hd : p.1.dst = some t
    · have := h 0 p rfl hd
      simp only [Nat.add_zero] at this
      rw [this]
      split
      · simp [stepE, effEnv, hd]
      · exact h0
    · split <;> split <;> simp [stepE, effEnv, hd, h0]

/-- What an effect touches of the memory. -/
def touch (lbl : Nat) : Option Eff → List Nat
  | some (.wr l _) => [l]
  | some (.nw _ _ _ _) => [lbl]
  | _ => []

theorem effMem_free {lbl : Nat} {e : Option Eff} {mem : Nat → Option Bk} {l : Nat} (h : l ∉ touch lbl e) : effMem lbl e mem l = mem l := by
  match e with
  | none => rfl
  | some (.val _ _) => rfl
  | some (.wr m b) => simp [touch] at h; simp [effMem, h]
  | some (.nw _ _ _ _) => simp [touch] at h; simp [effMem, h]

theorem effMem_local {lbl : Nat} {e : Option Eff} {mem mem' : Nat → Option Bk} {l : Nat} (h : mem l = mem' l) : effMem lbl e mem l = effMem lbl e mem' l := by
  match e with
  | none => exact h
  | some (.val _ _) => exact h
  | some (.wr m b) =>
    simp only [effMem]
    split
    · rename_i e; subst e; rw [h]
    · exact h
  | some (.nw _ _ _ _) =>
    simp only [effMem]
    split
    · rfl
    · exact h

theorem foldM_free (nx : Nat) {L : Nat → Bool} {m : Nat} : ∀ (l : List (Oper × Option Eff)) (i : Nat) (mem : Nat → Option Bk), (∀ j p, l[j]? = some p → L (i + j) = true → m ∉ touch (nx + (i + j)) p.2) → foldM nx L l i mem m = mem m
  | [], _, _, _ => rfl
  | p :: l, i, mem, h => by
    simp only [foldM]
    rw [foldM_free nx l (i + 1) _ (fun j q hj hL => by
      have := h (j + 1) q (by simpa using hj) (by rw [← hL]; congr 1; omega)
      rw [show i + 1 + j = i + (j + 1) by omega]; exact this)]
    split
    · rename_i hL
      exact effMem_free (by have := h 0 p rfl (by simpa using hL); simpa using this)
    · rfl

theorem foldM_agree (nx : Nat) {L L' : Nat → Bool} {m : Nat} : ∀ (l : List (Oper × Option Eff)) (i : Nat) (mem mem' : Nat → Option Bk), mem m = mem' m → (∀ j p, l[j]? = some p → m ∈ touch (nx + (i + j)) p.2 → L (i + j) = L' (i + j)) → foldM nx L l i mem m = foldM nx L' l i mem' m
  | [], _, _, _, h, _ => h
  | p :: l, i, mem, mem', h0, h => by
    simp only [foldM]
    refine foldM_agree nx l (i + 1) _ _ ?_ (fun j q hj hd => by
      have := h (j + 1) q (by simpa using hj) (by rw [show i + (j + 1) = i + 1 + j by omega]; exact hd)
      rw [show i + 1 + j = i + (j + 1) by omega]; exact this)
    by_cases hd : m ∈ touch (nx + i) p.2
    · have := h 0 p rfl (by simpa using hd)
      simp only [Nat.add_zero] at this
      rw [this]
      split
      · exact effMem_local h0
      · exact h0
    · split <;> split <;> simp [stepM, effMem_free hd, h0]

theorem okFrom_get {ops : List Oper} {i : Nat} {oi : Oper} {ei : Option Eff} : ∀ {r : List (Oper × Option Eff)}, okFrom ops i oi ei r = true → ∀ (j : Nat) oj ej, r[j]? = some (oj, ej) → conf ops oi ei oj ej = true → ordered i oj = true
  | [], _, j, oj, ej, h, _ => by simp at h
  | (o, e) :: r, h, j, oj, ej, hj, hc => by
    simp only [okFrom, Bool.and_eq_true, Bool.or_eq_true, Bool.not_eq_true'] at h
    cases j with
    | zero =>
      simp only [List.getElem?_cons_zero, Option.some.injEq, Prod.mk.injEq] at hj
      obtain ⟨rfl, rfl⟩ := hj
      rcases h.1 with h1 | h1
      · rw [hc] at h1; cases h1
      · exact h1
    | succ j => exact okFrom_get h.2 j oj ej (by simpa using hj) hc

theorem okAll_get {ops : List Oper} : ∀ {r : List (Oper × Option Eff)} {i0 : Nat}, okAll ops i0 r = true → ∀ (i : Nat) oi ei, r[i]? = some (oi, ei) →
    (∀ d ∈ oi.after.toList, Region.binds .any d = true → d.on < i0 + i) ∧ ∀ (j : Nat) oj ej, i < j → r[j]? = some (oj, ej) → conf ops oi ei oj ej = true → ordered (i0 + i) oj = true
  | [], i0, _, i, oi, ei, h => by simp at h
  | (o, e) :: r, i0, h, i, oi, ei, hi => by
    simp only [okAll, Bool.and_eq_true] at h
    obtain ⟨⟨h1, h2⟩, h3⟩ := h
    cases i with
    | zero =>
      simp only [List.getElem?_cons_zero, Option.some.injEq, Prod.mk.injEq] at hi
      obtain ⟨rfl, rfl⟩ := hi
      refine ⟨fun d hd hb => ?_, fun j oj ej hj hr hc => ?_⟩
      · have := List.all_eq_true.1 h1 d hd
        simp only [hb, Bool.not_true, Bool.false_or, nblt, decide_eq_true_eq] at this
        omega
      · cases j with
        | zero => omega
        | succ j => exact okFrom_get h2 j oj ej (by simpa using hr) hc
    | succ i =>
      obtain ⟨a, b⟩ := okAll_get h3 i oi ei (by simpa using hi)
      refine ⟨fun d hd hb => by have := a d hd hb; omega, fun j oj ej hj hr hc => ?_⟩
      cases j with
      | zero => omega
      | succ j =>
        have := b j oj ej (by omega) (by simpa using hr) hc
        rw [show i0 + (i + 1) = i0 + 1 + i by omega]
        exact this

/-- What is known of one operation, at its place in the text. -/
structure AtOp (P : Program) (ops : List Oper) (o : Oper) (e : Option Eff) (s : St) : Prop where
  inv : Inv s
  d : ∀ d, o.dst = some d → d < s.n
  ev : match e with
    | some e => (∀ j want, o.guard = some (j, want) → ∃ g, (nthL j ops).bind (·.dst) = some g ∧ lk g s.env = some (.v (.bool want))) ∧ Told P (fun t => lk t s.env) (fun l => lk l s.mem) o e
    | none => ∃ j want g, o.guard = some (j, want) ∧ (nthL j ops).bind (·.dst) = some g ∧ (lk g s.env = some (.v (.bool (!want))) ∨ ∃ vs, lk g s.env = some (.v (.tuple vs)))

theorem tr_at {ops : List Oper} {nx : Nat} : ∀ {rest : List Oper} {es : List (Option Eff)} {st stN : St}, Tr P ops rest es st stN → ∀ (i0 : Nat), st.nx = nx + i0 →
    (∀ (i : Nat) o e, (rest.zip es)[i]? = some (o, e) → ∃ s, AtOp P ops o e s ∧ s.nx = nx + i0 + i ∧ s.n = st.n ∧
      (∀ t, lk t s.env = foldE nx (fun j => decide (j < i0 + i)) (rest.zip es) i0 (fun t => lk t st.env) t) ∧ (∀ l, lk l s.mem = foldM nx (fun j => decide (j < i0 + i)) (rest.zip es) i0 (fun l => lk l st.mem) l)) ∧
    (∀ t, lk t stN.env = foldE nx (fun _ => true) (rest.zip es) i0 (fun t => lk t st.env) t) ∧ (∀ l, lk l stN.mem = foldM nx (fun _ => true) (rest.zip es) i0 (fun l => lk l st.mem) l) ∧ stN.n = st.n ∧ stN.nx = nx + i0 + rest.length := by
  intro rest es st stN h
  induction h with
  | nil st => intro i0 hx; exact ⟨fun i o e h => by simp at h, fun t => rfl, fun l => rfl, rfl, by simp; exact hx⟩
  | @go o rest e es st s stN hI hg hT hn hx hd he hm hr ih =>
    intro i0 hnx
    obtain ⟨a, b, c, d1, d2⟩ := ih (i0 + 1) (by omega)
    have e1 : (fun t => lk t s.env) = stepE nx i0 (o, some e) (fun t => lk t st.env) := funext fun t => by rw [he]; simp [stepE, hnx]
    have e2 : (fun l => lk l s.mem) = stepM nx i0 (o, some e) (fun l => lk l st.mem) := funext fun l => by rw [hm]; simp [stepM, hnx]
    refine ⟨fun i o' e' h => ?_, fun t => ?_, fun l => ?_, by omega, by simp; omega⟩
    · cases i with
      | zero =>
        simp only [List.zip_cons_cons, List.getElem?_cons_zero, Option.some.injEq, Prod.mk.injEq] at h
        obtain ⟨rfl, rfl⟩ := h
        refine ⟨st, ⟨hI, hd, hg, hT⟩, by omega, rfl, fun t => ?_, fun l => ?_⟩
        · rw [foldE_free]
          intro j p _ hL
          exact absurd (of_decide_eq_true hL) (by omega)
        · rw [foldM_free]
          intro j p _ hL
          exact absurd (of_decide_eq_true hL) (by omega)
      | succ i =>
        obtain ⟨s', h1, h2, h3, h4, h5⟩ := a i o' e' (by simpa using h)
        refine ⟨s', h1, by omega, by omega, fun t => ?_, fun l => ?_⟩
        · rw [h4, List.zip_cons_cons, foldE]
          have : decide (i0 < i0 + (i + 1)) = true := by simp
          rw [this, if_pos rfl, e1]
          simp only [show i0 + 1 + i = i0 + (i + 1) by omega]
        · rw [h5, List.zip_cons_cons, foldM]
          have : decide (i0 < i0 + (i + 1)) = true := by simp
          rw [this, if_pos rfl, e2]
          simp only [show i0 + 1 + i = i0 + (i + 1) by omega]
    · rw [b, List.zip_cons_cons, foldE, if_pos rfl, e1]
    · rw [c, List.zip_cons_cons, foldM, if_pos rfl, e2]
  | @skip o rest es st s stN hI hg hn hx hd he hm hr ih =>
    intro i0 hnx
    obtain ⟨a, b, c, d1, d2⟩ := ih (i0 + 1) (by omega)
    have e1 : (fun t => lk t s.env) = stepE nx i0 (o, none) (fun t => lk t st.env) := funext fun t => by rw [he]; simp [stepE, hnx]
    have e2 : (fun l => lk l s.mem) = stepM nx i0 (o, none) (fun l => lk l st.mem) := funext fun l => by rw [hm]; simp [stepM, effMem]
    refine ⟨fun i o' e' h => ?_, fun t => ?_, fun l => ?_, by omega, by simp; omega⟩
    · cases i with
      | zero =>
        simp only [List.zip_cons_cons, List.getElem?_cons_zero, Option.some.injEq, Prod.mk.injEq] at h
        obtain ⟨rfl, rfl⟩ := h
        refine ⟨st, ⟨hI, hd, hg⟩, by omega, rfl, fun t => ?_, fun l => ?_⟩
        · rw [foldE_free]
          intro j p _ hL
          exact absurd (of_decide_eq_true hL) (by omega)
        · rw [foldM_free]
          intro j p _ hL
          exact absurd (of_decide_eq_true hL) (by omega)
      | succ i =>
        obtain ⟨s', h1, h2, h3, h4, h5⟩ := a i o' e' (by simpa using h)
        refine ⟨s', h1, by omega, by omega, fun t => ?_, fun l => ?_⟩
        · rw [h4, List.zip_cons_cons, foldE]
          have : decide (i0 < i0 + (i + 1)) = true := by simp
          rw [this, if_pos rfl, e1]
          simp only [show i0 + 1 + i = i0 + (i + 1) by omega]
        · rw [h5, List.zip_cons_cons, foldM]
          have : decide (i0 < i0 + (i + 1)) = true := by simp
          rw [this, if_pos rfl, e2]
          simp only [show i0 + 1 + i = i0 + (i + 1) by omega]
    · rw [b, List.zip_cons_cons, foldE, if_pos rfl, e1]
    · rw [c, List.zip_cons_cons, foldM, if_pos rfl, e2]

def cnt (L : Nat → Bool) : Nat → Nat
  | 0 => 0
  | n + 1 => cnt L n + (if L n then 0 else 1)

theorem cnt_zero {L : Nat → Bool} : ∀ {n : Nat}, cnt L n = 0 → ∀ j, j < n → L j = true
  | n + 1, h, j, hj => by
    simp only [cnt] at h
    rcases Nat.lt_or_ge j n with h1 | h1
    · exact cnt_zero (by omega) j h1
    · have : j = n := by omega
      subst this
      cases hL : L j with
      | true => rfl
      | false => simp [hL] at h

theorem cnt_set {L : Nat → Bool} {i : Nat} (hi : L i = false) : ∀ {n : Nat}, cnt (fun j => if j = i then true else L j) n + (if i < n then 1 else 0) = cnt L n
  | 0 => by simp [cnt]
  | n + 1 => by
    simp only [cnt]
    have ih := cnt_set hi (n := n)
    by_cases h : n = i
    · subst h
      simp only [Nat.lt_irrefl, if_false, Nat.add_zero] at ih
      rw [ih]
      simp [hi]
    · simp only [h, if_false]
      by_cases h2 : i < n
      · have h3 : i < n + 1 := by omega
        simp only [h2, h3, if_true] at ih ⊢
        omega
      · have h3 : ¬ i < n + 1 := by omega
        simp only [h2, h3, if_false] at ih ⊢
        omega

theorem least_unlisted {L : Nat → Bool} : ∀ {n i : Nat}, i < n → L i = false → ∃ m, m < n ∧ L m = false ∧ ∀ j, j < m → L j = true := by
  intro n i hi hL
  induction i using Nat.strongRecOn with
  | _ i ih =>
    by_cases h : ∃ j, j < i ∧ L j = false
    · obtain ⟨j, hj, hLj⟩ := h
      exact ih j hj (by omega) hLj
    · refine ⟨i, hi, hL, fun j hj => ?_⟩
      cases hLj : L j with
      | true => rfl
      | false => exact absurd ⟨j, hj, hLj⟩ h

/-- What holds when the operations in L have run. -/
structure DI (w0 : World) (nx : Nat) (ops : List Oper) (zs : List (Oper × Option Eff)) (env0 : Nat → Option AV) (mem0 : Nat → Option Bk) (n : Nat) (L : Nat → Bool) (ρ : Nat → Nat) (a : Act) (w : World) : Prop where
  rel : FRel w0 ρ (foldE nx L zs 0 env0) (foldM nx L zs 0 mem0) n a w
  down : ∀ j o e, zs[j]? = some (o, e) → L j = true → ∀ d ∈ o.after.toList, Region.binds .any d = true → L d.on = true
  lab : ∀ t av, foldE nx L zs 0 env0 t = some av → ∀ l ∈ lab av, l < nx ∨ ∃ j, L j = true ∧ l = nx + j
  dom : ∀ l bk, foldM nx L zs 0 mem0 l = some bk → l < nx ∨ ∃ j, L j = true ∧ l = nx + j
  wr : ∀ j o l b, zs[j]? = some (o, some (.wr l b)) → L j = true → l < nx ∨ ∃ m, L m = true ∧ l = nx + m

theorem split_at {α : Type} {l : List α} {i : Nat} {x : α} (h : l[i]? = some x) : l = l.take i ++ (x :: l.drop (i + 1)) ∧ (l.take i).length = i := by
  obtain ⟨hi, rfl⟩ := List.getElem?_eq_some_iff.1 h
  constructor
  · rw [← List.drop_eq_getElem_cons hi, List.take_append_drop]
  · simp; omega

theorem meet_true {a b : List Nat} {x : Nat} (h1 : x ∈ a) (h2 : x ∈ b) : meet a b = true := by
  simp only [meet, List.any_eq_true]
  exact ⟨x, h1, x, h2, by simp⟩

theorem ordered_mem {i : Nat} {o : Oper} (h : ordered i o = true) : ∃ d ∈ o.after.toList, d.on = i ∧ Region.binds .any d = true := by
  simp only [ordered, List.any_eq_true, Bool.and_eq_true, nbeq, decide_eq_true_eq] at h
  obtain ⟨d, hd, h1, h2⟩ := h
  exact ⟨d, hd, h1, h2⟩

theorem conf_of {ops : List Oper} {oi oj : Oper} {ei ej : Option Eff}
    (h : meet (dstL oi) (opReads ops oj) = true ∨ meet (dstL oi) (dstL oj) = true ∨ meet (dstL oj) (opReads ops oi) = true ∨ meet (Eff.wrs ei) (Eff.acc ej) = true ∨ meet (Eff.wrs ej) (Eff.acc ei) = true) : conf ops oi ei oj ej = true := by
  simp only [conf, Bool.or_eq_true]
  rcases h with h | h | h | h | h <;> simp [h]

theorem tmps_reads {ops : List Oper} {o : Oper} {t : Nat} (h : t ∈ tmpsOf o) : t ∈ opReads ops o := List.mem_append_left _ h

theorem guard_reads {ops : List Oper} {o : Oper} {j g : Nat} {want : Bool} (h : o.guard = some (j, want)) (hg : (nthL j ops).bind (·.dst) = some g) : g ∈ opReads ops o := by
  refine List.mem_append_right _ ?_
  rw [h]
  simp only [hg, List.mem_singleton]

theorem touch_wrs {lbl l : Nat} {e : Option Eff} (h : l ∈ touch lbl e) : l ∈ Eff.wrs e ∨ (l = lbl ∧ ∃ T b sl n, e = some (.nw T b sl n)) := by
  match e, h with
  | some (.wr m b), h => exact .inl h
  | some (.nw T b sl n), h => simp only [touch, List.mem_singleton] at h; exact .inr ⟨h, T, b, sl, n, rfl⟩

end
end Go.Proofs.YtnfbcofieobkkaaDoor.Ev

/- The evaluator is sound, ninth part: a region in any order; code; a function. -/
namespace Go.Proofs.YtnfbcofieobkkaaDoor.Ev
open Go Go.RowKit
set_option linter.unusedVariables false
set_option linter.unusedSimpArgs false

section
variable {P : Program} {cfg : Cfg}

theorem draw_step {ops : List Oper} {zs : List (Oper × Option Eff)} {st0 : St} {w0 : World} {L : Nat → Bool} {ρ : Nat → Nat} {a : Act} {w : World} {i : Nat} {o : Oper} {e : Option Eff} {s : St}
    (hok : okAll ops 0 zs = true) (hzi : zs[i]? = some (o, e)) (hat : AtOp P ops o e s) (hx : s.nx = st0.nx + i) (hn : s.n = st0.n)
    (hse : ∀ t, lk t s.env = foldE st0.nx (fun j => decide (j < i)) zs 0 (fun t => lk t st0.env) t) (hsm : ∀ l, lk l s.mem = foldM st0.nx (fun j => decide (j < i)) zs 0 (fun l => lk l st0.mem) l)
    (hD : DI w0 st0.nx ops zs (fun t => lk t st0.env) (fun l => lk l st0.mem) st0.n L ρ a w) (hi : L i = false) (hready : ∀ d ∈ o.after.toList, Region.binds .any d = true → L d.on = true)
    {K : Act → World → Prop} {Q : Exit → Act → World → Prop}
    (hK : ∀ ρ' a' w', DI w0 st0.nx ops zs (fun t => lk t st0.env) (fun l => lk l st0.mem) st0.n (fun j => if j = i then true else L j) ρ' a' w' → K a' w') :
    if Region.wanted o (yielded ops.toArray a.tmps) then o.wp P a w K Q ∨ (o.asks P a w ∧ LetsOut Q) else K (a.put o.dst undef) w := by
  obtain ⟨hsplit, hlen⟩ := split_at hzi
  -- no executed operation behind this one is in conflict with it; every one ahead of it that is has run
  have hbehind : ∀ j oj ej, i < j → zs[j]? = some (oj, ej) → L j = true → conf ops o e oj ej = false := by
    intro j oj ej hij hj hLj
    cases hc : conf ops o e oj ej with
    | false => rfl
    | true =>
      have := (okAll_get hok i o e hzi).2 j oj ej hij hj hc
      obtain ⟨d, hd, h1, h2⟩ := ordered_mem this
      have := hD.down j oj ej hj hLj d hd h2
      rw [h1] at this
      simp only [Nat.zero_add] at this
      rw [hi] at this; cases this
  have hahead : ∀ j oj ej, j < i → zs[j]? = some (oj, ej) → conf ops oj ej o e = true → L j = true := by
    intro j oj ej hij hj hc
    have := (okAll_get hok j oj ej hj).2 i o e hij hzi hc
    obtain ⟨d, hd, h1, h2⟩ := ordered_mem this
    have := hready d hd h2
    rw [h1] at this
    simpa using this
  -- the slots that it looks at
  have hagree : ∀ t ∈ opReads ops o, lk t s.env = foldE st0.nx L zs 0 (fun t => lk t st0.env) t := by
    intro t ht
    rw [hse]
    refine foldE_agree _ _ _ _ _ rfl (fun j p hj hd => ?_)
    obtain ⟨oj, ej⟩ := p
    simp only [Nat.zero_add]
    have hdt : t ∈ dstL oj := by simp only at hd; simp [dstL, hd]
    rcases Nat.lt_trichotomy j i with h1 | h1 | h1
    · rw [hahead j oj ej h1 hj (conf_of (.inl (meet_true hdt ht)))]
      simp [h1]
    · subst h1
      rw [hi]; simp
    · cases hL : L j with
      | false => simp; omega
      | true =>
        have := hbehind j oj ej h1 hj hL
        rw [conf_of (.inr (.inr (.inl (meet_true hdt ht))))] at this
        cases this
  have hval : ∀ t av, foldE st0.nx L zs 0 (fun t => lk t st0.env) t = some av → ∀ x, av = .v x → a.tmps.getD t undef = x := hD.rel.val
  have hgs : ∀ j want g, o.guard = some (j, want) → (nthL j ops).bind (·.dst) = some g → lk g s.env = foldE st0.nx L zs 0 (fun t => lk t st0.env) g := fun j want g h1 h2 => hagree g (guard_reads h1 h2)
  -- the new state is the old one with the effect
  have hE : foldE st0.nx (fun j => if j = i then true else L j) zs 0 (fun t => lk t st0.env) = effEnv o.dst (st0.nx + i) e (foldE st0.nx L zs 0 (fun t => lk t st0.env)) := by
    funext t
    by_cases hd : o.dst = some t
    · conv => lhs; rw [hsplit, foldE_append, foldE]
      rw [foldE_free]
      · simp [hlen, stepE, effEnv, hd]
      · intro j p hj hL hpd
        obtain ⟨oj, ej⟩ := p
        have hj' : zs[i + 1 + j]? = some (oj, ej) := by simpa [List.getElem?_drop] using hj
        have hLj : L (i + 1 + j) = true := by
          have hne : ¬ 0 + (zs.take i).length + 1 + j = i := by omega
          simp only [hne, if_false] at hL
          rw [← hL]; congr 1; omega
        have := hbehind _ oj ej (by omega) hj' hLj
        rw [conf_of (.inr (.inl (meet_true (x := t) (by simp [dstL, hd]) (by simp only at hpd; simp [dstL, hpd]))))] at this
        cases this
    · simp only [effEnv, hd, if_false]
      refine foldE_agree _ _ _ _ _ rfl (fun j p hj hpd => ?_)
      simp only [Nat.zero_add]
      have : j ≠ i := by
        rintro rfl
        rw [hzi] at hj
        cases hj
        exact hd hpd
      simp [this]
  have hlive : ∀ l ∈ Eff.acc e, l < st0.nx ∨ ∃ j, L j = true ∧ l = st0.nx + j := by
    intro l hl
    match e, hat.ev, hl with
    | some e', hev, hl =>
      obtain ⟨t, ht, av, hav, hlab⟩ := hev.2.2.2 l (List.mem_append_left _ hl)
      have hav' : lk t s.env = some av := hav
      rw [hagree t (tmps_reads ht)] at hav'
      exact hD.lab t av hav' l hlab
  have hsmall : ∀ l ∈ Eff.acc e, l < st0.nx + i := by
    intro l hl
    match e, hat.ev, hl with
    | some e', hev, hl =>
      obtain ⟨t, ht, av, hav, hlab⟩ := hev.2.2.2 l (List.mem_append_left _ hl)
      have := hat.inv.lb t av hav l hlab
      omega
  have hwa : ∀ l, l ∈ Eff.wrs e → l ∈ Eff.acc e := by
    intro l hl
    match e, hl with
    | some (.wr m b), hl => exact hl
  have hpost : ∀ m ∈ touch (st0.nx + i) e, ∀ j p, (zs.drop (i + 1))[j]? = some p → L (i + 1 + j) = true → m ∉ touch (st0.nx + (i + 1 + j)) p.2 := by
    intro m hm j p hj hLj hm2
    obtain ⟨oj, ej⟩ := p
    have hj' : zs[i + 1 + j]? = some (oj, ej) := by simpa [List.getElem?_drop] using hj
    have hnc := hbehind _ oj ej (by omega) hj' hLj
    rcases touch_wrs hm with h1 | ⟨h1, _⟩
    · rcases touch_wrs hm2 with h2 | ⟨h2, _⟩
      · have : m ∈ Eff.acc ej := by
          match ej, h2 with
          | some (.wr m' b), h2 => exact h2
        rw [conf_of (.inr (.inr (.inr (.inl (meet_true h1 this)))))] at hnc
        cases hnc
      · have := hsmall m (hwa m h1)
        omega
    · rcases touch_wrs hm2 with h2 | ⟨h2, _⟩
      · match ej, h2, hj' with
        | some (.wr m' b), h2, hj' =>
          simp only [Eff.wrs, List.mem_singleton] at h2
          subst h2
          rcases hD.wr _ _ _ _ hj' hLj with h3 | ⟨q, hq, h3⟩
          · omega
          · have : q = i := by omega
            subst this
            rw [hi] at hq; cases hq
      · omega
  have hM : foldM st0.nx (fun j => if j = i then true else L j) zs 0 (fun l => lk l st0.mem) = effMem (st0.nx + i) e (foldM st0.nx L zs 0 (fun l => lk l st0.mem)) := by
    funext m
    by_cases hm : m ∈ touch (st0.nx + i) e
    · conv => lhs; rw [hsplit, foldM_append, foldM]
      have key : ∀ (L' : Nat → Bool) (mem : Nat → Option Bk), (∀ j, i < j → L' j = L j) → foldM st0.nx L' (zs.drop (i + 1)) (0 + (zs.take i).length + 1) mem m = mem m := by
        intro L' mem hL'
        refine foldM_free _ _ _ _ (fun j p hj hLj => ?_)
        rw [hL' _ (by omega)] at hLj
        have e1 : 0 + (zs.take i).length + 1 + j = i + 1 + j := by omega
        rw [e1] at hLj ⊢
        exact hpost m hm j p hj hLj
      rw [key _ _ (fun j hj => by have : j ≠ i := (by omega); simp [this])]
      have hpre : foldM st0.nx (fun j => if j = i then true else L j) (zs.take i) 0 (fun l => lk l st0.mem) = foldM st0.nx L (zs.take i) 0 (fun l => lk l st0.mem) :=
        foldM_congr _ _ _ _ (fun j _ hj => by have : j ≠ i := (by omega); simp [this])
      have hall : foldM st0.nx L zs 0 (fun l => lk l st0.mem) m = foldM st0.nx L (zs.take i) 0 (fun l => lk l st0.mem) m := by
        conv => lhs; rw [hsplit, foldM_append, foldM]
        rw [key L _ (fun _ _ => rfl)]
        simp [hlen, hi]
      rw [hpre]
      simp only [hlen, Nat.zero_add, if_true, stepM]
      exact effMem_local hall.symm
    · rw [effMem_free hm]
      refine foldM_agree _ _ _ _ _ rfl (fun j p hj hp => ?_)
      simp only [Nat.zero_add] at hp ⊢
      have : j ≠ i := by
        rintro rfl
        rw [hzi] at hj
        cases hj
        exact hm hp
      simp [this]
  have hLi : ∀ j, L j = true → (if j = i then true else L j) = true := fun j hj => by split <;> simp [hj]
  -- what holds of the new state
  have hnew : ∀ ρ' a' w', FRel w0 ρ' (effEnv o.dst (st0.nx + i) e (foldE st0.nx L zs 0 (fun t => lk t st0.env))) (effMem (st0.nx + i) e (foldM st0.nx L zs 0 (fun l => lk l st0.mem))) st0.n a' w' → K a' w' := by
    intro ρ' a' w' hR
    refine hK ρ' a' w' ⟨by rw [hE, hM]; exact hR, ?_, ?_, ?_, ?_⟩
    · intro j oj ej hj hLj d hd hb
      by_cases hji : j = i
      · subst hji
        rw [hzi] at hj
        cases hj
        exact hLi _ (hready d hd hb)
      · simp only [hji, if_false] at hLj
        exact hLi _ (hD.down j oj ej hj hLj d hd hb)
    · intro t av hav l hl
      rw [hE] at hav
      simp only [effEnv] at hav
      split at hav
      · simp only [Option.some.injEq] at hav
        subst hav
        match e, hat.ev, hl with
        | none, _, hl => simp [valOf, lab] at hl
        | some (.wr _ _), _, hl => simp [valOf, lab] at hl
        | some (.val ls av'), hev, hl =>
          obtain ⟨t', ht', av2, hav2, hlab⟩ := hev.2.2.2 l (List.mem_append_right _ hl)
          have hav2' : lk t' s.env = some av2 := hav2
          rw [hagree t' (tmps_reads ht')] at hav2'
          rcases hD.lab t' av2 hav2' l hlab with h | ⟨q, hq, h⟩
          · exact .inl h
          · exact .inr ⟨q, hLi q hq, h⟩
        | some (.nw T b sl n), _, hl =>
          have : l = st0.nx + i := by cases sl <;> simpa [valOf, lab] using hl
          exact .inr ⟨i, by simp, this⟩
      · rcases hD.lab t av hav l hl with h | ⟨q, hq, h⟩
        · exact .inl h
        · exact .inr ⟨q, hLi q hq, h⟩
    · intro l bk hbk
      rw [hM] at hbk
      by_cases hm : l ∈ touch (st0.nx + i) e
      · rcases touch_wrs hm with h1 | ⟨h1, _⟩
        · rcases hlive l (hwa l h1) with h | ⟨q, hq, h⟩
          · exact .inl h
          · exact .inr ⟨q, hLi q hq, h⟩
        · exact .inr ⟨i, by simp, h1⟩
      · rw [effMem_free hm] at hbk
        rcases hD.dom l bk hbk with h | ⟨q, hq, h⟩
        · exact .inl h
        · exact .inr ⟨q, hLi q hq, h⟩
    · intro j oj l b hj hLj
      by_cases hji : j = i
      · subst hji
        rw [hzi] at hj
        cases hj
        rcases hlive l (by simp [Eff.acc]) with h | ⟨q, hq, h⟩
        · exact .inl h
        · exact .inr ⟨q, hLi q hq, h⟩
      · simp only [hji, if_false] at hLj
        rcases hD.wr j oj l b hj hLj with h | ⟨q, hq, h⟩
        · exact .inl h
        · exact .inr ⟨q, hLi q hq, h⟩
  match e, hat.ev, hnew, hagree, hlive, hsmall, hzi with
  | none, hev, hnew, _, _, _, _ =>
    rw [skip_not hev hval hgs]
    simp only [Bool.false_eq_true, if_false]
    refine hnew ρ _ _ ?_
    exact hD.rel.put o.dst (fun d hd => by rw [← hn]; exact hat.d d hd) (.v undef)
  | some e', hev, hnew, hagree, hlive, hsmall, hzi =>
    rw [go_wanted hev.1 hval hgs, if_pos rfl]
    refine .inl (step_go hev.2.1 hD.rel (fun t ht => hagree t (tmps_reads ht)) (fun l hl => ?_) (fun d hd => by rw [← hn]; exact hat.d d hd) (lbl := st0.nx + i) ?_ ?_ hnew)
    · show lk l s.mem = _
      rw [hsm]
      refine foldM_agree _ _ _ _ _ rfl (fun j p hj hp => ?_)
      obtain ⟨oj, ej⟩ := p
      simp only [Nat.zero_add] at hp ⊢
      rcases Nat.lt_trichotomy j i with h1 | h1 | h1
      · rcases touch_wrs hp with h2 | ⟨h2, _⟩
        · rw [hahead j oj ej h1 hj (conf_of (.inr (.inr (.inr (.inl (meet_true h2 hl))))))]
          simp [h1]
        · rcases hlive l hl with h3 | ⟨q, hq, h3⟩
          · omega
          · have : q = j := by omega
            subst this
            rw [hq]; simp [h1]
      · subst h1
        rw [hi]; simp
      · cases hL : L j with
        | false => simp; omega
        | true =>
          rcases touch_wrs hp with h2 | ⟨h2, _⟩
          · have := hbehind j oj ej h1 hj hL
            rw [conf_of (.inr (.inr (.inr (.inr (meet_true h2 hl)))))] at this
            cases this
          · have := hsmall l hl
            omega
    · intro t av hav hl
      rcases hD.lab t av hav _ hl with h | ⟨q, hq, h⟩
      · omega
      · have : q = i := by omega
        subst this
        rw [hi] at hq; cases hq
    · cases hmm : foldM st0.nx L zs 0 (fun l => lk l st0.mem) (st0.nx + i) with
      | none => rfl
      | some bk =>
        rcases hD.dom _ bk hmm with h | ⟨q, hq, h⟩
        · omega
        · have : q = i := by omega
          subst this
          rw [hi] at hq; cases hq

theorem draw_any {ops : List Oper} {es : List (Option Eff)} {st0 stN : St} (htr : Tr P ops ops es st0 stN) (hlen : es.length = ops.length) (hok : okAll ops 0 (ops.zip es) = true) {w0 : World} {Q : Exit → Act → World → Prop}
    (hQ : ∀ ρ' a' w', SRel w0 ρ' stN a' w' → Q .normal a' w') :
    ∀ (fuel : Nat) (listed : Array Bool) (ρ : Nat → Nat) (a : Act) (w : World), listed.size = ops.length → cnt (fun j => listed.getD j false) ops.length ≤ fuel →
      DI w0 st0.nx ops (ops.zip es) (fun t => lk t st0.env) (fun l => lk l st0.mem) st0.n (fun j => listed.getD j false) ρ a w → wpAny P .any ops.toArray Q fuel listed a w := by
  obtain ⟨hat, hfe, hfm, hfn, _⟩ := tr_at (nx := st0.nx) htr 0 (by omega)
  have hz : ∀ i, i < ops.length → ∃ o e, (ops.zip es)[i]? = some (o, e) ∧ ops[i]? = some o := by
    intro i hi
    have h1 : i < (ops.zip es).length := by simp [hlen]; exact hi
    refine ⟨ops[i], es[i]'(by omega), ?_, List.getElem?_eq_getElem hi⟩
    rw [List.getElem?_eq_getElem h1]
    simp
  have hfin : ∀ (listed : Array Bool) ρ a w, (∀ j, j < ops.length → listed.getD j false = true) → DI w0 st0.nx ops (ops.zip es) (fun t => lk t st0.env) (fun l => lk l st0.mem) st0.n (fun j => listed.getD j false) ρ a w → Q .normal a w := by
    intro listed ρ a w hall hD
    refine hQ ρ a w ?_
    have e1 : foldE st0.nx (fun j => listed.getD j false) (ops.zip es) 0 (fun t => lk t st0.env) = fun t => lk t stN.env := by
      rw [foldE_congr (L' := fun _ => true)]
      · funext t; exact (hfe t).symm
      · intro j _ hj
        exact hall j (by simp [hlen] at hj; omega)
    have e2 : foldM st0.nx (fun j => listed.getD j false) (ops.zip es) 0 (fun l => lk l st0.mem) = fun l => lk l stN.mem := by
      rw [foldM_congr (L' := fun _ => true)]
      · funext l; exact (hfm l).symm
      · intro j _ hj
        exact hall j (by simp [hlen] at hj; omega)
    have := hD.rel
    rw [e1, e2, ← hfn] at this
    exact this
  have hlr : ∀ (listed : Array Bool), listed.size = ops.length → ∀ j, j < ops.length → listed.getD j true = listed.getD j false := by
    intro listed hs j hj
    have : j < listed.size := by omega
    simp [Array.getD, this]
  have hnil : ∀ (listed : Array Bool), listed.size = ops.length → Region.ready .any ops.toArray listed = [] → ∀ j, j < ops.length → listed.getD j false = true := by
    intro listed hs hr j hj
    cases hL : listed.getD j false with
    | true => rfl
    | false =>
      obtain ⟨m, hm, hLm, hlow⟩ := least_unlisted (L := fun j => listed.getD j false) hj hL
      obtain ⟨o, e, hzm, hom⟩ := hz m hm
      have : m ∈ Region.ready .any ops.toArray listed := by
        rw [mem_ready]
        refine ⟨by rw [hlr listed hs m hm]; exact hLm, o, by simpa using hom, fun d hd hb => ?_⟩
        have := (okAll_get hok m o e hzm).1 d (by simpa using hd) hb
        exact hlow d.on (by omega)
      rw [hr] at this
      cases this
  intro fuel
  induction fuel with
  | zero =>
    intro listed ρ a w hs hc hD
    have hall := cnt_zero (Nat.le_zero.1 hc)
    refine ⟨?_, hfin listed ρ a w hall hD⟩
    cases hr : Region.ready .any ops.toArray listed with
    | nil => rfl
    | cons m ms =>
      have hm : m ∈ Region.ready .any ops.toArray listed := by rw [hr]; exact List.mem_cons_self
      rw [mem_ready] at hm
      obtain ⟨h1, o, h2, _⟩ := hm
      have hlt : m < ops.length := by
        have := (Array.getElem?_eq_some_iff.1 h2).1
        simpa using this
      rw [hlr listed hs m hlt, hall m hlt] at h1
      cases h1
  | succ fuel ih =>
    intro listed ρ a w hs hc hD
    refine ⟨fun hr => hfin listed ρ a w (hnil listed hs hr) hD, fun i hi => ?_⟩
    rw [mem_ready] at hi
    obtain ⟨h1, o, h2, h3⟩ := hi
    have hlt : i < ops.length := by
      have := (Array.getElem?_eq_some_iff.1 h2).1
      simpa using this
    rw [hlr listed hs i hlt] at h1
    obtain ⟨o', e, hzi, hoi⟩ := hz i hlt
    have ho : o' = o := by
      have h2' : ops[i]? = some o := by simpa using h2
      rw [hoi] at h2'
      cases h2'; rfl
    subst ho
    obtain ⟨s, hA, hx, hn, hse, hsm⟩ := hat i o' e hzi
    unfold wpOp
    rw [h2]
    simp only
    simp only [Nat.zero_add, Nat.add_zero] at hx hse hsm
    refine draw_step hok hzi hA hx hn hse hsm hD h1 (fun d hd hb => h3 d (by simpa using hd) hb) fun ρ' a' w' hD' => ?_
    have e : (fun j => (listed.setIfInBounds i true).getD j false) = fun j => if j = i then true else listed.getD j false := by
      funext j
      simp only [Array.getD_eq_getD_getElem?, Array.getElem?_setIfInBounds]
      by_cases hji : i = j
      · subst hji
        have : i < listed.size := by omega
        simp [this]
      · have : ¬ j = i := fun e => hji e.symm
        simp [hji, this]
    refine ih (listed.setIfInBounds i true) ρ' a' w' (by simp [hs]) ?_ (by rw [e]; exact hD')
    rw [e]
    have := cnt_set (L := fun j => listed.getD j false) h1 (n := ops.length)
    simp only [hlt, if_true] at this
    omega

theorem SRel.trim {w0 : World} {ρ : Nat → Nat} {st : St} {a : Act} {w : World} {env' : List (Nat × AV)} {mem' : List (Nat × Bk)} {st' : St} (h : SRel w0 ρ st a w) (he : st'.env = env') (hm : st'.mem = mem') (hn : st'.n = st.n)
    (h1 : ∀ t av, lk t env' = some av → lk t st.env = some av) (h2 : ∀ l bk, lk l mem' = some bk → lk l st.mem = some bk) : SRel w0 ρ st' a w := by
  subst he hm
  unfold SRel
  rw [hn]
  exact ⟨h.sz, h.df, fun t av hav => h.he t av (h1 t av hav), fun l bk hl => h.hm l bk (h2 l bk hl), fun l bk l' bk' hl hl' => h.hi l bk l' bk' (h2 l bk hl) (h2 l' bk' hl'), h.hb, h.wi⟩

theorem lk_filter {α : Type} {p : Nat → Bool} {q : Nat × α → Bool} (hq : ∀ x, q x = p x.1) : ∀ (l : List (Nat × α)) (t : Nat) (a : α), lk t (l.filter q) = some a → lk t l = some a ∧ p t = true
  | [], t, a, h => by simp [lk_nil] at h
  | (u, b) :: l, t, a, h => by
    rw [List.filter_cons] at h
    rw [lk_cons]
    split at h
    · rename_i hu
      rw [lk_cons] at h
      split at h
      · rename_i e; subst e
        rw [if_pos rfl]
        exact ⟨h, by rw [hq] at hu; exact hu⟩
      · rename_i e
        rw [if_neg e]
        exact lk_filter hq l t a h
    · rename_i hu
      obtain ⟨h1, h2⟩ := lk_filter hq l t a h
      split
      · rename_i e; subst e
        rw [hq] at hu
        exact absurd h2 hu
      · exact ⟨h1, h2⟩

theorem Inv.sub {st s : St} (h : Inv st) (he : ∀ t av, lk t s.env = some av → lk t st.env = some av) (hm : ∀ l bk, lk l s.mem = some bk → lk l st.mem = some bk) (hx : ∀ t av, lk t s.env = some av → ∀ l ∈ lab av, l < s.nx) (hy : ∀ l bk, lk l s.mem = some bk → l < s.nx) (hv : s.mv = []) : Inv s :=
  ⟨fun t av (hav : lk t s.env = some av) => h.we t av (he t av hav), fun l bk (hl : lk l s.mem = some bk) => h.wm l bk (hm l bk hl), hx, hy, fun p hp => by rw [hv] at hp; cases hp⟩

theorem region_some (H : CfgOk P cfg) (hmix : P.follows .mixedOrders = true) {R : Type} {r : R} {id : Nat} {ops : Array Oper} {draw : Bool} {st : St} {k : St → Option R} (h : evRegion cfg ops.toList draw st k = some r) (hI : Inv st) :
    ∃ st', k st' = some r ∧ Inv st' ∧ ∀ {w0 ρ a w}, SRel w0 ρ st a w → ∀ {Q : Exit → Act → World → Prop}, (∀ ρ' a' w', SRel w0 ρ' st' a' w' → Q .normal a' w') → (Code.region id ops draw).wp P Q a w := by
  unfold evRegion at h
  simp only [norm_eq] at h
  have hI0 : Inv { st with mv := [] } := hI.sub (fun _ _ h => h) (fun _ _ h => h) hI.lb hI.mb rfl
  obtain ⟨es, stN, h, hIN, hlen, htr⟩ := evOps_tr H _ _ _ _ h hI0
  obtain ⟨hb, h⟩ := bif_some h
  have hsub : ∀ t av, lk t (stN.trim cfg.keep).env = some av → lk t stN.env = some av := fun t av hav => (lk_filter (p := fun t => cfg.keep.contains t) (fun _ => rfl) stN.env t av hav).1
  have hIT : Inv (stN.trim cfg.keep) := hIN.sub hsub (fun _ _ h => h) (fun t av hav => hIN.lb t av (hsub t av hav)) hIN.mb rfl
  refine ⟨_, h, hIT, ?_⟩
  intro w0 ρ a w hR Q hQ
  have hR0 : SRel w0 ρ { st with mv := [] } a w := hR
  have hQ' : ∀ ρ' a' w', SRel w0 ρ' stN a' w' → Q .normal a' w' := fun ρ' a' w' hR' => hQ ρ' a' w' (hR'.trim rfl rfl rfl hsub (fun _ _ h => h))
  cases draw with
  | false =>
    refine wp_region_list ?_
    have := tr_seq htr hR0 hQ'
    rwa [Array.toArray_toList] at this
  | true =>
    simp only [Bool.not_true, Bool.false_or, List.nil_append] at hb
    refine wp_region_any hmix ?_
    have := draw_any htr hlen hb (w0 := w0) hQ' ops.size (Array.replicate ops.size false) ρ a { w with drawn := w.drawn + 1 } (by simp) ?_ ?_
    · rwa [Array.toArray_toList] at this
    · have hg : (fun j => (Array.replicate ops.size false).getD j false) = fun _ => false := by
        funext j
        simp only [Array.getD_eq_getD_getElem?, Array.getElem?_replicate]
        split <;> rfl
      rw [hg, Array.length_toList]
      have : ∀ n, cnt (fun _ => false) n = n := by
        intro n
        induction n with
        | zero => rfl
        | succ n ih => simp [cnt, ih]
      rw [this]
      exact Nat.le_refl _
    · have hg : (fun j => (Array.replicate ops.size false).getD j false) = fun _ => false := by
        funext j
        simp only [Array.getD_eq_getD_getElem?, Array.getElem?_replicate]
        split <;> rfl
      rw [hg]
      have e1 : foldE st.nx (fun _ => false) (ops.toList.zip es) 0 (fun t => lk t st.env) = fun t => lk t st.env := by
        funext t; exact foldE_free _ _ _ _ (fun _ _ _ h => by cases h)
      have e2 : foldM st.nx (fun _ => false) (ops.toList.zip es) 0 (fun l => lk l st.mem) = fun l => lk l st.mem := by
        funext l; exact foldM_free _ _ _ _ (fun _ _ _ h => by cases h)
      refine ⟨?_, (fun _ _ _ _ h => by cases h), fun t av hav l hl => ?_, fun l bk hbk => ?_, (fun _ _ _ _ _ h => by cases h)⟩
      · show FRel w0 ρ (foldE st.nx _ _ 0 _) (foldM st.nx _ _ 0 _) st.n a _
        rw [e1, e2]
        exact hR0.world ⟨rfl, rfl, rfl, Nat.le_refl _, fun _ _ => rfl⟩
      · have hav : foldE st.nx (fun _ => false) (ops.toList.zip es) 0 (fun t => lk t st.env) t = some av := hav
        rw [e1] at hav
        exact .inl (hI.lb t av hav l hl)
      · have hbk : foldM st.nx (fun _ => false) (ops.toList.zip es) 0 (fun l => lk l st.mem) l = some bk := hbk
        rw [e2] at hbk
        exact .inl (hI.mb l bk hbk)

end
end Go.Proofs.YtnfbcofieobkkaaDoor.Ev

/- The evaluator is sound, tenth part: code, a function, and how a function's contract follows. -/
namespace Go.Proofs.YtnfbcofieobkkaaDoor.Ev
open Go Go.RowKit
set_option linter.unusedVariables false
set_option linter.unusedSimpArgs false

section
variable {P : Program} {cfg : Cfg}

def toExit : Ex → Exit
  | .normal => .normal
  | .exit id => .exit id
  | .ret => .ret

/-- What the code's exits come to. -/
def Post (w0 : World) {R : Type} (k : Ex → St → Option R) (r : R) : Exit → Act → World → Prop :=
  fun e a w => ∃ e' st ρ, e = toExit e' ∧ k e' st = some r ∧ Inv st ∧ SRel w0 ρ st a w

def CodeOK (P : Program) (c : Code) (f : {R : Type} → St → (Ex → St → Option R) → Option R) : Prop :=
  ∀ (R : Type) (r : R) (st : St) (k : Ex → St → Option R), f st k = some r → Inv st → ∀ w0 ρ a w, SRel w0 ρ st a w → c.wp P (Post w0 k r) a w

theorem head_inv {st : St} {keys : List Nat} {nx : Nat} (h : Inv st) (hb : (st.head keys nx).below nx = true) : Inv (st.head keys nx) := by
  refine h.sub (fun t av hav => (lk_filter (p := fun t => keys.contains t) (fun _ => rfl) st.env t av hav).1) (fun l bk hl => (lk_filter (p := fun l => Nat.blt l nx && st.env.any fun q => keys.contains q.1 && (lab q.2).any (Nat.beq l)) (fun _ => rfl) st.mem l bk hl).1) (fun t av hav l hl => ?_) (fun l bk hl => ?_) rfl
  · simp only [St.below, List.all_eq_true] at hb
    have : ∃ p ∈ (st.head keys nx).env, p.2 = av := by
      have gen : ∀ (e : List (Nat × AV)), lk t e = some av → ∃ p ∈ e, p.2 = av := by
        intro e
        induction e with
        | nil => intro h; simp [lk_nil] at h
        | cons p e ih =>
          intro h
          obtain ⟨u, b⟩ := p
          rw [lk_cons] at h
          split at h
          · cases h; exact ⟨(u, av), List.mem_cons_self, rfl⟩
          · obtain ⟨p, hp, h⟩ := ih h
            exact ⟨p, List.mem_cons_of_mem _ hp, h⟩
      exact gen _ hav
    obtain ⟨p, hp, rfl⟩ := this
    have := hb p hp l hl
    show l < nx
    simpa [nblt] using this
  · have := (lk_filter (p := fun l => Nat.blt l nx && st.env.any fun q => keys.contains q.1 && (lab q.2).any (Nat.beq l)) (fun _ => rfl) st.mem l bk hl).2
    show l < nx
    simp only [Bool.and_eq_true, nblt, decide_eq_true_eq] at this
    exact this.1

theorem loop_ok {b : Code} {f : {R : Type} → St → (Ex → St → Option R) → Option R} (hf : CodeOK P b f) (keys : List Nat) (nx : Nat) :
    ∀ (n : Nat) (R : Type) (r : R) (st : St) (k : Ex → St → Option R), loopN f keys nx n st k = some r → Inv st → ∀ w0 ρ a w, SRel w0 ρ st a w → Code.rounds P b (Post w0 k r) n a w
  | 0, R, r, st, k, h, _, _, _, _, _, _ => by simp [loopN] at h
  | n + 1, R, r, st, k, h, hI, w0, ρ, a, w, hR => by
    rw [loopN, stepL] at h
    simp only [norm_eq] at h
    rw [rounds_succ]
    refine wp_mono (hf R r st _ h hI w0 ρ a w hR) ?_
    rintro e a' w' ⟨e', st', ρ', rfl, hk, hI', hR'⟩
    obtain ⟨hb, hk⟩ := bif_some hk
    have hR2 : SRel w0 ρ' (st'.head keys nx) a' w' := by
      refine hR'.trim rfl rfl rfl ?_ ?_
      · exact fun t av hav => (lk_filter (p := fun t => keys.contains t) (fun _ => rfl) st'.env t av hav).1
      · exact fun l bk hl => (lk_filter (p := fun l => Nat.blt l nx && st'.env.any fun q => keys.contains q.1 && (lab q.2).any (Nat.beq l)) (fun _ => rfl) st'.mem l bk hl).1
    cases e' with
    | normal => exact loop_ok hf keys nx n R r _ k hk (head_inv hI' hb) w0 ρ' a' w' hR2
    | exit id => exact ⟨.exit id, _, ρ', rfl, hk, head_inv hI' hb, hR2⟩
    | ret => exact ⟨.ret, _, ρ', rfl, hk, head_inv hI' hb, hR2⟩

/-- A loop's contract keeps what its rounds say. -/
def LCOk (cfg : Cfg) (N : Nat) (b : Code) (lc : LC) : Prop :=
  ∀ (R : Type) (r : R) st k, lc R st k = some r → ∃ n, loopN (evCode cfg N b) (st.env.map (·.1)) st.nx n st k = some r

theorem code_ok (H : CfgOk P cfg) (hmix : P.follows .mixedOrders = true) (N : Nat) : ∀ c : Code, (∀ b ∈ loopsOf c, ∀ lc, lkL (firstReg b) cfg.lp = some lc → LCOk cfg N b lc) → CodeOK P c (fun {_} st k => evCode cfg N c st k)
  | .skip, _ => fun R r st k h hI w0 ρ a w hR => wp_skip ⟨.normal, st, ρ, rfl, by simpa [evCode] using h, hI, hR⟩
  | .region id ops draw, _ => fun R r st k h hI w0 ρ a w hR => by
    simp only [evCode] at h
    obtain ⟨st', hk, hI', hw⟩ := region_some H hmix (id := id) h hI
    exact hw hR fun ρ' a' w' hR' => ⟨.normal, st', ρ', rfl, hk, hI', hR'⟩
  | .seq x y, HL => fun R r st k h hI w0 ρ a w hR => by
    simp only [evCode] at h
    refine wp_seq (wp_mono (code_ok H hmix N x (fun b hb => HL b (by simp [loopsOf, hb])) R r st _ h hI w0 ρ a w hR) ?_)
    rintro e a' w' ⟨e', st', ρ', rfl, hk, hI', hR'⟩
    cases e' with
    | normal => exact code_ok H hmix N y (fun b hb => HL b (by simp [loopsOf, hb])) R r st' k hk hI' w0 ρ' a' w' hR'
    | exit id => exact ⟨.exit id, st', ρ', rfl, hk, hI', hR'⟩
    | ret => exact ⟨.ret, st', ρ', rfl, hk, hI', hR'⟩
  | .cond c x y, HL => fun R r st k h hI w0 ρ a w hR => by
    simp only [evCode] at h
    obtain ⟨av, ha, h⟩ := getO_some h
    split at h
    · rename_i t
      have hev : a.eval c = .bool t := by
        cases c with
        | tmp u => exact hR.he u _ ha
        | const v => obtain ⟨e, _⟩ := ha; cases e; rfl
        | func f => cases ha
        | global g => exact ha.elim
      cases t with
      | true => exact wp_cond_true hev (code_ok H hmix N x (fun b hb => HL b (by simp [loopsOf, hb])) R r st k h hI w0 ρ a w hR)
      | false => exact wp_cond_false hev (code_ok H hmix N y (fun b hb => HL b (by simp [loopsOf, hb])) R r st k h hI w0 ρ a w hR)
    · cases h
  | .block id b, HL => fun R r st k h hI w0 ρ a w hR => by
    simp only [evCode] at h
    refine wp_block (wp_mono (code_ok H hmix N b (fun b hb => HL b (by simpa [loopsOf] using hb)) R r st _ h hI w0 ρ a w hR) ?_)
    rintro e a' w' ⟨e', st', ρ', rfl, hk, hI', hR'⟩
    cases e' with
    | normal => exact ⟨.normal, st', ρ', rfl, hk, hI', hR'⟩
    | exit i =>
      simp only [nbeq] at hk
      simp only [toExit, Exit.inBlock]
      by_cases hi : i = id
      · simp only [hi, decide_true, cond_true] at hk
        rw [if_pos hi]
        exact ⟨.normal, st', ρ', rfl, hk, hI', hR'⟩
      · simp only [hi, decide_false, cond_false] at hk
        rw [if_neg hi]
        exact ⟨.exit i, st', ρ', rfl, hk, hI', hR'⟩
    | ret => exact ⟨.ret, st', ρ', rfl, hk, hI', hR'⟩
  | .loop b, HL => fun R r st k h hI w0 ρ a w hR => by
    have hb := code_ok H hmix N b (fun b' hb' => HL b' (by simp [loopsOf, hb']))
    simp only [evCode, norm_eq] at h
    obtain ⟨hbe, h⟩ := bif_some h
    have hI2 := head_inv hI hbe
    have hR2 : SRel w0 ρ (st.head (match lk (firstReg b) cfg.ks with | some l => l | none => st.env.map (·.1)) st.nx) a w :=
      hR.trim rfl rfl rfl (fun t av hav => (lk_filter (p := fun t => List.contains _ t) (fun _ => rfl) st.env t av hav).1)
        (fun l bk hl => (lk_filter (p := fun l => Nat.blt l st.nx && st.env.any fun q => List.contains _ q.1 && (lab q.2).any (Nat.beq l)) (fun _ => rfl) st.mem l bk hl).1)
    split at h
    · rename_i lc hlc
      obtain ⟨n, hn⟩ := HL b (by simp [loopsOf]) lc hlc R r _ k h
      exact wp_loop_rounds n (loop_ok hb _ _ n R r _ k hn hI2 w0 ρ a w hR2)
    · split at h
      · rename_i m _
        exact wp_loop_rounds m (loop_ok hb _ _ m R r _ k h hI2 w0 ρ a w hR2)
      · exact wp_loop_rounds N (loop_ok hb _ _ N R r _ k h hI2 w0 ρ a w hR2)
  | .exit id, _ => fun R r st k h hI w0 ρ a w hR => wp_exit ⟨.exit id, st, ρ, rfl, by simpa [evCode] using h, hI, hR⟩
  | .ret, _ => fun R r st k h hI w0 ρ a w hR => wp_ret ⟨.ret, st, ρ, rfl, by simpa [evCode] using h, hI, hR⟩
  | .rangeFunc _ _ _ _, _ => fun R r st k h => by simp [evCode] at h
  | .scope b, HL => fun R r st k h hI w0 ρ a w hR => by
    simp only [evCode] at h
    refine wp_scope_straight (wp_mono (code_ok H hmix N b (fun b hb => HL b (by simpa [loopsOf] using hb)) R r st k h hI w0 ρ a w hR) ?_)
    rintro e a' w' ⟨e', st', ρ', rfl, hk, hI', hR'⟩
    cases e' <;> exact ⟨_, st', ρ', rfl, hk, hI', hR'⟩
  | .label _, _ => fun R r st k h hI w0 ρ a w hR => wp_label ⟨.normal, st, ρ, rfl, by simpa [evCode] using h, hI, hR⟩
  | .goto _, _ => fun R r st k h => by simp [evCode] at h
  | .refuse _, _ => fun R r st k h => by simp [evCode] at h

def resSem (tmps : Array Value) : ResultVar → Sem Value
  | .tmp t => pure (tmps.getD t undef)
  | .cell a t => do loadVar t (← asAddr (tmps.getD a undef))

theorem run_resCell {tmps : Array Value} {b : Nat} {T : TypeId} {ad : Addr} (e : tmps.getD b undef = .pointer (some ad)) (w : World) : (resSem tmps (.cell b T)).run P w = (loadVar T ad).run P w := by
  simp [resSem, e, asAddr]

theorem run_resTmp {tmps : Array Value} {t : Nat} {x : Value} (e : tmps.getD t undef = x) (w : World) : (resSem tmps (.tmp t)).run P w = .ok x w := by rw [resSem, e]; rfl

theorem res_some (H : CfgOk P cfg) {R : Type} {r : R} {st : St} (hI : Inv st) : ∀ {l : List ResultVar} {k : List Value → Option R}, evRes cfg st k l = some r →
    ∃ vs : List Value, k vs = some r ∧ (∀ v ∈ vs, wf1 v) ∧ ∀ {w0 ρ a w}, SRel w0 ρ st a w →
      (l.mapM (resSem a.tmps)).run P w = .ok vs w
  | [], k, h => ⟨[], by simpa [evRes] using h, by simp, fun _ => by simp⟩
  | .tmp t :: l, k, h => by
    simp only [evRes] at h
    split at h
    · rename_i x hx
      obtain ⟨h1, h⟩ := bif_some h
      obtain ⟨vs, hk, hw, hrun⟩ := res_some H hI h
      refine ⟨x :: vs, hk, ?_, fun hR => ?_⟩
      · intro v hv
        rcases List.mem_cons.1 hv with rfl | hv
        · have := hI.we t _ hx
          cases v <;> first | exact this | (simp [notTup] at h1)
        · exact hw v hv
      · have e := hR.he t _ hx
        simp only [conc] at e
        simp only [List.mapM_cons, Sem.run_bind, run_resTmp e, Result.andThen_ok]
        rw [hrun hR]
        rfl
    · cases h
  | .cell b T :: l, k, h => by
    simp only [evRes] at h
    split at h
    · rename_i ti lb off hT hb
      split at h
      · rename_i bk hbk
        obtain ⟨y, h, hy, hc⟩ := Blk.get_some h (hI.wm _ _ hbk)
        obtain ⟨vs, hk, hw, hrun⟩ := res_some H hI h
        refine ⟨y :: vs, hk, ?_, fun hR => ?_⟩
        · intro v hv
          rcases List.mem_cons.1 hv with rfl | hv
          · exact hy
          · exact hw v hv
        · have e := hR.he b _ hb
          simp only [conc] at e
          obtain ⟨fr, hg, _⟩ := hR.hm _ _ hbk
          have hr := run_get (H.T _ _ hT) hg (off := off) hc
          simp only [List.mapM_cons, Sem.run_bind, run_resCell e, Sem.run_pure, Result.andThen_ok, hr]
          rw [hrun hR]
          rfl
      · cases h
    · cases h

theorem results_eq {fn : Func} {tmps : Array Value} {vs : List Value} {w : World} (h : (fn.results.toList.mapM (resSem tmps)).run P w = .ok vs w) : (results fn tmps).run P w = .ok (single vs) w := by
  have e : results fn tmps = (do let vs ← fn.results.mapM (resSem tmps); pure (if h : vs.size = 1 then vs[0] else .tuple vs)) := by
    unfold results
    congr 1
  rw [e, Sem.run_bind, Array.mapM_eq_mapM_toList]
  simp only [Sem.run_map, h, Result.andThen_ok, Sem.run_pure]
  congr 1
  match vs with
  | [] => rfl
  | [x] => rfl
  | _ :: _ :: _ => simp [single]

theorem lk_args0 : ∀ (l : List AV) (i t : Nat), lk t (args0 i l) = if i ≤ t then l[t - i]? else none
  | [], i, t => by simp [args0, lk_nil]
  | a :: l, i, t => by
    rw [args0, lk_cons, lk_args0 l (i + 1) t]
    by_cases h : t = i
    · subst h; simp
    · simp only [h, if_false]
      by_cases h2 : i ≤ t
      · have h3 : i + 1 ≤ t := by omega
        have h4 : t - i = (t - (i + 1)) + 1 := by omega
        simp [h2, h3, h4]
      · have h3 : ¬ i + 1 ≤ t := by omega
        simp [h2, h3]

/-- What a function's arguments and the memory that it is handed must be. -/
structure ArgsOk (args : List AV) (mem : List (Nat × Bk)) (nx : Nat) : Prop where
  wf : ∀ a ∈ args, a.wf
  mw : MW fun l => lk l mem
  lb : ∀ a ∈ args, ∀ l ∈ lab a, l < nx
  mb : ∀ l bk, lk l mem = some bk → l < nx
  own : ∀ l bk, lk l mem = some bk → bk.own = false

theorem getD_args {args : List Value} {n t : Nat} {v : Value} (h : args[t]? = some v) : (args.toArray ++ Array.replicate n undef).getD t undef = v := by
  have hlt : t < args.length := (List.getElem?_eq_some_iff.1 h).1
  simp only [Array.getD_eq_getD_getElem?, Array.getElem?_append, List.size_toArray, hlt, if_true, List.getElem?_toArray, h, Option.getD_some]

/-- A FUNCTION: what its evaluation comes to is what a call returns. -/
theorem func_run (H : CfgOk P cfg) (hmix : P.follows .mixedOrders = true) {R : Type} {r : R} {N : Nat} {f : FuncId} {fn : Func} (hf : P.funcs[f]? = some fn) {args : List AV} {mem : List (Nat × Bk)} {nx : Nat} {k : Value → Option R}
    (hk : evFunc cfg N fn args mem nx k = some r) (hA : ArgsOk args mem nx) (hlen : args.length ≤ fn.ntmps) (HL : ∀ body, fn.body = some body → ∀ b ∈ loopsOf body, ∀ lc, lkL (firstReg b) cfg.lp = some lc → LCOk cfg N b lc) (ρ : Nat → Nat) (w : World) (hWI : WI w) (hm : ∀ l bk, lk l mem = some bk → ∃ fr, w.heap[ρ l]? = some (.cells ⟨bk.b.cells⟩ bk.ty fr)) :
    Calls P f (args.map (conc ρ)).toArray w fun e w' => ∃ v, k v = some r ∧ wf2 v ∧ e = .returned v ∧ Below w.heap.size w w' := by
  unfold evFunc at hk
  split at hk
  · cases hk
  · rename_i body hb
    have hI : Inv { n := fn.ntmps, env := args0 0 args, mem := mem, nx := nx, mv := [] } := by
      refine ⟨fun t av (hav : lk t (args0 0 args) = some av) => ?_, hA.mw, fun t av (hav : lk t (args0 0 args) = some av) l hl => ?_, hA.mb, by simp⟩
      · rw [lk_args0] at hav
        simp only [Nat.zero_le, if_true, Nat.sub_zero] at hav
        exact hA.wf av (List.mem_of_getElem? hav)
      · rw [lk_args0] at hav
        simp only [Nat.zero_le, if_true, Nat.sub_zero] at hav
        exact hA.lb av (List.mem_of_getElem? hav) l hl
    have hR : SRel w ρ { n := fn.ntmps, env := args0 0 args, mem := mem, nx := nx, mv := [] } { tmps := (args.map (conc ρ)).toArray ++ Array.replicate (fn.ntmps - (args.map (conc ρ)).toArray.size) undef, defers := [] } w := by
      refine ⟨by simp; omega, rfl, fun t av (hav : lk t (args0 0 args) = some av) => ?_, fun l bk (hl : lk l mem = some bk) => ?_, fun l bk l' bk' (hl : lk l mem = some bk) _ ho _ => ?_, Below.refl _ _, hWI⟩
      · rw [lk_args0] at hav
        simp only [Nat.zero_le, if_true, Nat.sub_zero] at hav
        exact getD_args (by simp [hav])
      · obtain ⟨fr, hg⟩ := hm l bk hl
        exact ⟨fr, hg, fun ho => by rw [hA.own l bk hl] at ho; cases ho⟩
      · rw [hA.own l bk hl] at ho; cases ho
    refine calls_of_wp hf hb (wp_mono (code_ok H hmix N body (HL body hb) R r _ _ hk hI w ρ _ w hR) ?_)
    rintro e a' w' ⟨e', st, ρ', rfl, hk', hI', hR'⟩
    have fin : evRes cfg st (fun l => k (single l)) fn.results.toList = some r → a'.defers = [] ∧ ∃ v, (results fn a'.tmps).run P w' = .ok v w' ∧ ∃ v', k v' = some r ∧ wf2 v' ∧ Ending.returned v = .returned v' ∧ Below w.heap.size w w' := by
      intro h
      obtain ⟨vs, hv, hw, hrun⟩ := res_some H hI' h
      refine ⟨hR'.df, single vs, results_eq (hrun hR'), single vs, hv, ?_, rfl, hR'.hb⟩
      match vs, hw with
      | [], _ => intro v hv; simp at hv
      | [x], hw => exact wf2_of_wf1 (hw x (by simp))
      | x :: y :: l, hw => exact fun v hv => hw v (by simpa [single] using hv)
    cases e' with
    | normal => exact fin hk'
    | exit id => cases hk'
    | ret => exact fin hk'

/-- A world in which a memory lies. -/
theorem some_world (mem : List (Nat × Bk)) (nx : Nat) (hb : ∀ l bk, lk l mem = some bk → l < nx) : ∃ w : World, WI w ∧ ∀ l bk, lk l mem = some bk → ∃ fr, w.heap[l + 1]? = some (.cells ⟨bk.b.cells⟩ bk.ty fr) := by
  refine ⟨{ (default : World) with heap := (Obj.cells (Lib.deBruijn64tab.map fun n => Value.int .u8 (n : Nat)).toArray 0 :: (List.range nx).map fun l => match lk l mem with | some bk => Obj.cells ⟨bk.b.cells⟩ bk.ty | none => .cells #[] 0).toArray }, fun j hj => ?_, fun l bk hl => ⟨(0, 0), ?_⟩⟩
  · have hl : j < Lib.deBruijn64tab.length := hj
    simp [World.cell?, hl]
  · have := hb l bk hl
    simp [this, hl]

theorem calls_told {f : FuncId} {args : Array Value} {w : World} {R : Ending → World → Prop} (h : Calls P f args w R) : ∃ e w', R e w' := by
  obtain ⟨e, w', _, hR, _⟩ := h []
  exact ⟨e, w', hR⟩

/-- THE CONTRACT of a function whose evaluation is known: 'dec' reads the result, 'enc' spells it. -/
theorem func_ok (H : CfgOk P cfg) (hmix : P.follows .mixedOrders = true) {R : Type} {r : R} {N : Nat} {f : FuncId} {fn : Func} (hf : P.funcs[f]? = some fn) {args : List AV} {mem : List (Nat × Bk)} {nx : Nat} {dec : Value → Option R} {enc : R → Value}
    (hdec : ∀ v r, dec v = some r → v = enc r) (hk : evFunc cfg N fn args mem nx dec = some r) (hA : ArgsOk args mem nx) (hlen : args.length ≤ fn.ntmps) (HL : ∀ body, fn.body = some body → ∀ b ∈ loopsOf body, ∀ lc, lkL (firstReg b) cfg.lp = some lc → LCOk cfg N b lc) :
    wf2 (enc r) ∧ ∀ ρ w, WI w → (∀ l bk, lk l mem = some bk → ∃ fr, w.heap[ρ l]? = some (.cells ⟨bk.b.cells⟩ bk.ty fr)) →
      Calls P f (args.map (conc ρ)).toArray w fun e w' => e = .returned (enc r) ∧ Below w.heap.size w w' := by
  constructor
  · obtain ⟨w, hWI, hw⟩ := some_world mem nx hA.mb
    obtain ⟨e, w', v, h1, h2, _⟩ := calls_told (func_run H hmix hf hk hA hlen HL (· + 1) w hWI hw)
    rw [← hdec v r h1]
    exact h2
  · intro ρ w hWI hm
    refine Calls.mono (func_run H hmix hf hk hA hlen HL ρ w hWI hm) ?_
    rintro e w' ⟨v, h1, _, rfl, hb⟩
    rw [hdec v r h1]
    exact ⟨rfl, hb⟩

#print axioms func_ok

end
end Go.Proofs.YtnfbcofieobkkaaDoor.Ev

/- Typed values: how they are read and spelt; contracts of functions of plain values. -/
namespace Go.Proofs.YtnfbcofieobkkaaDoor.Ev
open Go Go.RowKit
set_option linter.unusedVariables false
set_option linter.unusedSimpArgs false

/-- A number of 384 bits, word by word. -/
structure W6 where
  w0 : Int
  w1 : Int
  w2 : Int
  w3 : Int
  w4 : Int
  w5 : Int

def W6.get (a : W6) (i : Nat) : Int := getI i [a.w0, a.w1, a.w2, a.w3, a.w4, a.w5]

def W6.set (a : W6) (i : Nat) (x : Int) : W6 :=
  ⟨bif Nat.beq i 0 then x else a.w0, bif Nat.beq i 1 then x else a.w1, bif Nat.beq i 2 then x else a.w2, bif Nat.beq i 3 then x else a.w3, bif Nat.beq i 4 then x else a.w4, bif Nat.beq i 5 then x else a.w5⟩

structure B2 where
  hi : Int
  lo : Int

structure Pts where
  cls : Int
  sig : W6
  exp : Int
  frac : W6

structure Rgh where
  neg : Bool
  sig : W6
  exp : Int
  more : Bool

structure Exc where
  neg : Bool
  num : ByteArray
  den : ByteArray
  exp : Int

structure Fnd where
  m : ByteArray
  at_ : Int
  half : Int
  exact : Bool

structure P3 where
  p0 : Pts
  p1 : Pts
  p2 : Pts

/-- How a value of a type is read and spelt. -/
structure D (α : Type) where
  enc : α → Value
  dec : Value → Option α
  ok : ∀ v x, dec v = some x → v = enc x

def rI (k : IntKind) (v : Value) : Option Int := match v with | .int k' x => bif decide (k' = k) then some x else none | _ => none
def rB (v : Value) : Option Bool := match v with | .bool b => some b | _ => none
def rS (v : Value) : Option ByteArray := match v with | .string s => some s | _ => none

theorem rI_some {k : IntKind} {v : Value} {x : Int} (h : rI k v = some x) : v = .int k x := by
  unfold rI at h
  split at h
  · obtain ⟨h1, h2⟩ := bif_some h
    have h3 : _ = k := of_decide_eq_true h1
    subst h3
    cases h2; rfl
  · cases h
theorem rB_some {v : Value} {x : Bool} (h : rB v = some x) : v = .bool x := by
  unfold rB at h
  split at h
  · cases h; rfl
  · cases h
theorem rS_some {v : Value} {x : ByteArray} (h : rS v = some x) : v = .string x := by
  unfold rS at h
  split at h
  · cases h; rfl
  · cases h

def W6.cs (w : W6) : List Value := [.int .u64 w.w0, .int .u64 w.w1, .int .u64 w.w2, .int .u64 w.w3, .int .u64 w.w4, .int .u64 w.w5]
def B2.cs (b : B2) : List Value := [.int .u64 b.hi, .int .u64 b.lo]
def Pts.cs (p : Pts) : List Value := [.int .u8 p.cls, .int .u64 p.sig.w0, .int .u64 p.sig.w1, .int .u64 p.sig.w2, .int .u64 p.sig.w3, .int .u64 p.sig.w4, .int .u64 p.sig.w5, .int .i64 p.exp, .int .u64 p.frac.w0, .int .u64 p.frac.w1, .int .u64 p.frac.w2, .int .u64 p.frac.w3, .int .u64 p.frac.w4, .int .u64 p.frac.w5]
def Rgh.cs (r : Rgh) : List Value := [.bool r.neg, .int .u64 r.sig.w0, .int .u64 r.sig.w1, .int .u64 r.sig.w2, .int .u64 r.sig.w3, .int .u64 r.sig.w4, .int .u64 r.sig.w5, .int .i64 r.exp, .bool r.more]
def Exc.cs (x : Exc) : List Value := [.bool x.neg, .string x.num, .string x.den, .int .i64 x.exp]
def Fnd.cs (x : Fnd) : List Value := [.string x.m, .int .i64 x.at_, .int .i64 x.half, .bool x.exact]
def P3.cs (p : P3) : List Value := [.int .u8 p.p0.cls, .int .u64 p.p0.sig.w0, .int .u64 p.p0.sig.w1, .int .u64 p.p0.sig.w2, .int .u64 p.p0.sig.w3, .int .u64 p.p0.sig.w4, .int .u64 p.p0.sig.w5, .int .i64 p.p0.exp, .int .u64 p.p0.frac.w0, .int .u64 p.p0.frac.w1, .int .u64 p.p0.frac.w2, .int .u64 p.p0.frac.w3, .int .u64 p.p0.frac.w4, .int .u64 p.p0.frac.w5, .int .u8 p.p1.cls, .int .u64 p.p1.sig.w0, .int .u64 p.p1.sig.w1, .int .u64 p.p1.sig.w2, .int .u64 p.p1.sig.w3, .int .u64 p.p1.sig.w4, .int .u64 p.p1.sig.w5, .int .i64 p.p1.exp, .int .u64 p.p1.frac.w0, .int .u64 p.p1.frac.w1, .int .u64 p.p1.frac.w2, .int .u64 p.p1.frac.w3, .int .u64 p.p1.frac.w4, .int .u64 p.p1.frac.w5, .int .u8 p.p2.cls, .int .u64 p.p2.sig.w0, .int .u64 p.p2.sig.w1, .int .u64 p.p2.sig.w2, .int .u64 p.p2.sig.w3, .int .u64 p.p2.sig.w4, .int .u64 p.p2.sig.w5, .int .i64 p.p2.exp, .int .u64 p.p2.frac.w0, .int .u64 p.p2.frac.w1, .int .u64 p.p2.frac.w2, .int .u64 p.p2.frac.w3, .int .u64 p.p2.frac.w4, .int .u64 p.p2.frac.w5]

def rd6 (a b c d e f : Value) : Option W6 := match rI .u64 a, rI .u64 b, rI .u64 c, rI .u64 d, rI .u64 e, rI .u64 f with
  | some a, some b, some c, some d, some e, some f => some ⟨a, b, c, d, e, f⟩
  | _, _, _, _, _, _ => none
theorem rd6_some {a b c d e f : Value} {w : W6} (h : rd6 a b c d e f = some w) : [a, b, c, d, e, f] = w.cs := by
  unfold rd6 at h
  split at h
  · rename_i h1 h2 h3 h4 h5 h6
    cases h
    rw [rI_some h1, rI_some h2, rI_some h3, rI_some h4, rI_some h5, rI_some h6]
    rfl
  · cases h
def rdW : List Value → Option W6
  | [a, b, c, d, e, f] => rd6 a b c d e f
  | _ => none
def rdB : List Value → Option B2
  | [a, b] => match rI .u64 a, rI .u64 b with | some a, some b => some ⟨a, b⟩ | _, _ => none
  | _ => none
def rdP : List Value → Option Pts
  | [c, a0, a1, a2, a3, a4, a5, e, b0, b1, b2, b3, b4, b5] => match rI .u8 c, rd6 a0 a1 a2 a3 a4 a5, rI .i64 e, rd6 b0 b1 b2 b3 b4 b5 with
    | some c, some a, some e, some b => some ⟨c, a, e, b⟩
    | _, _, _, _ => none
  | _ => none
def rdR : List Value → Option Rgh
  | [n, a0, a1, a2, a3, a4, a5, e, m] => match rB n, rd6 a0 a1 a2 a3 a4 a5, rI .i64 e, rB m with
    | some n, some a, some e, some m => some ⟨n, a, e, m⟩
    | _, _, _, _ => none
  | _ => none
def rdX : List Value → Option Exc
  | [n, a, b, e] => match rB n, rS a, rS b, rI .i64 e with
    | some n, some a, some b, some e => some ⟨n, a, b, e⟩
    | _, _, _, _ => none
  | _ => none
def rdF : List Value → Option Fnd
  | [n, a, b, e] => match rS n, rI .i64 a, rI .i64 b, rB e with
    | some n, some a, some b, some e => some ⟨n, a, b, e⟩
    | _, _, _, _ => none
  | _ => none
def rd3 (l : List Value) : Option P3 := match rdP (l.take 14), rdP ((l.drop 14).take 14), rdP (l.drop 28) with
  | some a, some b, some c => some ⟨a, b, c⟩
  | _, _, _ => none
theorem rdW_some {l : List Value} {w : W6} (h : rdW l = some w) : l = w.cs := by
  match l, h with
  | [a, b, c, d, e, f], h => exact rd6_some h
theorem rdB_some {l : List Value} {w : B2} (h : rdB l = some w) : l = w.cs := by
  match l, h with
  | [a, b], h =>
    simp only [rdB] at h
    split at h
    · rename_i h1 h2
      cases h
      rw [rI_some h1, rI_some h2]; rfl
    · cases h
theorem rdP_some {l : List Value} {w : Pts} (h : rdP l = some w) : l = w.cs := by
  match l, h with
  | [c, a0, a1, a2, a3, a4, a5, e, b0, b1, b2, b3, b4, b5], h =>
    simp only [rdP] at h
    split at h
    · rename_i h1 h2 h3 h4
      cases h
      have e1 := rd6_some h2
      have e2 := rd6_some h4
      simp only [W6.cs, List.cons.injEq] at e1 e2
      obtain ⟨r1, r2, r3, r4, r5, r6, _⟩ := e1
      obtain ⟨s1, s2, s3, s4, s5, s6, _⟩ := e2
      subst r1 r2 r3 r4 r5 r6 s1 s2 s3 s4 s5 s6
      rw [rI_some h1, rI_some h3]; rfl
    · cases h
theorem rdR_some {l : List Value} {w : Rgh} (h : rdR l = some w) : l = w.cs := by
  match l, h with
  | [n, a0, a1, a2, a3, a4, a5, e, m], h =>
    simp only [rdR] at h
    split at h
    · rename_i h1 h2 h3 h4
      cases h
      have e1 := rd6_some h2
      simp only [W6.cs, List.cons.injEq] at e1
      obtain ⟨r1, r2, r3, r4, r5, r6, _⟩ := e1
      subst r1 r2 r3 r4 r5 r6
      rw [rB_some h1, rI_some h3, rB_some h4]; rfl
    · cases h
theorem rdX_some {l : List Value} {w : Exc} (h : rdX l = some w) : l = w.cs := by
  match l, h with
  | [n, a, b, e], h =>
    simp only [rdX] at h
    split at h
    · rename_i h1 h2 h3 h4
      cases h
      rw [rB_some h1, rS_some h2, rS_some h3, rI_some h4]; rfl
    · cases h
theorem rdF_some {l : List Value} {w : Fnd} (h : rdF l = some w) : l = w.cs := by
  match l, h with
  | [n, a, b, e], h =>
    simp only [rdF] at h
    split at h
    · rename_i h1 h2 h3 h4
      cases h
      rw [rS_some h1, rI_some h2, rI_some h3, rB_some h4]; rfl
    · cases h
theorem rd3_some {l : List Value} {w : P3} (h : rd3 l = some w) : l = w.cs := by
  unfold rd3 at h
  split at h
  · rename_i a b c h1 h2 h3
    cases h
    have e : l = l.take 14 ++ ((l.drop 14).take 14 ++ l.drop 28) := by
      rw [show (28 : Nat) = 14 + 14 from rfl, ← List.drop_drop, List.take_append_drop, List.take_append_drop]
    rw [e, rdP_some h1, rdP_some h2, rdP_some h3]
    rfl
  · cases h

def rAgg {α : Type} (f : List Value → Option α) (v : Value) : Option α := match v with | .agg cs => f cs.toList | _ => none
theorem rAgg_some {α : Type} {f : List Value → Option α} {g : α → List Value} (hf : ∀ l x, f l = some x → l = g x) {v : Value} {x : α} (h : rAgg f v = some x) : v = .agg ⟨g x⟩ := by
  unfold rAgg at h
  split at h
  · rename_i cs
    rw [← hf _ _ h]
  · cases h

def dI (k : IntKind) : D Int := ⟨.int k, rI k, fun _ _ => rI_some⟩
def dB : D Bool := ⟨.bool, rB, fun _ _ => rB_some⟩
def dS : D ByteArray := ⟨.string, rS, fun _ _ => rS_some⟩
def dW : D W6 := ⟨fun w => .agg ⟨w.cs⟩, rAgg rdW, fun _ _ h => rAgg_some (fun _ _ => rdW_some) h⟩
def dBits : D B2 := ⟨fun w => .agg ⟨w.cs⟩, rAgg rdB, fun _ _ h => rAgg_some (fun _ _ => rdB_some) h⟩
def dPts : D Pts := ⟨fun w => .agg ⟨w.cs⟩, rAgg rdP, fun _ _ h => rAgg_some (fun _ _ => rdP_some) h⟩
def dRgh : D Rgh := ⟨fun w => .agg ⟨w.cs⟩, rAgg rdR, fun _ _ h => rAgg_some (fun _ _ => rdR_some) h⟩
def dExc : D Exc := ⟨fun w => .agg ⟨w.cs⟩, rAgg rdX, fun _ _ h => rAgg_some (fun _ _ => rdX_some) h⟩
def dFnd : D Fnd := ⟨fun w => .agg ⟨w.cs⟩, rAgg rdF, fun _ _ h => rAgg_some (fun _ _ => rdF_some) h⟩
def dP3 : D P3 := ⟨fun w => .agg ⟨w.cs⟩, rAgg rd3, fun _ _ h => rAgg_some (fun _ _ => rd3_some) h⟩

def rTup (v : Value) : List Value := match v with | .tuple vs => vs.toList | _ => []
theorem rTup_cons {v x : Value} {l : List Value} (h : rTup v = x :: l) : v = .tuple ⟨x :: l⟩ := by
  unfold rTup at h
  split at h
  · rw [← h]
  · cases h

def dT2 {α β : Type} (a : D α) (b : D β) : D (α × β) where
  enc r := .tuple ⟨[a.enc r.1, b.enc r.2]⟩
  dec v := match rTup v with
    | [xa, xb] => match a.dec xa, b.dec xb with
      | some ya, some yb => some (ya, yb)
      | _, _ => none
    | _ => none
  ok v r h := by
    split at h
    · rename_i hv
      split at h
      · rename_i ha hb
        cases h
        rw [rTup_cons hv, a.ok _ _ ha, b.ok _ _ hb]
      · cases h
    · cases h
def dT3 {α β γ : Type} (a : D α) (b : D β) (c : D γ) : D (α × β × γ) where
  enc r := .tuple ⟨[a.enc r.1, b.enc r.2.1, c.enc r.2.2]⟩
  dec v := match rTup v with
    | [xa, xb, xc] => match a.dec xa, b.dec xb, c.dec xc with
      | some ya, some yb, some yc => some (ya, yb, yc)
      | _, _, _ => none
    | _ => none
  ok v r h := by
    split at h
    · rename_i hv
      split at h
      · rename_i ha hb hc
        cases h
        rw [rTup_cons hv, a.ok _ _ ha, b.ok _ _ hb, c.ok _ _ hc]
      · cases h
    · cases h
def dT4 {α β γ δ : Type} (a : D α) (b : D β) (c : D γ) (d : D δ) : D (α × β × γ × δ) where
  enc r := .tuple ⟨[a.enc r.1, b.enc r.2.1, c.enc r.2.2.1, d.enc r.2.2.2]⟩
  dec v := match rTup v with
    | [xa, xb, xc, xd] => match a.dec xa, b.dec xb, c.dec xc, d.dec xd with
      | some ya, some yb, some yc, some yd => some (ya, yb, yc, yd)
      | _, _, _, _ => none
    | _ => none
  ok v r h := by
    split at h
    · rename_i hv
      split at h
      · rename_i ha hb hc hd
        cases h
        rw [rTup_cons hv, a.ok _ _ ha, b.ok _ _ hb, c.ok _ _ hc, d.ok _ _ hd]
      · cases h
    · cases h

section
variable {P : Program}

/-- A contract of a function of plain values. -/
theorem CTok.plain {f : FuncId} {fn : Func} {ct : CT} (henter : ∀ args w, (callFunc f args).run P w = .ok (.enter f args) w) (hmix : P.follows .mixedOrders = true) (hf : P.funcs[f]? = some fn)
    (h : ∀ (R : Type) args mem (k : Value → Option R) r, ct R args mem k = some r → (∀ a ∈ args, a.wf) → ∃ (τ : Type) (d : D τ) (x : τ) (vs : List Value) (cfg : Cfg) (N : Nat),
      k (d.enc x) = some r ∧ args = vs.map AV.v ∧ vs.length ≤ fn.ntmps ∧ CfgOk P cfg ∧ (∀ body, fn.body = some body → ∀ b ∈ loopsOf body, ∀ lc, lkL (firstReg b) cfg.lp = some lc → LCOk cfg N b lc) ∧ evFunc cfg N fn (vs.map AV.v) [] 0 d.dec = some x) : CTok P f ct := by
  refine ⟨henter, fun R args mem k r hc hw _ => ?_⟩
  obtain ⟨τ, d, x, vs, cfg, N, hk, rfl, hlen, hcfg, hHL, hev⟩ := h R args mem k r hc hw
  obtain ⟨h1, h2⟩ := func_ok hcfg hmix hf d.ok hev (nx := 0) (mem := []) ⟨hw, fun l bk hl => by simp [lk_nil] at hl, fun a ha l hl => by
    obtain ⟨v, _, rfl⟩ := List.mem_map.1 ha
    simp [lab] at hl, fun l bk hl => by simp [lk_nil] at hl, fun l bk hl => by simp [lk_nil] at hl⟩ (by simpa using hlen) hHL
  exact ⟨d.enc x, hk, h1, fun ρ w hWI _ => h2 ρ w hWI (fun l bk hl => by simp [lk_nil] at hl)⟩

def CT.of0 {τ : Type} (dr : D τ) (g : Option τ) : CT := fun R args _ k => match args with
  | [] => g.bind fun r => k (dr.enc r)
  | _ => none
theorem CTok.of0 {f : FuncId} {fn : Func} {τ : Type} {dr : D τ} {g : Option τ} (henter : ∀ args w, (callFunc f args).run P w = .ok (.enter f args) w) (hmix : P.follows .mixedOrders = true) (hf : P.funcs[f]? = some fn) (hn : 0 ≤ fn.ntmps)
    (h : ∀ r, g = some r → ∃ (cfg : Cfg) (N : Nat), CfgOk P cfg ∧ (∀ body, fn.body = some body → ∀ b ∈ loopsOf body, ∀ lc, lkL (firstReg b) cfg.lp = some lc → LCOk cfg N b lc) ∧ evFunc cfg N fn [] [] 0 dr.dec = some r) : CTok P f (CT.of0  dr g) := by
  refine CTok.plain henter hmix hf fun R args mem k r hc hw => ?_
  unfold CT.of0 at hc
  split at hc
  · obtain ⟨x, hg, hk⟩ := Option.bind_eq_some_iff.1 hc
    obtain ⟨cfg, N, hcfg, hHL, hev⟩ := h x hg
    exact ⟨τ, dr, x, [], cfg, N, hk, rfl, Nat.zero_le _, hcfg, hHL, hev⟩
  · cases hc
def CT.of1 {α τ : Type} (da : D α) (dr : D τ) (g : α → Option τ) : CT := fun R args _ k => match args with
  | [.v xa] => match da.dec xa with
    | some ya => (g ya).bind fun r => k (dr.enc r)
    | _ => none
  | _ => none
theorem CTok.of1 {f : FuncId} {fn : Func} {α τ : Type} {da : D α} {dr : D τ} {g : α → Option τ} (henter : ∀ args w, (callFunc f args).run P w = .ok (.enter f args) w) (hmix : P.follows .mixedOrders = true) (hf : P.funcs[f]? = some fn) (hn : 1 ≤ fn.ntmps)
    (h : ∀ a r, g a = some r → wf2 (da.enc a) → ∃ (cfg : Cfg) (N : Nat), CfgOk P cfg ∧ (∀ body, fn.body = some body → ∀ b ∈ loopsOf body, ∀ lc, lkL (firstReg b) cfg.lp = some lc → LCOk cfg N b lc) ∧ evFunc cfg N fn [.v (da.enc a)] [] 0 dr.dec = some r) : CTok P f (CT.of1 da dr g) := by
  refine CTok.plain henter hmix hf fun R args mem k r hc hw => ?_
  unfold CT.of1 at hc
  split at hc
  · split at hc
    · rename_i qa
      obtain ⟨x, hg, hk⟩ := Option.bind_eq_some_iff.1 hc
      have ea := da.ok _ _ qa
      subst ea
      obtain ⟨cfg, N, hcfg, hHL, hev⟩ := h _ x hg (hw (.v _) (by simp))
      exact ⟨τ, dr, x, [_], cfg, N, hk, rfl, by simpa using hn, hcfg, hHL, hev⟩
    · cases hc
  · cases hc
def CT.of2 {α β τ : Type} (da : D α) (db : D β) (dr : D τ) (g : α → β → Option τ) : CT := fun R args _ k => match args with
  | [.v xa, .v xb] => match da.dec xa, db.dec xb with
    | some ya, some yb => (g ya yb).bind fun r => k (dr.enc r)
    | _, _ => none
  | _ => none
theorem CTok.of2 {f : FuncId} {fn : Func} {α β τ : Type} {da : D α} {db : D β} {dr : D τ} {g : α → β → Option τ} (henter : ∀ args w, (callFunc f args).run P w = .ok (.enter f args) w) (hmix : P.follows .mixedOrders = true) (hf : P.funcs[f]? = some fn) (hn : 2 ≤ fn.ntmps)
    (h : ∀ a b r, g a b = some r → wf2 (da.enc a) → wf2 (db.enc b) → ∃ (cfg : Cfg) (N : Nat), CfgOk P cfg ∧ (∀ body, fn.body = some body → ∀ b ∈ loopsOf body, ∀ lc, lkL (firstReg b) cfg.lp = some lc → LCOk cfg N b lc) ∧ evFunc cfg N fn [.v (da.enc a), .v (db.enc b)] [] 0 dr.dec = some r) : CTok P f (CT.of2 da db dr g) := by
  refine CTok.plain henter hmix hf fun R args mem k r hc hw => ?_
  unfold CT.of2 at hc
  split at hc
  · split at hc
    · rename_i qa qb
      obtain ⟨x, hg, hk⟩ := Option.bind_eq_some_iff.1 hc
      have ea := da.ok _ _ qa
      have eb := db.ok _ _ qb
      subst ea eb
      obtain ⟨cfg, N, hcfg, hHL, hev⟩ := h _ _ x hg (hw (.v _) (by simp)) (hw (.v _) (by simp))
      exact ⟨τ, dr, x, [_, _], cfg, N, hk, rfl, by simpa using hn, hcfg, hHL, hev⟩
    · cases hc
  · cases hc
def CT.of3 {α β γ τ : Type} (da : D α) (db : D β) (dc : D γ) (dr : D τ) (g : α → β → γ → Option τ) : CT := fun R args _ k => match args with
  | [.v xa, .v xb, .v xc] => match da.dec xa, db.dec xb, dc.dec xc with
    | some ya, some yb, some yc => (g ya yb yc).bind fun r => k (dr.enc r)
    | _, _, _ => none
  | _ => none
theorem CTok.of3 {f : FuncId} {fn : Func} {α β γ τ : Type} {da : D α} {db : D β} {dc : D γ} {dr : D τ} {g : α → β → γ → Option τ} (henter : ∀ args w, (callFunc f args).run P w = .ok (.enter f args) w) (hmix : P.follows .mixedOrders = true) (hf : P.funcs[f]? = some fn) (hn : 3 ≤ fn.ntmps)
    (h : ∀ a b c r, g a b c = some r → wf2 (da.enc a) → wf2 (db.enc b) → wf2 (dc.enc c) → ∃ (cfg : Cfg) (N : Nat), CfgOk P cfg ∧ (∀ body, fn.body = some body → ∀ b ∈ loopsOf body, ∀ lc, lkL (firstReg b) cfg.lp = some lc → LCOk cfg N b lc) ∧ evFunc cfg N fn [.v (da.enc a), .v (db.enc b), .v (dc.enc c)] [] 0 dr.dec = some r) : CTok P f (CT.of3 da db dc dr g) := by
  refine CTok.plain henter hmix hf fun R args mem k r hc hw => ?_
  unfold CT.of3 at hc
  split at hc
  · split at hc
    · rename_i qa qb qc
      obtain ⟨x, hg, hk⟩ := Option.bind_eq_some_iff.1 hc
      have ea := da.ok _ _ qa
      have eb := db.ok _ _ qb
      have ec := dc.ok _ _ qc
      subst ea eb ec
      obtain ⟨cfg, N, hcfg, hHL, hev⟩ := h _ _ _ x hg (hw (.v _) (by simp)) (hw (.v _) (by simp)) (hw (.v _) (by simp))
      exact ⟨τ, dr, x, [_, _, _], cfg, N, hk, rfl, by simpa using hn, hcfg, hHL, hev⟩
    · cases hc
  · cases hc
def CT.of4 {α β γ δ τ : Type} (da : D α) (db : D β) (dc : D γ) (dd : D δ) (dr : D τ) (g : α → β → γ → δ → Option τ) : CT := fun R args _ k => match args with
  | [.v xa, .v xb, .v xc, .v xd] => match da.dec xa, db.dec xb, dc.dec xc, dd.dec xd with
    | some ya, some yb, some yc, some yd => (g ya yb yc yd).bind fun r => k (dr.enc r)
    | _, _, _, _ => none
  | _ => none
theorem CTok.of4 {f : FuncId} {fn : Func} {α β γ δ τ : Type} {da : D α} {db : D β} {dc : D γ} {dd : D δ} {dr : D τ} {g : α → β → γ → δ → Option τ} (henter : ∀ args w, (callFunc f args).run P w = .ok (.enter f args) w) (hmix : P.follows .mixedOrders = true) (hf : P.funcs[f]? = some fn) (hn : 4 ≤ fn.ntmps)
    (h : ∀ a b c d r, g a b c d = some r → wf2 (da.enc a) → wf2 (db.enc b) → wf2 (dc.enc c) → wf2 (dd.enc d) → ∃ (cfg : Cfg) (N : Nat), CfgOk P cfg ∧ (∀ body, fn.body = some body → ∀ b ∈ loopsOf body, ∀ lc, lkL (firstReg b) cfg.lp = some lc → LCOk cfg N b lc) ∧ evFunc cfg N fn [.v (da.enc a), .v (db.enc b), .v (dc.enc c), .v (dd.enc d)] [] 0 dr.dec = some r) : CTok P f (CT.of4 da db dc dd dr g) := by
  refine CTok.plain henter hmix hf fun R args mem k r hc hw => ?_
  unfold CT.of4 at hc
  split at hc
  · split at hc
    · rename_i qa qb qc qd
      obtain ⟨x, hg, hk⟩ := Option.bind_eq_some_iff.1 hc
      have ea := da.ok _ _ qa
      have eb := db.ok _ _ qb
      have ec := dc.ok _ _ qc
      have ed := dd.ok _ _ qd
      subst ea eb ec ed
      obtain ⟨cfg, N, hcfg, hHL, hev⟩ := h _ _ _ _ x hg (hw (.v _) (by simp)) (hw (.v _) (by simp)) (hw (.v _) (by simp)) (hw (.v _) (by simp))
      exact ⟨τ, dr, x, [_, _, _, _], cfg, N, hk, rfl, by simpa using hn, hcfg, hHL, hev⟩
    · cases hc
  · cases hc
def CT.of5 {α β γ δ ε τ : Type} (da : D α) (db : D β) (dc : D γ) (dd : D δ) (de : D ε) (dr : D τ) (g : α → β → γ → δ → ε → Option τ) : CT := fun R args _ k => match args with
  | [.v xa, .v xb, .v xc, .v xd, .v xe] => match da.dec xa, db.dec xb, dc.dec xc, dd.dec xd, de.dec xe with
    | some ya, some yb, some yc, some yd, some ye => (g ya yb yc yd ye).bind fun r => k (dr.enc r)
    | _, _, _, _, _ => none
  | _ => none
theorem CTok.of5 {f : FuncId} {fn : Func} {α β γ δ ε τ : Type} {da : D α} {db : D β} {dc : D γ} {dd : D δ} {de : D ε} {dr : D τ} {g : α → β → γ → δ → ε → Option τ} (henter : ∀ args w, (callFunc f args).run P w = .ok (.enter f args) w) (hmix : P.follows .mixedOrders = true) (hf : P.funcs[f]? = some fn) (hn : 5 ≤ fn.ntmps)
    (h : ∀ a b c d e r, g a b c d e = some r → wf2 (da.enc a) → wf2 (db.enc b) → wf2 (dc.enc c) → wf2 (dd.enc d) → wf2 (de.enc e) → ∃ (cfg : Cfg) (N : Nat), CfgOk P cfg ∧ (∀ body, fn.body = some body → ∀ b ∈ loopsOf body, ∀ lc, lkL (firstReg b) cfg.lp = some lc → LCOk cfg N b lc) ∧ evFunc cfg N fn [.v (da.enc a), .v (db.enc b), .v (dc.enc c), .v (dd.enc d), .v (de.enc e)] [] 0 dr.dec = some r) : CTok P f (CT.of5 da db dc dd de dr g) := by
  refine CTok.plain henter hmix hf fun R args mem k r hc hw => ?_
  unfold CT.of5 at hc
  split at hc
  · split at hc
    · rename_i qa qb qc qd qe
      obtain ⟨x, hg, hk⟩ := Option.bind_eq_some_iff.1 hc
      have ea := da.ok _ _ qa
      have eb := db.ok _ _ qb
      have ec := dc.ok _ _ qc
      have ed := dd.ok _ _ qd
      have ee := de.ok _ _ qe
      subst ea eb ec ed ee
      obtain ⟨cfg, N, hcfg, hHL, hev⟩ := h _ _ _ _ _ x hg (hw (.v _) (by simp)) (hw (.v _) (by simp)) (hw (.v _) (by simp)) (hw (.v _) (by simp)) (hw (.v _) (by simp))
      exact ⟨τ, dr, x, [_, _, _, _, _], cfg, N, hk, rfl, by simpa using hn, hcfg, hHL, hev⟩
    · cases hc
  · cases hc
def CT.of6 {α β γ δ ε ζ τ : Type} (da : D α) (db : D β) (dc : D γ) (dd : D δ) (de : D ε) (du : D ζ) (dr : D τ) (g : α → β → γ → δ → ε → ζ → Option τ) : CT := fun R args _ k => match args with
  | [.v xa, .v xb, .v xc, .v xd, .v xe, .v xu] => match da.dec xa, db.dec xb, dc.dec xc, dd.dec xd, de.dec xe, du.dec xu with
    | some ya, some yb, some yc, some yd, some ye, some yu => (g ya yb yc yd ye yu).bind fun r => k (dr.enc r)
    | _, _, _, _, _, _ => none
  | _ => none
theorem CTok.of6 {f : FuncId} {fn : Func} {α β γ δ ε ζ τ : Type} {da : D α} {db : D β} {dc : D γ} {dd : D δ} {de : D ε} {du : D ζ} {dr : D τ} {g : α → β → γ → δ → ε → ζ → Option τ} (henter : ∀ args w, (callFunc f args).run P w = .ok (.enter f args) w) (hmix : P.follows .mixedOrders = true) (hf : P.funcs[f]? = some fn) (hn : 6 ≤ fn.ntmps)
    (h : ∀ a b c d e u r, g a b c d e u = some r → wf2 (da.enc a) → wf2 (db.enc b) → wf2 (dc.enc c) → wf2 (dd.enc d) → wf2 (de.enc e) → wf2 (du.enc u) → ∃ (cfg : Cfg) (N : Nat), CfgOk P cfg ∧ (∀ body, fn.body = some body → ∀ b ∈ loopsOf body, ∀ lc, lkL (firstReg b) cfg.lp = some lc → LCOk cfg N b lc) ∧ evFunc cfg N fn [.v (da.enc a), .v (db.enc b), .v (dc.enc c), .v (dd.enc d), .v (de.enc e), .v (du.enc u)] [] 0 dr.dec = some r) : CTok P f (CT.of6 da db dc dd de du dr g) := by
  refine CTok.plain henter hmix hf fun R args mem k r hc hw => ?_
  unfold CT.of6 at hc
  split at hc
  · split at hc
    · rename_i qa qb qc qd qe qu
      obtain ⟨x, hg, hk⟩ := Option.bind_eq_some_iff.1 hc
      have ea := da.ok _ _ qa
      have eb := db.ok _ _ qb
      have ec := dc.ok _ _ qc
      have ed := dd.ok _ _ qd
      have ee := de.ok _ _ qe
      have eu := du.ok _ _ qu
      subst ea eb ec ed ee eu
      obtain ⟨cfg, N, hcfg, hHL, hev⟩ := h _ _ _ _ _ _ x hg (hw (.v _) (by simp)) (hw (.v _) (by simp)) (hw (.v _) (by simp)) (hw (.v _) (by simp)) (hw (.v _) (by simp)) (hw (.v _) (by simp))
      exact ⟨τ, dr, x, [_, _, _, _, _, _], cfg, N, hk, rfl, by simpa using hn, hcfg, hHL, hev⟩
    · cases hc
  · cases hc
def CT.of7 {α β γ δ ε ζ η τ : Type} (da : D α) (db : D β) (dc : D γ) (dd : D δ) (de : D ε) (du : D ζ) (dv : D η) (dr : D τ) (g : α → β → γ → δ → ε → ζ → η → Option τ) : CT := fun R args _ k => match args with
  | [.v xa, .v xb, .v xc, .v xd, .v xe, .v xu, .v xv] => match da.dec xa, db.dec xb, dc.dec xc, dd.dec xd, de.dec xe, du.dec xu, dv.dec xv with
    | some ya, some yb, some yc, some yd, some ye, some yu, some yv => (g ya yb yc yd ye yu yv).bind fun r => k (dr.enc r)
    | _, _, _, _, _, _, _ => none
  | _ => none
theorem CTok.of7 {f : FuncId} {fn : Func} {α β γ δ ε ζ η τ : Type} {da : D α} {db : D β} {dc : D γ} {dd : D δ} {de : D ε} {du : D ζ} {dv : D η} {dr : D τ} {g : α → β → γ → δ → ε → ζ → η → Option τ} (henter : ∀ args w, (callFunc f args).run P w = .ok (.enter f args) w) (hmix : P.follows .mixedOrders = true) (hf : P.funcs[f]? = some fn) (hn : 7 ≤ fn.ntmps)
    (h : ∀ a b c d e u v r, g a b c d e u v = some r → wf2 (da.enc a) → wf2 (db.enc b) → wf2 (dc.enc c) → wf2 (dd.enc d) → wf2 (de.enc e) → wf2 (du.enc u) → wf2 (dv.enc v) → ∃ (cfg : Cfg) (N : Nat), CfgOk P cfg ∧ (∀ body, fn.body = some body → ∀ b ∈ loopsOf body, ∀ lc, lkL (firstReg b) cfg.lp = some lc → LCOk cfg N b lc) ∧ evFunc cfg N fn [.v (da.enc a), .v (db.enc b), .v (dc.enc c), .v (dd.enc d), .v (de.enc e), .v (du.enc u), .v (dv.enc v)] [] 0 dr.dec = some r) : CTok P f (CT.of7 da db dc dd de du dv dr g) := by
  refine CTok.plain henter hmix hf fun R args mem k r hc hw => ?_
  unfold CT.of7 at hc
  split at hc
  · split at hc
    · rename_i qa qb qc qd qe qu qv
      obtain ⟨x, hg, hk⟩ := Option.bind_eq_some_iff.1 hc
      have ea := da.ok _ _ qa
      have eb := db.ok _ _ qb
      have ec := dc.ok _ _ qc
      have ed := dd.ok _ _ qd
      have ee := de.ok _ _ qe
      have eu := du.ok _ _ qu
      have ev := dv.ok _ _ qv
      subst ea eb ec ed ee eu ev
      obtain ⟨cfg, N, hcfg, hHL, hev⟩ := h _ _ _ _ _ _ _ x hg (hw (.v _) (by simp)) (hw (.v _) (by simp)) (hw (.v _) (by simp)) (hw (.v _) (by simp)) (hw (.v _) (by simp)) (hw (.v _) (by simp)) (hw (.v _) (by simp))
      exact ⟨τ, dr, x, [_, _, _, _, _, _, _], cfg, N, hk, rfl, by simpa using hn, hcfg, hHL, hev⟩
    · cases hc
  · cases hc
end
end Go.Proofs.YtnfbcofieobkkaaDoor.Ev

/- The contract of a loop: its state is read, part by part. -/
namespace Go.Proofs.YtnfbcofieobkkaaDoor.Ev
open Go Go.RowKit
set_option linter.unusedVariables false
set_option linter.unusedSimpArgs false

/-- How a block is read and spelt. -/
structure MD (α : Type) where
  enc : α → Blk
  dec : Blk → Option α
  ok : ∀ b x, dec b = some x → b = enc x

def mLit {α : Type} (f : List Value → Option α) (g : α → List Value) (h : ∀ l x, f l = some x → l = g x) : MD α where
  enc x := .lit (g x)
  dec b := match b with | .lit l => f l | _ => none
  ok b x hb := by
    split at hb
    · rw [h _ _ hb]
    · cases hb

def mPts : MD Pts := mLit rdP Pts.cs fun _ _ => rdP_some
def mRgh : MD Rgh := mLit rdR Rgh.cs fun _ _ => rdR_some
def mExc : MD Exc := mLit rdX Exc.cs fun _ _ => rdX_some
def mFnd : MD Fnd := mLit rdF Fnd.cs fun _ _ => rdF_some
def mP3 : MD P3 := mLit rd3 P3.cs fun _ _ => rd3_some

def rd1 {α : Type} (d : D α) : List Value → Option α
  | [v] => d.dec v
  | _ => none
def m1 {α : Type} (d : D α) : MD α := mLit (rd1 d) (fun x => [d.enc x]) fun l x h => by
  match l, h with
  | [v], h => rw [d.ok v x h]

def mW : MD W6 where
  enc w := .ints .u64 [w.w0, w.w1, w.w2, w.w3, w.w4, w.w5]
  dec b := match b with | .ints .u64 [a, b, c, d, e, f] => some ⟨a, b, c, d, e, f⟩ | _ => none
  ok b x hb := by
    split at hb
    · cases hb; rfl
    · cases hb

def mBits : MD B2 where
  enc w := .ints .u64 [w.hi, w.lo]
  dec b := match b with | .ints .u64 [a, b] => some ⟨a, b⟩ | _ => none
  ok b x hb := by
    split at hb
    · cases hb; rfl
    · cases hb

def mL (kk : IntKind) : MD (List Int) where
  enc l := .ints kk l
  dec b := match b with | .ints k l => bif decide (k = kk) then some l else none | _ => none
  ok b x hb := by
    split at hb
    · obtain ⟨h1, h2⟩ := bif_some hb
      have h3 : _ = kk := of_decide_eq_true h1
      subst h3
      cases h2; rfl
    · cases hb

section
variable {R : Type} {r : R}

def tkD {α : Type} (t : Nat) (d : D α) (e : List (Nat × AV)) (K : α → List (Nat × AV) → Option R) : Option R := match e with
  | (u, .v x) :: l => bif Nat.beq u t then (match d.dec x with | some y => K y l | none => none) else none
  | _ => none

def tkP (t lb off : Nat) (e : List (Nat × AV)) (K : List (Nat × AV) → Option R) : Option R := match e with
  | (u, .p l o) :: r => bif Nat.beq u t && Nat.beq l lb && Nat.beq o off then K r else none
  | _ => none

def tkS (t lb off : Nat) (e : List (Nat × AV)) (K : Nat → Nat → List (Nat × AV) → Option R) : Option R := match e with
  | (u, .s l o n c) :: r => bif Nat.beq u t && Nat.beq l lb && Nat.beq o off then K n c r else none
  | _ => none

def tkM {α : Type} (l : Nat) (own : Bool) (ty : TypeId) (m : MD α) (e : List (Nat × Bk)) (K : α → List (Nat × Bk) → Option R) : Option R := match e with
  | (u, ⟨o, t, b⟩) :: r => bif Nat.beq u l && (o == own) && Nat.beq t ty then (match m.dec b with | some y => K y r | none => none) else none
  | _ => none

def tkN {α : Type} (e : List α) (K : Option R) : Option R := match e with
  | [] => K
  | _ => none

def tkSt (n nx : Nat) (st : St) (K : List (Nat × AV) → List (Nat × Bk) → Option R) : Option R := match st with
  | ⟨n', e, m, x, []⟩ => bif Nat.beq n' n && Nat.beq x nx then K e m else none
  | _ => none

theorem tkD_some {α : Type} {t : Nat} {d : D α} {e : List (Nat × AV)} {K : α → List (Nat × AV) → Option R} (h : tkD t d e K = some r) : ∃ y l, e = (t, .v (d.enc y)) :: l ∧ K y l = some r := by
  unfold tkD at h
  split at h
  · obtain ⟨h1, h2⟩ := bif_some h
    clear h
    simp only [nbeq, decide_eq_true_eq] at h1
    split at h2
    · rename_i y hy
      subst h1
      exact ⟨y, _, by rw [d.ok _ _ hy], h2⟩
    · cases h2
  · cases h

theorem tkP_some {t lb off : Nat} {e : List (Nat × AV)} {K : List (Nat × AV) → Option R} (h : tkP t lb off e K = some r) : ∃ l, e = (t, .p lb off) :: l ∧ K l = some r := by
  unfold tkP at h
  split at h
  · obtain ⟨h1, h2⟩ := bif_some h
    clear h
    simp only [nbeq, Bool.and_eq_true, decide_eq_true_eq] at h1
    obtain ⟨⟨rfl, rfl⟩, rfl⟩ := h1
    exact ⟨_, rfl, h2⟩
  · cases h

theorem tkS_some {t lb off : Nat} {e : List (Nat × AV)} {K : Nat → Nat → List (Nat × AV) → Option R} (h : tkS t lb off e K = some r) : ∃ n c l, e = (t, .s lb off n c) :: l ∧ K n c l = some r := by
  unfold tkS at h
  split at h
  · obtain ⟨h1, h2⟩ := bif_some h
    clear h
    simp only [nbeq, Bool.and_eq_true, decide_eq_true_eq] at h1
    obtain ⟨⟨rfl, rfl⟩, rfl⟩ := h1
    exact ⟨_, _, _, rfl, h2⟩
  · cases h

theorem tkM_some {α : Type} {l : Nat} {own : Bool} {ty : TypeId} {m : MD α} {e : List (Nat × Bk)} {K : α → List (Nat × Bk) → Option R} (h : tkM l own ty m e K = some r) : ∃ y q, e = (l, ⟨own, ty, m.enc y⟩) :: q ∧ K y q = some r := by
  unfold tkM at h
  split at h
  · obtain ⟨h1, h2⟩ := bif_some h
    clear h
    simp only [nbeq, Bool.and_eq_true, decide_eq_true_eq, beq_iff_eq] at h1
    split at h2
    · rename_i y hy
      obtain ⟨⟨rfl, rfl⟩, rfl⟩ := h1
      exact ⟨y, _, by rw [m.ok _ _ hy], h2⟩
    · cases h2
  · cases h

theorem tkN_some {α : Type} {e : List α} {K : Option R} (h : tkN e K = some r) : e = [] ∧ K = some r := by
  unfold tkN at h
  split at h
  · exact ⟨rfl, h⟩
  · cases h

theorem tkSt_some {n nx : Nat} {st : St} {K : List (Nat × AV) → List (Nat × Bk) → Option R} (h : tkSt n nx st K = some r) : ∃ e m, st = ⟨n, e, m, nx, []⟩ ∧ K e m = some r := by
  unfold tkSt at h
  split at h
  · obtain ⟨h1, h2⟩ := bif_some h
    clear h
    simp only [nbeq, Bool.and_eq_true, decide_eq_true_eq] at h1
    obtain ⟨rfl, rfl⟩ := h1
    exact ⟨_, _, rfl, h2⟩
  · cases h

end

def loopAt (j : Nat) (fn : Func) : Code := match fn.body with
  | some c => (nthL j (loopsOf c)).getD .skip
  | none => .skip

/-- The loops' contracts, one by one. -/
theorem HL_of {cfg : Cfg} {N : Nat} {fn : Func} {ids : List Nat} (hids : (match fn.body with | some c => (loopsOf c).map firstReg | none => []) = ids)
    (h : ∀ j lc, j < ids.length → lkL (ids.getD j 0) cfg.lp = some lc → LCOk cfg N (loopAt j fn) lc) :
    ∀ body, fn.body = some body → ∀ b ∈ loopsOf body, ∀ lc, lkL (firstReg b) cfg.lp = some lc → LCOk cfg N b lc := by
  intro body hb b hm lc hlc
  rw [hb] at hids
  simp only at hids
  obtain ⟨j, hj, rfl⟩ := List.mem_iff_getElem.1 hm
  have hlen : j < ids.length := by rw [← hids]; simpa using hj
  have hid : ids.getD j 0 = firstReg (loopsOf body)[j] := by
    rw [← hids, List.getD_eq_getElem?_getD, List.getElem?_map, List.getElem?_eq_getElem hj]
    rfl
  have := h j lc hlen (by rw [hid]; exact hlc)
  have e : loopAt j fn = (loopsOf body)[j] := by
    unfold loopAt
    rw [hb]
    simp only
    rw [nthL_eq, List.getElem?_eq_getElem hj]
    rfl
  rw [e] at this
  exact this

theorem HL_nil {cfg : Cfg} {N : Nat} {fn : Func} (h : cfg.lp = []) : ∀ body, fn.body = some body → ∀ b ∈ loopsOf body, ∀ lc, lkL (firstReg b) cfg.lp = some lc → LCOk cfg N b lc := by
  intro body _ b _ lc hlc
  rw [h] at hlc
  cases hlc

/-- The contracts of the callees, one by one. -/
inductive CsOk (P : Program) : List (FuncId × CT) → Prop
  | nil : CsOk P []
  | cons {g : FuncId} {ct : CT} {l : List (FuncId × CT)} (h : CTok P g ct) (hl : CsOk P l) : CsOk P ((g, ct) :: l)

theorem CsOk.get {P : Program} : ∀ {l : List (FuncId × CT)}, CsOk P l → ∀ g ct, lkC g l = some ct → CTok P g ct
  | _, .nil, g, ct, h => by cases h
  | _, .cons (g := g') h hl, g, ct, hc => by
    simp only [lkC, nbeq] at hc
    by_cases e : g = g'
    · subst e
      simp only [decide_true, cond_true, Option.some.injEq] at hc
      subst hc
      exact h
    · simp only [e, decide_false, cond_false] at hc
      exact hl.get g ct hc

end Go.Proofs.YtnfbcofieobkkaaDoor.Ev

/- Structs and arrays held against each other, cell by cell. -/
namespace Go.Proofs.YtnfbcofieobkkaaDoor.Ev
open Go Go.RowKit
set_option linter.unusedVariables false
set_option linter.unusedSimpArgs false

section
variable {P : Program}

def ckT (P : Program) (t : TypeId) : CK → Prop
  | .i k => P.underlying t = some (.int k)
  | .b => P.underlying t = some .bool
  | .s => P.underlying t = some .string

theorem part_ck {t : TypeId} {c : CK} (h : ckT P t c) {xs : Array Value} {off : Nat} {v : Value} (hx : xs[off]? = some v) (w : World) : (part t xs off).run P w = .ok v w := by
  cases c <;> (simp only [ckT] at h; simp [part, isAgg, run_underlying h, hx])

/-- One cell against one cell. -/
theorem eqCells_cons {c : CK} {ks : List CK} {x y : Value} {xs ys : List Value} {b : Bool} (h : eqCells (c :: ks) (x :: xs) (y :: ys) = some b) :
    ∃ b1 b2 : Bool, eqCells ks xs ys = some b2 ∧ b = (b1 && b2) ∧ ∀ (t : TypeId) (d : Nat) (w : World), ckT P t c → (Op.equalIn (d + 1) t x y).run P w = .ok b1 w := by
  unfold eqCells at h
  split at h
  · rename_i e _; cases e
  · rename_i kk ks' k a r k' a' s e1 e2 e3
    cases e1; cases e2; cases e3
    split at h
    · rename_i b2 hd hb2
      simp only [Bool.and_eq_true, decide_eq_true_eq] at hd
      obtain ⟨rfl, rfl⟩ := hd
      exact ⟨a == a', b2, hb2, (Option.some.inj h).symm, fun t d w ht => run_equalIn_int w d t _ _ a a' ht⟩
    · cases h
  · rename_i ks' a r a' s e1 e2 e3
    cases e1; cases e2; cases e3
    split at h
    · rename_i b2 hb2
      exact ⟨a == a', b2, hb2, (Option.some.inj h).symm, fun t d w ht => run_equalIn_bool w d t a a' ht⟩
    · cases h
  · rename_i ks' a r a' s e1 e2 e3
    cases e1; cases e2; cases e3
    split at h
    · rename_i b2 hb2
      exact ⟨strEq a a', b2, hb2, (Option.some.inj h).symm, fun t d w ht => run_equalIn_string w d t a a' ht⟩
    · cases h
  · cases h

theorem eqCells_shape {c : CK} {ks : List CK} {l m : List Value} {b : Bool} (h : eqCells (c :: ks) l m = some b) : ∃ x xs y ys, l = x :: xs ∧ m = y :: ys := by
  unfold eqCells at h
  split at h
  · rename_i e; cases e
  · exact ⟨_, _, _, _, rfl, rfl⟩
  · exact ⟨_, _, _, _, rfl, rfl⟩
  · exact ⟨_, _, _, _, rfl, rfl⟩
  · cases h

def FM (P : Program) : Nat → List Field → List CK → Prop
  | _, [], [] => True
  | o, f :: fs, c :: ks => f.offset = o ∧ f.name ≠ "_" ∧ ckT P f.type c ∧ FM P (o + 1) fs ks
  | _, _, _ => False

theorem drop_head {l r : List Value} {o : Nat} {x : Value} (h : l.drop o = x :: r) : l[o]? = some x ∧ l.drop (o + 1) = r := by
  constructor
  · have := congrArg (·[0]?) h
    simpa using this
  · rw [← List.tail_drop, h]
    rfl

theorem eqFields_ok (xs ys : List Value) (d : Nat) : ∀ (fs : List Field) (ks : List CK) (o : Nat), FM P o fs ks → ∀ b, eqCells ks (xs.drop o) (ys.drop o) = some b → ∀ w, (Op.eqFields (d + 1) ⟨xs⟩ ⟨ys⟩ fs).run P w = .ok b w
  | [], [], o, _, b, h, w => by
    have : b = true := by
      unfold eqCells at h
      split at h
      · exact (Option.some.inj h).symm
      · rename_i e _ _; cases e
      · rename_i e _ _; cases e
      · rename_i e _ _; cases e
      · cases h
    subst this
    simp [Op.eqFields]
  | [], _ :: _, o, hf, _, _, _ => hf.elim
  | _ :: _, [], o, hf, _, _, _ => hf.elim
  | f :: fs, c :: ks, o, hf, b, h, w => by
    obtain ⟨h1, h2, h3, h4⟩ := hf
    obtain ⟨x, rx, y, ry, ex, ey⟩ := eqCells_shape h
    rw [ex, ey] at h
    obtain ⟨b1, b2, hb2, rfl, hrun⟩ := eqCells_cons (P := P) h
    obtain ⟨gx, tx⟩ := drop_head ex
    obtain ⟨gy, ty⟩ := drop_head ey
    have ih := eqFields_ok xs ys d fs ks (o + 1) h4 b2 (by rw [tx, ty]; exact hb2) w
    have px := part_ck (P := P) h3 (xs := ⟨xs⟩) (off := f.offset) (v := x) (by rw [h1]; simpa using gx) w
    have py := part_ck (P := P) h3 (xs := ⟨ys⟩) (off := f.offset) (v := y) (by rw [h1]; simpa using gy) w
    simp only [Op.eqFields, h2, ne_eq, not_false_eq_true, if_true, Sem.run_bind, px, py, hrun f.type d w h3, Result.andThen_ok]
    cases b1
    · simp
    · simpa using ih

theorem eqItems_ok (xs ys : List Value) (d : Nat) {e : TypeId} {c : CK} (he : ckT P e c) : ∀ (n o : Nat) (b : Bool), eqCells (List.replicate n c) (xs.drop o) (ys.drop o) = some b → ∀ w, (Op.eqItems (d + 1) e 1 ⟨xs⟩ ⟨ys⟩ (List.range' o n)).run P w = .ok b w
  | 0, o, b, h, w => by
    have : b = true := by
      simp only [List.replicate] at h
      unfold eqCells at h
      split at h
      · exact (Option.some.inj h).symm
      · rename_i e _ _; cases e
      · rename_i e _ _; cases e
      · rename_i e _ _; cases e
      · cases h
    subst this
    simp [Op.eqItems]
  | n + 1, o, b, h, w => by
    rw [List.replicate_succ] at h
    obtain ⟨x, rx, y, ry, ex, ey⟩ := eqCells_shape h
    rw [ex, ey] at h
    obtain ⟨b1, b2, hb2, rfl, hrun⟩ := eqCells_cons (P := P) h
    obtain ⟨gx, tx⟩ := drop_head ex
    obtain ⟨gy, ty⟩ := drop_head ey
    have ih := eqItems_ok xs ys d he n (o + 1) b2 (by rw [tx, ty]; exact hb2) w
    have px := part_ck (P := P) he (xs := ⟨xs⟩) (off := o) (v := x) (by simpa using gx) w
    have py := part_ck (P := P) he (xs := ⟨ys⟩) (off := o) (v := y) (by simpa using gy) w
    rw [List.range'_succ]
    simp only [Op.eqItems, Nat.mul_one, Sem.run_bind, px, py, hrun e d w he, Result.andThen_ok]
    cases b1
    · simp
    · simpa using ih

/-- What the table of types that are held against each other must say. -/
def EqOk (P : Program) (t : TypeId) (ks : List CK) : Prop := P.eqGuardType P.depth t = false ∧ ∀ xs ys b, eqCells ks xs ys = some b → ∀ w, (Op.equal t (.agg ⟨xs⟩) (.agg ⟨ys⟩)).run P w = .ok b w

theorem FM.nil {o : Nat} : FM P o [] [] := trivial
theorem FM.cons {o : Nat} {f : Field} {fs : List Field} {c : CK} {ks : List CK} (h1 : f.offset = o) (h2 : f.name ≠ "_") (h3 : ckT P f.type c) (h4 : FM P (o + 1) fs ks) : FM P o (f :: fs) (c :: ks) := ⟨h1, h2, h3, h4⟩

theorem EqOk.struct {t : TypeId} {ks : List CK} {flds : List Field} (hg : P.eqGuardType P.depth t = false) (hu : P.underlying t = some (.struct ⟨flds⟩)) (hp : P.stoodInHeld t = false) (hf : FM P 0 flds ks) : EqOk P t ks :=
  ⟨hg, fun xs ys b h w => by
    have e : P.fieldsOf t = ⟨flds⟩ := by simp [Program.fieldsOf, hu]
    unfold Op.equal Op.maxDepth
    rw [run_equalIn_struct w 9999 t _ _ (by rw [e]; exact hu) hp, e]
    exact eqFields_ok xs ys 9998 _ ks 0 hf b (by simpa using h) w⟩

theorem EqOk.array {t e : TypeId} {n : Nat} {c : CK} {i : TypeInfo} (hg : P.eqGuardType P.depth t = false) (hu : P.underlying t = some (.array n e)) (hi : P.info? e = some i) (hc : P.cellsOf e = 1) (he : ckT P e c) : EqOk P t (List.replicate n c) :=
  ⟨hg, fun xs ys b h w => by
    unfold Op.equal Op.maxDepth
    rw [run_equalIn_array w 9999 _ _ hu hi, hc, List.range_eq_range']
    exact eqItems_ok xs ys 9998 he n 0 b (by simpa using h) w⟩

inductive EqsOk (P : Program) : List (Nat × List CK) → Prop
  | nil : EqsOk P []
  | cons {t : TypeId} {ks : List CK} {l : List (Nat × List CK)} (h : EqOk P t ks) (hl : EqsOk P l) : EqsOk P ((t, ks) :: l)

theorem EqsOk.get {P : Program} : ∀ {l : List (Nat × List CK)}, EqsOk P l → ∀ t ks, lk t l = some ks → EqOk P t ks
  | _, .nil, t, ks, h => by simp [lk_nil] at h
  | _, .cons h hl, t, ks, hc => by
    rw [lk_cons] at hc
    split at hc
    · rename_i e; subst e; cases hc; exact h
    · exact hl.get t ks hc

end
end Go.Proofs.YtnfbcofieobkkaaDoor.Ev

/- Contracts of functions that are handed slices: whole blocks, from their beginning. -/
namespace Go.Proofs.YtnfbcofieobkkaaDoor.Ev
open Go Go.RowKit
set_option linter.unusedVariables false
set_option linter.unusedSimpArgs false

/-- A loop's rounds, at most. -/
def fuel : Nat := 1048576

/-- A list that is none. -/
def dNil : D Unit where
  enc _ := .slice none 0 0
  dec v := match v with | .slice none 0 0 => some () | _ => none
  ok v x h := by
    split at h
    · rfl
    · cases h

structure V12 where
  w0 : Int
  w1 : Int
  w2 : Int
  w3 : Int
  w4 : Int
  w5 : Int
  w6 : Int
  w7 : Int
  w8 : Int
  w9 : Int
  w10 : Int
  w11 : Int

def V12.l (w : V12) : List Int := [w.w0, w.w1, w.w2, w.w3, w.w4, w.w5, w.w6, w.w7, w.w8, w.w9, w.w10, w.w11]
def V12.cs (w : V12) : List Value := [.int .u64 w.w0, .int .u64 w.w1, .int .u64 w.w2, .int .u64 w.w3, .int .u64 w.w4, .int .u64 w.w5, .int .u64 w.w6, .int .u64 w.w7, .int .u64 w.w8, .int .u64 w.w9, .int .u64 w.w10, .int .u64 w.w11]
def rdV : List Int → Option V12
  | [w0, w1, w2, w3, w4, w5, w6, w7, w8, w9, w10, w11] => some ⟨w0, w1, w2, w3, w4, w5, w6, w7, w8, w9, w10, w11⟩
  | _ => none
theorem rdV_some {l : List Int} {w : V12} (h : rdV l = some w) : l = w.l := by
  unfold rdV at h
  split at h
  · cases h; rfl
  · cases h
def rdVV (l : List Value) : Option V12 := match toInts .u64 l with
  | some xs => rdV xs
  | none => none
theorem rdVV_some {l : List Value} {w : V12} (h : rdVV l = some w) : l = w.cs := by
  unfold rdVV at h
  split at h
  · rename_i xs hx
    rw [toInts_some hx, rdV_some h]
    rfl
  · cases h
def dV12 : D V12 := ⟨fun w => .agg ⟨w.cs⟩, rAgg rdVV, fun _ _ h => rAgg_some (fun _ _ => rdVV_some) h⟩
def mV12 : MD V12 where
  enc w := .ints .u64 w.l
  dec b := match b with | .ints .u64 l => rdV l | _ => none
  ok b x hb := by
    split at hb
    · rw [rdV_some hb]
    · cases hb

def mB2x2 : MD (B2 × B2) where
  enc w := .ints .u64 [w.1.hi, w.1.lo, w.2.hi, w.2.lo]
  dec b := match b with | .ints .u64 [a, b, c, d] => some (⟨a, b⟩, ⟨c, d⟩) | _ => none
  ok b x hb := by
    split at hb
    · cases hb; rfl
    · cases hb

def mB2x3 : MD (B2 × B2 × B2) where
  enc w := .ints .u64 [w.1.hi, w.1.lo, w.2.1.hi, w.2.1.lo, w.2.2.hi, w.2.2.lo]
  dec b := match b with | .ints .u64 [a, b, c, d, e, f] => some (⟨a, b⟩, ⟨c, d⟩, ⟨e, f⟩) | _ => none
  ok b x hb := by
    split at hb
    · cases hb; rfl
    · cases hb

def rdP2 (l : List Value) : Option (Pts × Pts) := match rdP (l.take 14), rdP (l.drop 14) with
  | some a, some b => some (a, b)
  | _, _ => none
def mPx2 : MD (Pts × Pts) := mLit rdP2 (fun x => x.1.cs ++ x.2.cs) fun l x h => by
  unfold rdP2 at h
  split at h
  · rename_i a b ha hb
    cases h
    rw [← rdP_some ha, ← rdP_some hb, List.take_append_drop]
  · cases h

section
variable {P : Program}

/-- A contract of the library's, of one plain value. -/
theorem CTok.lib1 {f : FuncId} {α τ : Type} {da : D α} {dr : D τ} {g : α → Option τ} (henter : ∀ args w, (callFunc f args).run P w = .ok (.enter f args) w)
    (h : ∀ a r, g a = some r → wf2 (da.enc a) → wf2 (dr.enc r) ∧ ∀ w, WI w → Calls P f #[da.enc a] w fun e w' => e = .returned (dr.enc r) ∧ w' = w) : CTok P f (CT.of1 da dr g) := by
  refine ⟨henter, fun R args mem k r hc hw _ => ?_⟩
  unfold CT.of1 at hc
  split at hc
  · rename_i va
    split at hc
    · rename_i a ha
      obtain ⟨x, hg, hk⟩ := Option.bind_eq_some_iff.1 hc
      obtain rfl := da.ok _ _ ha
      obtain ⟨h1, h2⟩ := h a x hg (hw (.v (da.enc a)) (by simp))
      exact ⟨dr.enc x, hk, h1, fun ρ w hWI _ => (h2 w hWI).mono fun e w' ⟨he, hw'⟩ => ⟨he, by rw [hw']; exact Below.refl _ _⟩⟩
    · cases hc
  · cases hc

theorem CTok.lib2 {f : FuncId} {α β τ : Type} {da : D α} {db : D β} {dr : D τ} {g : α → β → Option τ} (henter : ∀ args w, (callFunc f args).run P w = .ok (.enter f args) w)
    (h : ∀ a b r, g a b = some r → wf2 (da.enc a) → wf2 (db.enc b) → wf2 (dr.enc r) ∧ ∀ w, WI w → Calls P f #[da.enc a, db.enc b] w fun e w' => e = .returned (dr.enc r) ∧ w' = w) : CTok P f (CT.of2 da db dr g) := by
  refine ⟨henter, fun R args mem k r hc hw _ => ?_⟩
  unfold CT.of2 at hc
  split at hc
  · rename_i va vb
    split at hc
    · rename_i a b ha hb
      obtain ⟨x, hg, hk⟩ := Option.bind_eq_some_iff.1 hc
      obtain rfl := da.ok _ _ ha
      obtain rfl := db.ok _ _ hb
      obtain ⟨h1, h2⟩ := h a b x hg (hw (.v (da.enc a)) (by simp)) (hw (.v (db.enc b)) (by simp))
      exact ⟨dr.enc x, hk, h1, fun ρ w hWI _ => (h2 w hWI).mono fun e w' ⟨he, hw'⟩ => ⟨he, by rw [hw']; exact Below.refl _ _⟩⟩
    · cases hc
  · cases hc

theorem lk_one {α : Type} (t : Nat) (a : α) : lk t [(0, a)] = if t = 0 then some a else none := by
  rw [lk_cons, lk_nil]

theorem lk_two {α : Type} (t : Nat) (a b : α) : lk t [(0, a), (1, b)] = if t = 0 then some a else if t = 1 then some b else none := by
  rw [lk_cons, lk_cons, lk_nil]

/-- A contract of a function of plain values and one slice behind them. -/
theorem CTok.plainS {f : FuncId} {fn : Func} {ct : CT} (henter : ∀ args w, (callFunc f args).run P w = .ok (.enter f args) w) (hmix : P.follows .mixedOrders = true) (hf : P.funcs[f]? = some fn)
    (h : ∀ (R : Type) args mem (k : Value → Option R) r, ct R args mem k = some r → (∀ a ∈ args, a.wf) → (∀ l bk, mem l = some bk → ∀ c ∈ bk.b.cells, wf0 c) → ∃ (τ : Type) (d : D τ) (x : τ) (vs : List Value) (l n c : Nat) (bk : Bk) (cfg : Cfg) (N : Nat),
      k (d.enc x) = some r ∧ args = vs.map AV.v ++ [.s l 0 n c] ∧ mem l = some bk ∧ vs.length + 1 ≤ fn.ntmps ∧ CfgOk P cfg ∧ (∀ body, fn.body = some body → ∀ b ∈ loopsOf body, ∀ lc, lkL (firstReg b) cfg.lp = some lc → LCOk cfg N b lc) ∧
      evFunc cfg N fn (vs.map AV.v ++ [.s 0 0 n c]) [(0, ⟨false, bk.ty, bk.b⟩)] 1 d.dec = some x) : CTok P f ct := by
  refine ⟨henter, fun R args mem k r hc hw hM => ?_⟩
  obtain ⟨τ, d, x, vs, l, n, c, bk, cfg, N, hk, rfl, hl, hlen, hcfg, hHL, hev⟩ := h R args mem k r hc hw hM
  have hA : ArgsOk (vs.map AV.v ++ [.s 0 0 n c]) [(0, (⟨false, bk.ty, bk.b⟩ : Bk))] 1 := by
    refine ⟨fun a ha => ?_, fun m b hm => ?_, fun a ha m hm => ?_, fun m b hm => ?_, fun m b hm => ?_⟩
    · rcases List.mem_append.1 ha with ha | ha
      · exact hw a (List.mem_append_left _ ha)
      · rw [List.mem_singleton.1 ha]
        exact (hw (.s l 0 n c) (by simp) : AV.wf (.s l 0 n c))
    · simp only [lk_one] at hm
      split at hm
      · cases hm; exact hM l bk hl
      · cases hm
    · rcases List.mem_append.1 ha with ha | ha
      · obtain ⟨v, _, rfl⟩ := List.mem_map.1 ha
        simp [lab] at hm
      · rw [List.mem_singleton.1 ha] at hm
        simp [lab] at hm
        omega
    · rw [lk_one] at hm
      split at hm
      · omega
      · cases hm
    · rw [lk_one] at hm
      split at hm
      · cases hm; rfl
      · cases hm
  obtain ⟨h1, h2⟩ := func_ok hcfg hmix hf d.ok hev hA (by simpa using hlen) hHL
  refine ⟨d.enc x, hk, h1, fun ρ w hWI hm => ?_⟩
  have := h2 (fun _ => ρ l) w hWI fun m b hb => by
    rw [lk_one] at hb
    split at hb
    · cases hb
      obtain ⟨fr, hg, _⟩ := hm (.s l 0 n c) (by simp) l (by simp [lab]) bk hl
      exact ⟨fr, hg⟩
    · cases hb
  have e : (vs.map AV.v ++ [AV.s 0 0 n c]).map (conc fun _ => ρ l) = (vs.map AV.v ++ [AV.s l 0 n c]).map (conc ρ) := by
    simp [conc, Function.comp_def]
  rw [e] at this
  exact this

/-- A contract of a function of plain values and two slices behind them. -/
theorem CTok.plainT {f : FuncId} {fn : Func} {ct : CT} (henter : ∀ args w, (callFunc f args).run P w = .ok (.enter f args) w) (hmix : P.follows .mixedOrders = true) (hf : P.funcs[f]? = some fn)
    (h : ∀ (R : Type) args mem (k : Value → Option R) r, ct R args mem k = some r → (∀ a ∈ args, a.wf) → (∀ l bk, mem l = some bk → ∀ c ∈ bk.b.cells, wf0 c) → ∃ (τ : Type) (d : D τ) (x : τ) (vs : List Value) (l n c l' n' c' : Nat) (bk bk' : Bk) (cfg : Cfg) (N : Nat),
      k (d.enc x) = some r ∧ args = vs.map AV.v ++ [.s l 0 n c, .s l' 0 n' c'] ∧ mem l = some bk ∧ mem l' = some bk' ∧ vs.length + 2 ≤ fn.ntmps ∧ CfgOk P cfg ∧ (∀ body, fn.body = some body → ∀ b ∈ loopsOf body, ∀ lc, lkL (firstReg b) cfg.lp = some lc → LCOk cfg N b lc) ∧
      evFunc cfg N fn (vs.map AV.v ++ [.s 0 0 n c, .s 1 0 n' c']) [(0, ⟨false, bk.ty, bk.b⟩), (1, ⟨false, bk'.ty, bk'.b⟩)] 2 d.dec = some x) : CTok P f ct := by
  refine ⟨henter, fun R args mem k r hc hw hM => ?_⟩
  obtain ⟨τ, d, x, vs, l, n, c, l', n', c', bk, bk', cfg, N, hk, rfl, hl, hl', hlen, hcfg, hHL, hev⟩ := h R args mem k r hc hw hM
  have hA : ArgsOk (vs.map AV.v ++ [.s 0 0 n c, .s 1 0 n' c']) [(0, (⟨false, bk.ty, bk.b⟩ : Bk)), (1, (⟨false, bk'.ty, bk'.b⟩ : Bk))] 2 := by
    refine ⟨fun a ha => ?_, fun m b hm => ?_, fun a ha m hm => ?_, fun m b hm => ?_, fun m b hm => ?_⟩
    · rcases List.mem_append.1 ha with ha | ha
      · exact hw a (List.mem_append_left _ ha)
      · simp only [List.mem_cons, List.not_mem_nil, or_false] at ha
        rcases ha with rfl | rfl
        · exact (hw (.s l 0 n c) (by simp) : AV.wf (.s l 0 n c))
        · exact (hw (.s l' 0 n' c') (by simp) : AV.wf (.s l' 0 n' c'))
    · simp only [lk_two] at hm
      split at hm
      · cases hm; exact hM l bk hl
      · split at hm
        · cases hm; exact hM l' bk' hl'
        · cases hm
    · rcases List.mem_append.1 ha with ha | ha
      · obtain ⟨v, _, rfl⟩ := List.mem_map.1 ha
        simp [lab] at hm
      · simp only [List.mem_cons, List.not_mem_nil, or_false] at ha
        rcases ha with rfl | rfl <;> (simp [lab] at hm; omega)
    · rw [lk_two] at hm
      split at hm
      · omega
      · split at hm
        · omega
        · cases hm
    · rw [lk_two] at hm
      split at hm
      · cases hm; rfl
      · split at hm
        · cases hm; rfl
        · cases hm
  obtain ⟨h1, h2⟩ := func_ok hcfg hmix hf d.ok hev hA (by simpa using hlen) hHL
  refine ⟨d.enc x, hk, h1, fun ρ w hWI hm => ?_⟩
  have := h2 (fun i => if i = 0 then ρ l else ρ l') w hWI fun m b hb => by
    rw [lk_two] at hb
    split at hb
    · rename_i e; subst e
      cases hb
      obtain ⟨fr, hg, _⟩ := hm (.s l 0 n c) (by simp) l (by simp [lab]) bk hl
      exact ⟨fr, hg⟩
    · split at hb
      · rename_i e; subst e
        cases hb
        obtain ⟨fr, hg, _⟩ := hm (.s l' 0 n' c') (by simp) l' (by simp [lab]) bk' hl'
        exact ⟨fr, hg⟩
      · cases hb
  have e : (vs.map AV.v ++ [AV.s 0 0 n c, AV.s 1 0 n' c']).map (conc fun i => if i = 0 then ρ l else ρ l') = (vs.map AV.v ++ [AV.s l 0 n c, AV.s l' 0 n' c']).map (conc ρ) := by
    simp [conc, Function.comp_def]
  rw [e] at this
  exact this

def CT.ofS0 { σ τ : Type}  (md : MD σ) (ty : TypeId) (dr : D τ) (g : Nat → Nat → σ → Option τ) : CT := fun R args mem k => match args with
  | [.s l 0 n c] => match mem l with | some bk => bif Nat.beq bk.ty ty then (match md.dec bk.b with | some s => (g n c s).bind fun r => k (dr.enc r) | none => none) else none | none => none
  | _ => none
theorem CTok.ofS0 {f : FuncId} {fn : Func} { σ τ : Type}  {md : MD σ} {ty : TypeId} {dr : D τ} {g : Nat → Nat → σ → Option τ} (henter : ∀ args w, (callFunc f args).run P w = .ok (.enter f args) w) (hmix : P.follows .mixedOrders = true) (hf : P.funcs[f]? = some fn) (hn : 1 ≤ fn.ntmps)
    (h : ∀ n c s r, g n c s = some r → ∃ (cfg : Cfg) (N : Nat), CfgOk P cfg ∧ (∀ body, fn.body = some body → ∀ b ∈ loopsOf body, ∀ lc, lkL (firstReg b) cfg.lp = some lc → LCOk cfg N b lc) ∧ evFunc cfg N fn [.s 0 0 n c] [(0, ⟨false, ty, md.enc s⟩)] 1 dr.dec = some r) : CTok P f (CT.ofS0  md ty dr g) := by
  refine CTok.plainS henter hmix hf fun R args mem k r hc hw hM => ?_
  unfold CT.ofS0 at hc
  split at hc
  · rename_i l n c
    split at hc
    rotate_left
    · cases hc
    rename_i bk hbk
    obtain ⟨hty, hc2⟩ := bif_some hc
    clear hc
    simp only [nbeq, decide_eq_true_eq] at hty
    split at hc2
    rotate_left
    · cases hc2
    rename_i s hs
    obtain ⟨x, hg, hk⟩ := Option.bind_eq_some_iff.1 hc2
    obtain ⟨cfg, N, hcfg, hHL, hev⟩ := h n c s x hg
    refine ⟨τ, dr, x, [], l, n, c, bk, cfg, N, hk, rfl, hbk, by simpa using hn, hcfg, hHL, ?_⟩
    rw [hty, md.ok _ _ hs]
    exact hev
  · cases hc
def CT.ofS1 {α σ τ : Type} (da : D α) (md : MD σ) (ty : TypeId) (dr : D τ) (g : α → Nat → Nat → σ → Option τ) : CT := fun R args mem k => match args with
  | [.v va, .s l 0 n c] => match da.dec va with | some a => (match mem l with | some bk => bif Nat.beq bk.ty ty then (match md.dec bk.b with | some s => (g a n c s).bind fun r => k (dr.enc r) | none => none) else none | none => none) | none => none
  | _ => none
theorem CTok.ofS1 {f : FuncId} {fn : Func} {α σ τ : Type} {da : D α} {md : MD σ} {ty : TypeId} {dr : D τ} {g : α → Nat → Nat → σ → Option τ} (henter : ∀ args w, (callFunc f args).run P w = .ok (.enter f args) w) (hmix : P.follows .mixedOrders = true) (hf : P.funcs[f]? = some fn) (hn : 2 ≤ fn.ntmps)
    (h : ∀ a n c s r, g a n c s = some r → ∃ (cfg : Cfg) (N : Nat), CfgOk P cfg ∧ (∀ body, fn.body = some body → ∀ b ∈ loopsOf body, ∀ lc, lkL (firstReg b) cfg.lp = some lc → LCOk cfg N b lc) ∧ evFunc cfg N fn [.v (da.enc a), .s 0 0 n c] [(0, ⟨false, ty, md.enc s⟩)] 1 dr.dec = some r) : CTok P f (CT.ofS1 da md ty dr g) := by
  refine CTok.plainS henter hmix hf fun R args mem k r hc hw hM => ?_
  unfold CT.ofS1 at hc
  split at hc
  · rename_i va l n c
    split at hc
    rotate_left
    · cases hc
    rename_i a ha
    split at hc
    rotate_left
    · cases hc
    rename_i bk hbk
    obtain ⟨hty, hc2⟩ := bif_some hc
    clear hc
    simp only [nbeq, decide_eq_true_eq] at hty
    split at hc2
    rotate_left
    · cases hc2
    rename_i s hs
    obtain ⟨x, hg, hk⟩ := Option.bind_eq_some_iff.1 hc2
    obtain ⟨cfg, N, hcfg, hHL, hev⟩ := h a n c s x hg
    obtain rfl := da.ok _ _ ha
    refine ⟨τ, dr, x, [da.enc a], l, n, c, bk, cfg, N, hk, rfl, hbk, by simpa using hn, hcfg, hHL, ?_⟩
    rw [hty, md.ok _ _ hs]
    exact hev
  · cases hc
def CT.ofS2 {α β σ τ : Type} (da : D α) (db : D β) (md : MD σ) (ty : TypeId) (dr : D τ) (g : α → β → Nat → Nat → σ → Option τ) : CT := fun R args mem k => match args with
  | [.v va, .v vb, .s l 0 n c] => match da.dec va with | some a => (match db.dec vb with | some b => (match mem l with | some bk => bif Nat.beq bk.ty ty then (match md.dec bk.b with | some s => (g a b n c s).bind fun r => k (dr.enc r) | none => none) else none | none => none) | none => none) | none => none
  | _ => none
theorem CTok.ofS2 {f : FuncId} {fn : Func} {α β σ τ : Type} {da : D α} {db : D β} {md : MD σ} {ty : TypeId} {dr : D τ} {g : α → β → Nat → Nat → σ → Option τ} (henter : ∀ args w, (callFunc f args).run P w = .ok (.enter f args) w) (hmix : P.follows .mixedOrders = true) (hf : P.funcs[f]? = some fn) (hn : 3 ≤ fn.ntmps)
    (h : ∀ a b n c s r, g a b n c s = some r → ∃ (cfg : Cfg) (N : Nat), CfgOk P cfg ∧ (∀ body, fn.body = some body → ∀ b ∈ loopsOf body, ∀ lc, lkL (firstReg b) cfg.lp = some lc → LCOk cfg N b lc) ∧ evFunc cfg N fn [.v (da.enc a), .v (db.enc b), .s 0 0 n c] [(0, ⟨false, ty, md.enc s⟩)] 1 dr.dec = some r) : CTok P f (CT.ofS2 da db md ty dr g) := by
  refine CTok.plainS henter hmix hf fun R args mem k r hc hw hM => ?_
  unfold CT.ofS2 at hc
  split at hc
  · rename_i va vb l n c
    split at hc
    rotate_left
    · cases hc
    rename_i a ha
    split at hc
    rotate_left
    · cases hc
    rename_i b hb
    split at hc
    rotate_left
    · cases hc
    rename_i bk hbk
    obtain ⟨hty, hc2⟩ := bif_some hc
    clear hc
    simp only [nbeq, decide_eq_true_eq] at hty
    split at hc2
    rotate_left
    · cases hc2
    rename_i s hs
    obtain ⟨x, hg, hk⟩ := Option.bind_eq_some_iff.1 hc2
    obtain ⟨cfg, N, hcfg, hHL, hev⟩ := h a b n c s x hg
    obtain rfl := da.ok _ _ ha
    obtain rfl := db.ok _ _ hb
    refine ⟨τ, dr, x, [da.enc a, db.enc b], l, n, c, bk, cfg, N, hk, rfl, hbk, by simpa using hn, hcfg, hHL, ?_⟩
    rw [hty, md.ok _ _ hs]
    exact hev
  · cases hc
def CT.ofK1 {α σ τ : Type} (da : D α) (K : Nat) (md : MD σ) (ty : TypeId) (dr : D τ) (g : α → σ → Option τ) : CT := fun R args mem k => match args with
  | [.v va, .s l 0 n c] => match da.dec va with | some a => (match mem l with | some bk => bif Nat.beq bk.ty ty && (Nat.beq n K && Nat.beq c K) then (match md.dec bk.b with | some s => (g a s).bind fun r => k (dr.enc r) | none => none) else none | none => none) | none => none
  | _ => none
theorem CTok.ofK1 {f : FuncId} {fn : Func} {α σ τ : Type} {da : D α} {K : Nat} {md : MD σ} {ty : TypeId} {dr : D τ} {g : α → σ → Option τ} (henter : ∀ args w, (callFunc f args).run P w = .ok (.enter f args) w) (hmix : P.follows .mixedOrders = true) (hf : P.funcs[f]? = some fn) (hn : 2 ≤ fn.ntmps)
    (h : ∀ a s r, g a s = some r → ∃ (cfg : Cfg) (N : Nat), CfgOk P cfg ∧ (∀ body, fn.body = some body → ∀ b ∈ loopsOf body, ∀ lc, lkL (firstReg b) cfg.lp = some lc → LCOk cfg N b lc) ∧ evFunc cfg N fn [.v (da.enc a), .s 0 0 K K] [(0, ⟨false, ty, md.enc s⟩)] 1 dr.dec = some r) : CTok P f (CT.ofK1 da K md ty dr g) := by
  refine CTok.plainS henter hmix hf fun R args mem k r hc hw hM => ?_
  unfold CT.ofK1 at hc
  split at hc
  · rename_i va l n c
    split at hc
    rotate_left
    · cases hc
    rename_i a ha
    split at hc
    rotate_left
    · cases hc
    rename_i bk hbk
    obtain ⟨hty, hc2⟩ := bif_some hc
    clear hc
    simp only [nbeq, Bool.and_eq_true, decide_eq_true_eq] at hty
    obtain ⟨hty, rfl, hcc⟩ := hty
    subst hcc
    split at hc2
    rotate_left
    · cases hc2
    rename_i s hs
    obtain ⟨x, hg, hk⟩ := Option.bind_eq_some_iff.1 hc2
    obtain ⟨cfg, N, hcfg, hHL, hev⟩ := h a s x hg
    obtain rfl := da.ok _ _ ha
    refine ⟨τ, dr, x, [da.enc a], l, c, c, bk, cfg, N, hk, rfl, hbk, by simpa using hn, hcfg, hHL, ?_⟩
    rw [hty, md.ok _ _ hs]
    exact hev
  · cases hc
def CT.ofK2 {α β σ τ : Type} (da : D α) (db : D β) (K : Nat) (md : MD σ) (ty : TypeId) (dr : D τ) (g : α → β → σ → Option τ) : CT := fun R args mem k => match args with
  | [.v va, .v vb, .s l 0 n c] => match da.dec va with | some a => (match db.dec vb with | some b => (match mem l with | some bk => bif Nat.beq bk.ty ty && (Nat.beq n K && Nat.beq c K) then (match md.dec bk.b with | some s => (g a b s).bind fun r => k (dr.enc r) | none => none) else none | none => none) | none => none) | none => none
  | _ => none
theorem CTok.ofK2 {f : FuncId} {fn : Func} {α β σ τ : Type} {da : D α} {db : D β} {K : Nat} {md : MD σ} {ty : TypeId} {dr : D τ} {g : α → β → σ → Option τ} (henter : ∀ args w, (callFunc f args).run P w = .ok (.enter f args) w) (hmix : P.follows .mixedOrders = true) (hf : P.funcs[f]? = some fn) (hn : 3 ≤ fn.ntmps)
    (h : ∀ a b s r, g a b s = some r → ∃ (cfg : Cfg) (N : Nat), CfgOk P cfg ∧ (∀ body, fn.body = some body → ∀ b ∈ loopsOf body, ∀ lc, lkL (firstReg b) cfg.lp = some lc → LCOk cfg N b lc) ∧ evFunc cfg N fn [.v (da.enc a), .v (db.enc b), .s 0 0 K K] [(0, ⟨false, ty, md.enc s⟩)] 1 dr.dec = some r) : CTok P f (CT.ofK2 da db K md ty dr g) := by
  refine CTok.plainS henter hmix hf fun R args mem k r hc hw hM => ?_
  unfold CT.ofK2 at hc
  split at hc
  · rename_i va vb l n c
    split at hc
    rotate_left
    · cases hc
    rename_i a ha
    split at hc
    rotate_left
    · cases hc
    rename_i b hb
    split at hc
    rotate_left
    · cases hc
    rename_i bk hbk
    obtain ⟨hty, hc2⟩ := bif_some hc
    clear hc
    simp only [nbeq, Bool.and_eq_true, decide_eq_true_eq] at hty
    obtain ⟨hty, rfl, hcc⟩ := hty
    subst hcc
    split at hc2
    rotate_left
    · cases hc2
    rename_i s hs
    obtain ⟨x, hg, hk⟩ := Option.bind_eq_some_iff.1 hc2
    obtain ⟨cfg, N, hcfg, hHL, hev⟩ := h a b s x hg
    obtain rfl := da.ok _ _ ha
    obtain rfl := db.ok _ _ hb
    refine ⟨τ, dr, x, [da.enc a, db.enc b], l, c, c, bk, cfg, N, hk, rfl, hbk, by simpa using hn, hcfg, hHL, ?_⟩
    rw [hty, md.ok _ _ hs]
    exact hev
  · cases hc

def CT.ofT2 {α β σ τ : Type} (da : D α) (db : D β) (md : MD σ) (ty : TypeId) (dr : D τ) (g : α → β → Nat → Nat → σ → Nat → Nat → σ → Option τ) : CT := fun R args mem k => match args with
  | [.v va, .v vb, .s l 0 n c, .s l' 0 n' c'] => match da.dec va with | some a => (match db.dec vb with | some b => (match mem l with | some bk => (match mem l' with | some bk' => bif Nat.beq bk.ty ty && Nat.beq bk'.ty ty then (match md.dec bk.b with | some s => (match md.dec bk'.b with | some s' => (g a b n c s n' c' s').bind fun r => k (dr.enc r) | none => none) | none => none) else none | none => none) | none => none) | none => none) | none => none
  | _ => none
theorem CTok.ofT2 {f : FuncId} {fn : Func} {α β σ τ : Type} {da : D α} {db : D β} {md : MD σ} {ty : TypeId} {dr : D τ} {g : α → β → Nat → Nat → σ → Nat → Nat → σ → Option τ} (henter : ∀ args w, (callFunc f args).run P w = .ok (.enter f args) w) (hmix : P.follows .mixedOrders = true) (hf : P.funcs[f]? = some fn) (hn : 4 ≤ fn.ntmps)
    (h : ∀ a b n c s n' c' s' r, g a b n c s n' c' s' = some r → ∃ (cfg : Cfg) (N : Nat), CfgOk P cfg ∧ (∀ body, fn.body = some body → ∀ b ∈ loopsOf body, ∀ lc, lkL (firstReg b) cfg.lp = some lc → LCOk cfg N b lc) ∧ evFunc cfg N fn [.v (da.enc a), .v (db.enc b), .s 0 0 n c, .s 1 0 n' c'] [(0, ⟨false, ty, md.enc s⟩), (1, ⟨false, ty, md.enc s'⟩)] 2 dr.dec = some r) : CTok P f (CT.ofT2 da db md ty dr g) := by
  refine CTok.plainT henter hmix hf fun R args mem k r hc hw hM => ?_
  unfold CT.ofT2 at hc
  split at hc
  · rename_i va vb l n c l' n' c'
    split at hc
    rotate_left
    · cases hc
    rename_i a ha
    split at hc
    rotate_left
    · cases hc
    rename_i b hb
    split at hc
    rotate_left
    · cases hc
    rename_i bk hbk
    split at hc
    rotate_left
    · cases hc
    rename_i bk' hbk'
    obtain ⟨hty, hc⟩ := bif_some hc
    simp only [nbeq, Bool.and_eq_true, decide_eq_true_eq] at hty
    obtain ⟨hty, hty'⟩ := hty
    split at hc
    rotate_left
    · cases hc
    rename_i s hs
    split at hc
    rotate_left
    · cases hc
    rename_i s' hs'
    obtain ⟨x, hg, hk⟩ := Option.bind_eq_some_iff.1 hc
    obtain ⟨cfg, N, hcfg, hHL, hev⟩ := h a b n c s n' c' s' x hg
    obtain rfl := da.ok _ _ ha
    obtain rfl := db.ok _ _ hb
    refine ⟨τ, dr, x, [da.enc a, db.enc b], l, n, c, l', n', c', bk, bk', cfg, N, hk, rfl, hbk, hbk', by simpa using hn, hcfg, hHL, ?_⟩
    rw [hty, hty', md.ok _ _ hs, md.ok _ _ hs']
    exact hev
  · cases hc

end
end Go.Proofs.YtnfbcofieobkkaaDoor.Ev
