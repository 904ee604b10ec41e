/- An evaluator of the model's code on abstract states, and (in the texts behind this one) the proof that what it computes is what a call does. -/
import Derived.WalkKit
namespace Go.Proofs.YtnfbcofieobkkaaGreatDoor.Ev
open Go Go.RowKit
set_option linter.unusedVariables false
set_option linter.unusedSimpArgs false

/-- A value, or a place: a pointer into a labelled block, a slice of one. -/
inductive AV where
  | v (x : Value)
  | p (l off : Nat)
  | s (l off len cap : Nat)

/-- What a block holds. -/
inductive Blk where
  | lit (cs : List Value)
  | ints (k : IntKind) (l : List Int)

def Blk.cells : Blk → List Value
  | .lit cs => cs
  | .ints k l => l.map (Value.int k)

structure Bk where
  own : Bool
  ty : TypeId
  b : Blk

structure St where
  n : Nat
  env : List (Nat × AV)
  mem : List (Nat × Bk)
  nx : Nat
  mv : List (Nat × Nat)

def lk {α : Type} (t : Nat) : List (Nat × α) → Option α
  | [] => none
  | (u, a) :: l => bif Nat.beq t u then some a else lk t l

def pt {α : Type} (t : Nat) (a : α) : List (Nat × α) → List (Nat × α)
  | [] => [(t, a)]
  | (u, b) :: l => bif Nat.beq t u then (t, a) :: l else (u, b) :: pt t a l

inductive TK where
  | int (k : IntKind)
  | bool
  | str
  | slice (e : TypeId)
  | arr (n : Nat) (e : TypeId)
  | struct (fs : List (Nat × TypeId))
  | fn
  | other

structure TI where
  k : TK
  size : Nat
  bytes : Nat
  zero : List Value

def TI.agg (i : TI) : Bool := match i.k with | .arr .. => true | .struct .. => true | _ => false

/-- What a call comes to: handed the arguments, the memory and what goes on with the result. -/
def CT : Type 1 := (R : Type) → List AV → (Nat → Option Bk) → (Value → Option R) → Option R

inductive CK where
  | i (k : IntKind)
  | b
  | s

inductive Ex where
  | normal
  | exit (id : Nat)
  | ret

/-- What a loop comes to. -/
def LC : Type 1 := (R : Type) → St → (Ex → St → Option R) → Option R

structure Cfg where
  T : List (Nat × TI)
  EQ : List (Nat × List CK)
  C : List (FuncId × CT)
  lp : List (Nat × LC)
  un : List (Nat × Nat)
  ks : List (Nat × List Nat)
  keep : List Nat

def lkC (t : Nat) : List (Nat × CT) → Option CT
  | [] => none
  | (u, a) :: l => bif Nat.beq t u then some a else lkC t l

def lkL (t : Nat) : List (Nat × LC) → Option LC
  | [] => none
  | (u, a) :: l => bif Nat.beq t u then some a else lkL t l

inductive Eff where
  | val (ls : List Nat) (a : AV)
  | wr (l : Nat) (b : Blk)
  | nw (T : TypeId) (b : Blk) (sl : Bool) (len : Nat)

def setL (j : Nat) (i : Nat) (v : Int) : List Int → List Int
  | [] => []
  | x :: xs => (bif Nat.beq i j then v else x) :: setL (j + 1) i v xs

def getI : Nat → List Int → Int
  | _, [] => 0
  | i, x :: xs => match i with | 0 => x | j + 1 => getI j xs

def getV {R : Type} (i : Nat) (k : Value → Option R) : List Value → Option R
  | [] => none
  | x :: xs => match i with | 0 => k x | j + 1 => getV j k xs

def oneB : Value → Bool
  | .agg _ => false
  | .tuple _ => false
  | _ => true

def toInts (kk : IntKind) : List Value → Option (List Int)
  | [] => some []
  | .int k x :: r => match decide (k = kk), toInts kk r with | true, some l => some (x :: l) | _, _ => none
  | _ :: _ => none

def ovw (off : Nat) (vs cs : List Value) : List Value := cs.take off ++ (vs ++ cs.drop (off + vs.length))

def ovwI (off : Nat) : List Int → List Int → List Int
  | [], l => l
  | x :: xs, l => ovwI (off + 1) xs (setL 0 off x l)

def rng : Nat → Nat → List Nat
  | _, 0 => []
  | i, n + 1 => i :: rng (i + 1) n

def Blk.get {R : Type} (b : Blk) (ti : TI) (off : Nat) (k : Value → Option R) : Option R :=
  match b with
  | .lit cs => bif ti.agg then (bif Nat.ble (off + ti.size) cs.length then k (.agg ⟨(cs.drop off).take ti.size⟩) else none) else getV off k cs
  | .ints kk l => bif ti.agg then (bif Nat.ble (off + ti.size) l.length then k (.agg ⟨(rng off ti.size).map fun j => .int kk (getI j l)⟩) else none)
      else (bif Nat.blt off l.length then k (.int kk (getI off l)) else none)

def Blk.put {R : Type} (b : Blk) (off : Nat) (vs : List Value) (k : Blk → Option R) : Option R :=
  match b with
  | .lit cs => bif Nat.ble (off + vs.length) cs.length && vs.all oneB then k (.lit (ovw off vs cs)) else none
  | .ints kk l => match toInts kk vs with
    | none => none
    | some xs => bif Nat.ble (off + xs.length) l.length then (bif Nat.ble 2 xs.length && (Nat.beq off 0 && Nat.beq xs.length l.length) then k (.ints kk xs) else k (.ints kk (ovwI off xs l))) else none

/-- A new block of cells: ints where all are of one kind. -/
def Blk.of (cs : List Value) : Blk :=
  match cs with
  | .int k _ :: _ :: _ => match toInts k cs with | some l => .ints k l | none => .lit cs
  | _ => .lit cs

def cellsV : Value → List Value
  | .agg cs => cs.toList
  | v => [v]

def shlI (k : IntKind) (x y : Int) : Int := k.wrap (x * 2 ^ min y.toNat k.bits)
def shrI (k : IntKind) (x y : Int) : Int := x.fdiv (2 ^ min y.toNat k.bits)
def andI (k : IntKind) (x y : Int) : Int := k.wrap (BitVec.ofInt k.bits x &&& BitVec.ofInt k.bits y).toNat
def orI (k : IntKind) (x y : Int) : Int := k.wrap (BitVec.ofInt k.bits x ||| BitVec.ofInt k.bits y).toNat
def xorI (k : IntKind) (x y : Int) : Int := k.wrap (BitVec.ofInt k.bits x ^^^ BitVec.ofInt k.bits y).toNat
def strEq (a b : ByteArray) : Bool := a.toList == b.toList
def strLt (a b : ByteArray) : Bool := Op.bytesLess a.toList b.toList

def eqCells : List CK → List Value → List Value → Option Bool
  | [], [], [] => some true
  | .i kk :: ks, .int k x :: r, .int k' y :: s => match decide (k = kk) && decide (k' = kk), eqCells ks r s with
    | true, some b => some ((x == y) && b)
    | _, _ => none
  | .b :: ks, .bool x :: r, .bool y :: s => match eqCells ks r s with
    | some b => some ((x == y) && b)
    | _ => none
  | .s :: ks, .string x :: r, .string y :: s => match eqCells ks r s with
    | some b => some (strEq x y && b)
    | _ => none
  | _, _, _ => none

def evBin {R : Type} (cfg : Cfg) (op : BinOp) (T : TypeId) (a b : Value) (k : Value → Option R) : Option R :=
  match a, b with
  | .int kx x, .int ky y =>
    match op with
    | .shl => bif ky.signed && decide (y < 0) then none else k (.int kx (shlI kx x y))
    | .shr => bif ky.signed && decide (y < 0) then none else k (.int kx (shrI kx x y))
    | .add => bif decide (kx = ky) then k (.int kx (kx.wrap (x + y))) else none
    | .sub => bif decide (kx = ky) then k (.int kx (kx.wrap (x - y))) else none
    | .mul => bif decide (kx = ky) then k (.int kx (kx.wrap (x * y))) else none
    | .quo => bif decide (kx = ky) then (bif decide (y = 0) then none else k (.int kx (kx.wrap (x.tdiv y)))) else none
    | .rem => bif decide (kx = ky) then (bif decide (y = 0) then none else k (.int kx (x.tmod y))) else none
    | .and => bif decide (kx = ky) then k (.int kx (andI kx x y)) else none
    | .or => bif decide (kx = ky) then k (.int kx (orI kx x y)) else none
    | .xor => bif decide (kx = ky) then k (.int kx (xorI kx x y)) else none
    | .eql => bif decide (kx = ky) then k (.bool (x == y)) else none
    | .neq => bif decide (kx = ky) then k (.bool (!(x == y))) else none
    | .lss => bif decide (kx = ky) then k (.bool (decide (x < y))) else none
    | .leq => bif decide (kx = ky) then k (.bool (decide (x ≤ y))) else none
    | .gtr => bif decide (kx = ky) then k (.bool (decide (y < x))) else none
    | .geq => bif decide (kx = ky) then k (.bool (decide (y ≤ x))) else none
    | _ => none
  | .string x, .string y =>
    match op with
    | .eql => k (.bool (strEq x y))
    | .neq => k (.bool (!strEq x y))
    | .lss => k (.bool (strLt x y))
    | .leq => k (.bool (strLt x y || strEq x y))
    | .gtr => k (.bool (!(strLt x y || strEq x y)))
    | .geq => k (.bool (!strLt x y))
    | _ => none
  | .bool x, .bool y =>
    match lk T cfg.T, op with
    | some { k := .bool, .. }, .eql => k (.bool (x == y))
    | some { k := .bool, .. }, .neq => k (.bool (!(x == y)))
    | _, _ => none
  | .agg xs, .agg ys =>
    match lk T cfg.EQ with
    | some ks => match eqCells ks xs.toList ys.toList, op with
      | some b, .eql => k (.bool b)
      | some b, .neq => k (.bool (!b))
      | _, _ => none
    | none => none
  | _, _ => none

def wfB : Value → Bool
  | .int k n => decide (k.min ≤ n) && decide (n ≤ k.max)
  | .bool _ => true
  | .string s => Nat.ble s.size 9223372036854775807
  | .slice none n _ => Nat.ble n 9223372036854775807
  | .func _ _ _ => true
  | .nilFunc => true
  | _ => false

def getO {R : Type} (get : Nat → Option AV) (x : Operand) (k : AV → Option R) : Option R :=
  match x with
  | .tmp t => match get t with | some a => k a | none => none
  | .const c => bif wfB c then k (.v c) else none
  | .func f => k (.v (.func (.func f) #[] #[]))
  | .global _ => none

def getOs {R : Type} (get : Nat → Option AV) (k : List AV → Option R) : List Operand → Option R
  | [] => k []
  | x :: xs => getO get x fun a => getOs get (fun l => k (a :: l)) xs

def lab : AV → List Nat
  | .v _ => []
  | .p l _ => [l]
  | .s l _ _ _ => [l]

def maxI (x y : Int) : Int := if y > x then y else x
def minI (x y : Int) : Int := if y < x then y else x

/-- The parts of a composite laid over its zero. -/
def parts (place : Nat → Option (Nat × Nat)) : List (Nat × AV) → List Value → Option (List Value)
  | [], cs => some cs
  | (i, .v x) :: r, cs =>
    match place i with
    | some (off, size) => bif Nat.beq (cellsV x).length size && Nat.ble (off + size) cs.length && (cellsV x).all oneB then parts place r (ovw off (cellsV x) cs) else none
    | none => none
  | _ :: _, _ => none

def nthL {α : Type} (i : Nat) : List α → Option α
  | [] => none
  | x :: xs => match i with | 0 => some x | j + 1 => nthL j xs

def sizeT (cfg : Cfg) (t : TypeId) : Option Nat := match lk t cfg.T with | some i => some i.size | none => none

def partV {R : Type} (ti : TI) (cs : List Value) (off : Nat) (k : Value → Option R) : Option R :=
  bif ti.agg then k (.agg ⟨(cs.drop off).take ti.size⟩) else getV off k cs

def chainV {R : Type} (f : Nat → Option R) (j : Nat) : Nat → Nat → Option R
  | _, 0 => none
  | e, n + 1 => bif Nat.beq j e then f e else chainV f j (e + 1) n

/-- An element of an array's value. -/
def pickV {R : Type} (ti : TI) (cs : List Value) (j n : Nat) (k : Value → Option R) : Option R :=
  match ti.k with
  | .int kk => (match toInts kk cs with
    | some l => bif Nat.blt j l.length && Nat.beq ti.size 1 then k (.int kk (getI j l)) else none
    | none => none)
  | _ => chainV (fun e => partV ti cs (e * ti.size) k) j 0 n

/-- A slice of bytes as a string. -/
def strOf (off n : Nat) (xs : List Int) : ByteArray := ⟨(((xs.drop off).take n).map fun x => UInt8.ofNat x.toNat).toArray⟩

def optI {R : Type} (get : Nat → Option AV) (x : Option Operand) (d : Int) (k : Int → Option R) : Option R :=
  match x with
  | none => k d
  | some y => getO get y fun
    | .v (.int _ n) => k n
    | _ => none

/-- A place's offset. -/
def offs (o j s : Nat) : Nat := bif Nat.beq o 0 && Nat.beq s 1 then j else o + j * s

def evOp {R : Type} (cfg : Cfg) (get : Nat → Option AV) (mem : Nat → Option Bk) (o : Oper) (k : Eff → Option R) : Option R :=
  match o.op with
  | .move x => getO get x fun a => k (.val [] a)
  | .assign x => getO get x fun a => k (.val [] a)
  | .pick c a b => getO get c fun
    | .v (.bool t) => bif t then getO get a fun x => k (.val [] x) else getO get b fun x => k (.val [] x)
    | _ => none
  | .alloc T => match lk T cfg.T with
    | some ti => k (.nw T (.of ti.zero) false 0)
    | none => none
  | .box T x => getO get x fun
    | .v y => bif (cellsV y).all oneB then k (.nw T (.of (cellsV y)) false 0) else none
    | _ => none
  | .build T ps => match lk T cfg.T with
    | some { k := .struct fs, zero, .. } => getOs get (fun l =>
        match parts (fun i => match nthL i fs with | some (off, t) => (match sizeT cfg t with | some s => some (off, s) | none => none) | none => none) ((ps.toList.map (·.1)).zip l) zero with
        | some cs => k (.val [] (.v (.agg ⟨cs⟩)))
        | none => none) (ps.toList.map (·.2))
    | some { k := .arr _ e, zero, .. } => match sizeT cfg e with
      | some s => getOs get (fun l =>
          match parts (fun i => some (i * s, s)) ((ps.toList.map (·.1)).zip l) zero with
          | some cs => k (.val [] (.v (.agg ⟨cs⟩)))
          | none => none) (ps.toList.map (·.2))
      | none => none
    | _ => none
  | .load T x => match lk T cfg.T with
    | some ti => getO get x fun
      | .p l off => match mem l with
        | some bk => bk.b.get ti off fun y => k (.val [l] (.v y))
        | none => none
      | _ => none
    | none => none
  | .store T a x => match lk T cfg.T with
    | some ti => getO get a fun
      | .p l off => getO get x fun
        | .v y => match mem l with
          | some bk => bif bk.own && Nat.beq (cellsV y).length ti.size then bk.b.put off (cellsV y) fun b => k (.wr l b) else none
          | none => none
        | _ => none
      | _ => none
    | none => none
  | .nilCheck x => getO get x fun
    | .p l off => k (.val [] (.p l off))
    | _ => none
  | .binOp op T x y _ => getO get x fun
    | .v a => getO get y fun
      | .v b => evBin cfg op T a b fun c => k (.val [] (.v c))
      | _ => none
    | _ => none
  | .unOp op _ x => getO get x fun
    | .v (.int kk n) => match op with
      | .neg => k (.val [] (.v (.int kk (kk.wrap (0 - n)))))
      | .xor => k (.val [] (.v (.int kk (xorI kk (if kk.signed then -1 else kk.max) n))))
      | _ => none
    | .v (.bool b) => match op with
      | .not => k (.val [] (.v (.bool (!b))))
      | _ => none
    | _ => none
  | .convert src dst x => match lk src cfg.T with
    | some si => match lk dst cfg.T with
      | some ti => getO get x fun
        | .v (.int _ n) => match ti.k with
          | .int kk => k (.val [] (.v (.int kk (kk.wrap n))))
          | _ => none
        | .v (.string s) => match ti.k with
          | .str => k (.val [] (.v (.string s)))
          | _ => none
        | .s l off n _ => match ti.k, si.k, mem l with
          | .str, .slice e, some { b := .ints .u8 xs, .. } => match lk e cfg.T with
            | some { k := .int .u8, .. } => bif Nat.ble (off + n) xs.length then k (.val [l] (.v (.string (strOf off n xs)))) else none
            | _ => none
          | _, _, _ => none
        | _ => none
      | none => none
    | none => none
  | .fieldAddr T x f => match lk T cfg.T with
    | some { k := .struct fs, .. } => match nthL f fs with
      | some (off, t) => match sizeT cfg t with
        | some (_ + 1) => getO get x fun
          | .p l o => k (.val [] (.p l (o + off)))
          | _ => none
        | _ => none
      | none => none
    | _ => none
  | .field T x f => match lk T cfg.T with
    | some { k := .struct fs, .. } => match nthL f fs with
      | some (off, t) => match lk t cfg.T with
        | some ti => getO get x fun
          | .v (.agg cs) => partV ti cs.toList off fun y => k (.val [] (.v y))
          | _ => none
        | none => none
      | none => none
    | _ => none
  | .indexAddr T x i => match lk T cfg.T with
    | some { k := .arr n e, .. } => match sizeT cfg e with
      | some s => getO get x fun
        | .p l o => getO get i fun
          | .v (.int _ j) => bif decide (0 ≤ j) && decide (j < (n : Int)) then k (.val [] (.p l (offs o j.toNat s))) else none
          | _ => none
        | _ => none
      | none => none
    | some { k := .slice e, .. } => match sizeT cfg e with
      | some s => getO get x fun
        | .s l o n _ => getO get i fun
          | .v (.int _ j) => bif decide (0 ≤ j) && decide (j < (n : Int)) then k (.val [] (.p l (offs o j.toNat s))) else none
          | _ => none
        | _ => none
      | none => none
    | _ => none
  | .index T x i => match lk T cfg.T with
    | some { k := .str, .. } => getO get x fun
      | .v (.string s) => getO get i fun
        | .v (.int _ j) => bif decide (0 ≤ j) && decide (j < (s.size : Int)) then k (.val [] (.v (.int .u8 ((s.toList.getD j.toNat 0).toNat)))) else none
        | _ => none
      | _ => none
    | some { k := .arr n e, .. } => match lk e cfg.T with
      | some ti => getO get x fun
        | .v (.agg cs) => getO get i fun
          | .v (.int _ j) => bif decide (0 ≤ j) && decide (j < (n : Int)) then pickV ti cs.toList j.toNat n fun y => k (.val [] (.v y)) else none
          | _ => none
        | _ => none
      | none => none
    | _ => none
  | .makeSlice T len cap => match lk T cfg.T with
    | some { k := .slice e, .. } => match lk e cfg.T with
      | some { k := .int kk, size := 1, bytes, zero := [.int kz 0] } => bif !decide (kz = kk) then none else getO get len fun
        | .v (.int _ n) => getO get cap fun
          | .v (.int _ c) => bif decide (n = c) && decide (0 ≤ n) && decide (bytes * n ≤ 281474976710656) && decide (n ≤ 9223372036854775807) then k (.nw e (.ints kk (List.replicate n.toNat 0)) true n.toNat) else none
          | _ => none
        | _ => none
      | _ => none
    | _ => none
  | .buildSlice T len ps => match lk T cfg.T with
    | some { k := .slice e, .. } => match lk e cfg.T with
      | some ti => getOs get (fun l =>
          match parts (fun i => some (i * ti.size, ti.size)) ((ps.toList.map (·.1)).zip l) ((rng 0 (len * ti.size)).map fun i => ti.zero.getD (i % ti.size) undef) with
          | some cs => bif Nat.ble (len * ti.size) 1000 && Nat.ble len 9223372036854775807 && Nat.blt 0 (len * ti.size) then k (.nw e (.of cs) true len) else none
          | none => none) (ps.toList.map (·.2))
      | none => none
    | _ => none
  | .extract x i => getO get x fun
    | .v (.tuple vs) => getV i (fun y => k (.val [] (.v y))) vs.toList
    | _ => none
  | .call c => match c.callee with
    | .value f => getO get f fun
      | .v (.func (.func g) first cap) => match first.toList, cap.toList, lkC g cfg.C with
        | [], [], some ct => getOs get (fun args => ct R args mem fun y => k (.val (args.flatMap lab) (.v y))) c.args.toList
        | _, _, _ => none
      | _ => none
    | .builtin b => match b with
      | .len => match c.argTypes.toList, c.args.toList with
        | t :: _, x :: _ => match lk t cfg.T with
          | some { k := .str, .. } => getO get x fun
            | .v (.string s) => k (.val [] (.v (.int .i64 s.size)))
            | _ => none
          | some { k := .slice _, .. } => getO get x fun
            | .s _ _ n _ => k (.val [] (.v (.int .i64 n)))
            | .v (.slice none n _) => k (.val [] (.v (.int .i64 n)))
            | _ => none
          | some { k := .arr n _, .. } => getO get x fun _ => bif Nat.ble n 9223372036854775807 then k (.val [] (.v (.int .i64 n))) else none
          | _ => none
        | _, _ => none
      | .max => match c.args.toList with
        | [x, y] => getO get x fun
          | .v (.int kx a) => getO get y fun
            | .v (.int ky b) => bif decide (kx = ky) then k (.val [] (.v (.int kx (maxI a b)))) else none
            | _ => none
          | _ => none
        | _ => none
      | .min => match c.args.toList with
        | [x, y] => getO get x fun
          | .v (.int kx a) => getO get y fun
            | .v (.int ky b) => bif decide (kx = ky) then k (.val [] (.v (.int kx (minI a b)))) else none
            | _ => none
          | _ => none
        | _ => none
      | _ => none
    | _ => none
  | _ => none

def setBk (l : Nat) (b : Blk) : List (Nat × Bk) → List (Nat × Bk)
  | [] => []
  | (m, bk) :: r => bif Nat.beq l m then (m, { bk with b := b }) :: r else (m, bk) :: setBk l b r

def keepMv (d : Nat) (l : List (Nat × Nat)) : List (Nat × Nat) := l.filter fun (a, b) => !(Nat.beq a d) && !(Nat.beq b d)

/-- A slot is written. -/
def St.put (st : St) (dst : Option Nat) (a : AV) : Option St :=
  match dst with
  | none => some st
  | some d => bif Nat.blt d st.n then some { st with env := pt d a st.env, mv := keepMv d st.mv } else none

def St.app {R : Type} (st : St) (dst : Option Nat) (e : Eff) (k : St → Option R) : Option R :=
  match e with
  | .val _ a => match st.put dst a with | some s => k { s with nx := s.nx + 1 } | none => none
  | .wr l b => match ({ st with mem := setBk l b st.mem } : St).put dst (.v undef) with | some s => k { s with nx := s.nx + 1 } | none => none
  | .nw T b sl n => match ({ st with mem := (st.nx, ⟨true, T, b⟩) :: st.mem } : St).put dst (bif sl then .s st.nx 0 n n else .p st.nx 0) with
    | some s => k { s with nx := s.nx + 1 }
    | none => none

/-- A move within a region is kept in mind. -/
def St.note (st : St) (o : Oper) : St :=
  match o.dst, o.op with
  | some d, .move (.tmp s) => bif Nat.beq d s then st else { st with mv := (d, s) :: st.mv }
  | _, _ => st

/-- Slot g holds the bool b, and all that were moved from it. -/
def setB (g : Nat) (b : Bool) : List (Nat × Nat) → List (Nat × AV) → List (Nat × AV)
  | [], env => pt g (.v (.bool b)) env
  | (d, s) :: r, env => bif Nat.beq s g then setB g b r (pt d (.v (.bool b)) env) else setB g b r env

structure Log where
  i : Nat
  rd : List Nat
  dst : Option Nat
  ls : List Nat
  wr : Option Nat

def natK {R : Type} (n : Nat) (k : Nat → R) : R := match n with
  | 0 => k 0
  | m + 1 => k (m + 1)

def boolK {R : Type} (b : Bool) (k : Bool → R) : R := match b with
  | true => k true
  | false => k false

def envK {R : Type} : List (Nat × AV) → (List (Nat × AV) → R) → R
  | [], k => k []
  | (u, a) :: l, k => natK u fun u => envK l fun r => k ((u, a) :: r)

def memK {R : Type} : List (Nat × Bk) → (List (Nat × Bk) → R) → R
  | [], k => k []
  | (u, ⟨o, t, b⟩) :: l, k => natK u fun u => boolK o fun o => natK t fun t => memK l fun r => k ((u, ⟨o, t, b⟩) :: r)

def mvK {R : Type} : List (Nat × Nat) → (List (Nat × Nat) → R) → R
  | [], k => k []
  | (u, a) :: l, k => natK u fun u => natK a fun a => mvK l fun r => k ((u, a) :: r)

/-- The state, spelt out. -/
def St.norm {R : Type} (st : St) (k : St → R) : R := match st with
  | ⟨n, env, mem, nx, mv⟩ => natK n fun n => envK env fun env => memK mem fun mem => natK nx fun nx => mvK mv fun mv => k ⟨n, env, mem, nx, mv⟩

theorem natK_eq {R : Type} (n : Nat) (k : Nat → R) : natK n k = k n := by cases n <;> rfl
theorem boolK_eq {R : Type} (n : Bool) (k : Bool → R) : boolK n k = k n := by cases n <;> rfl
theorem envK_eq {R : Type} : ∀ (l : List (Nat × AV)) (k : List (Nat × AV) → R), envK l k = k l
  | [], _ => rfl
  | (u, a) :: l, k => by rw [envK, natK_eq, envK_eq l]
theorem memK_eq {R : Type} : ∀ (l : List (Nat × Bk)) (k : List (Nat × Bk) → R), memK l k = k l
  | [], _ => rfl
  | (u, ⟨o, t, b⟩) :: l, k => by rw [memK, natK_eq, boolK_eq, natK_eq, memK_eq l]
theorem mvK_eq {R : Type} : ∀ (l : List (Nat × Nat)) (k : List (Nat × Nat) → R), mvK l k = k l
  | [], _ => rfl
  | (u, a) :: l, k => by rw [mvK, natK_eq, natK_eq, mvK_eq l]
theorem norm_eq {R : Type} (st : St) (k : St → R) : st.norm k = k st := by
  obtain ⟨n, env, mem, nx, mv⟩ := st
  rw [St.norm, natK_eq, envK_eq, memK_eq, natK_eq, mvK_eq]

def evOps {R : Type} (cfg : Cfg) (ops : List Oper) (log : List (Option Eff)) (k : List (Option Eff) → St → Option R) : List Oper → St → Option R
  | [], st => k log st
  | o :: rest, st =>
    let go (st : St) : Option R := evOp cfg (fun t => lk t st.env) (fun l => lk l st.mem) o fun e => st.app o.dst e fun st' => (st'.note o).norm fun st' => evOps cfg ops (log ++ [some e]) k rest st'
    let skip (st : St) : Option R := match st.put o.dst (.v undef) with | some s => ({ s with nx := s.nx + 1 } : St).norm fun s => evOps cfg ops (log ++ [none]) k rest s | none => none
    match o.guard with
    | none => go st
    | some (j, want) => match (nthL j ops).bind (·.dst) with
      | some g => match lk g st.env with
        | some (.v (.bool b)) =>
          bif b then (let s : St := { st with env := setB g true st.mv st.env }; bif want then go s else skip s)
          else (let s : St := { st with env := setB g false st.mv st.env }; bif want then skip s else go s)
        | some (.v (.tuple _)) => skip st
        | _ => none
      | none => none

def firstReg : Code → Nat
  | .region id _ _ => id
  | .seq a _ => firstReg a
  | .cond _ a _ => firstReg a
  | .block _ b => firstReg b
  | .loop b => firstReg b
  | .scope b => firstReg b
  | _ => 0

def St.trim (st : St) (keep : List Nat) : St := { st with env := st.env.filter fun p => keep.contains p.1, mv := [] }

/-- The slots that an operation looks at. -/
def opReads (ops : List Oper) (o : Oper) : List Nat :=
  (o.op.operands.toList.filterMap fun | .tmp t => some t | _ => none) ++
  (match o.guard with | some (g, _) => (match (nthL g ops).bind (·.dst) with | some d => [d] | none => []) | none => [])

def Eff.acc : Option Eff → List Nat
  | some (.val ls _) => ls
  | some (.wr l _) => [l]
  | _ => []

def Eff.wrs : Option Eff → List Nat
  | some (.wr l _) => [l]
  | _ => []

def meet (a b : List Nat) : Bool := a.any fun x => b.any fun y => Nat.beq x y

def dstL (o : Oper) : List Nat := match o.dst with | some d => [d] | none => []

/-- Two operations of which neither may run ahead of the other one. -/
def conf (ops : List Oper) (oi : Oper) (ei : Option Eff) (oj : Oper) (ej : Option Eff) : Bool :=
  meet (dstL oi) (opReads ops oj) || meet (dstL oi) (dstL oj) || meet (dstL oj) (opReads ops oi) ||
  meet (Eff.wrs ei) (Eff.acc ej) || meet (Eff.wrs ej) (Eff.acc ei)

def ordered (i : Nat) (oj : Oper) : Bool := oj.after.toList.any fun e => Nat.beq e.on i && Region.binds .any e

/-- Every later operation that may not run ahead of this one says so. -/
def okFrom (ops : List Oper) (i : Nat) (oi : Oper) (ei : Option Eff) : List (Oper × Option Eff) → Bool
  | [] => true
  | (oj, ej) :: r => (!conf ops oi ei oj ej || ordered i oj) && okFrom ops i oi ei r

def okAll (ops : List Oper) : Nat → List (Oper × Option Eff) → Bool
  | _, [] => true
  | i, (o, e) :: r => (o.after.toList.all fun d => !Region.binds .any d || Nat.blt d.on i) && okFrom ops (i) o e r && okAll ops (i + 1) r

def evRegion {R : Type} (cfg : Cfg) (ops : List Oper) (draw : Bool) (st : St) (k : St → Option R) : Option R :=
  evOps cfg ops [] (fun log st' => bif !draw || okAll ops 0 (ops.zip log) then (st'.trim cfg.keep).norm k else none) ops { st with mv := [] }

def St.head (st : St) (keys : List Nat) (nx : Nat) : St :=
  { n := st.n, env := st.env.filter fun p => keys.contains p.1, mem := st.mem.filter fun p => Nat.blt p.1 nx && st.env.any fun q => keys.contains q.1 && (lab q.2).any (Nat.beq p.1), nx := nx, mv := [] }

def St.below (st : St) (nx : Nat) : Bool := st.env.all fun p => (lab p.2).all fun l => Nat.blt l nx

/-- One round of a loop. -/
def stepL {R : Type} (f : St → (Ex → St → Option R) → Option R) (keys : List Nat) (nx : Nat) (self : St → Option R) (k : Ex → St → Option R) (st : St) : Option R :=
  f st fun e st' => bif (st'.head keys nx).below nx then (st'.head keys nx).norm fun st' => (match e with
    | .normal => self st'
    | e => k e st') else none

def loopN {R : Type} (f : St → (Ex → St → Option R) → Option R) (keys : List Nat) (nx : Nat) : Nat → St → (Ex → St → Option R) → Option R
  | 0, _, _ => none
  | n + 1, st, k => stepL f keys nx (fun s => loopN f keys nx n s k) k st

def loopsOf : Code → List Code
  | .seq a b => loopsOf a ++ loopsOf b
  | .cond _ a b => loopsOf a ++ loopsOf b
  | .block _ b => loopsOf b
  | .loop b => b :: loopsOf b
  | .scope b => loopsOf b
  | _ => []

def evCode {R : Type} (cfg : Cfg) (N : Nat) : Code → St → (Ex → St → Option R) → Option R
  | .skip, st, k => k .normal st
  | .region _ ops draw, st, k => evRegion cfg ops.toList draw st fun s => k .normal s
  | .seq a b, st, k => evCode cfg N a st fun e s => match e with
    | .normal => evCode cfg N b s k
    | e => k e s
  | .cond c a b, st, k => getO (fun t => lk t st.env) c fun
    | .v (.bool t) => bif t then evCode cfg N a st k else evCode cfg N b st k
    | _ => none
  | .block id b, st, k => evCode cfg N b st fun e s => match e with
    | .exit i => bif Nat.beq i id then k .normal s else k (.exit i) s
    | e => k e s
  | .loop b, st, k =>
    let keys := match lk (firstReg b) cfg.ks with | some l => l | none => st.env.map (·.1)
    bif (st.head keys st.nx).below st.nx then (st.head keys st.nx).norm fun st => (match lkL (firstReg b) cfg.lp with
      | some lc => lc R st k
      | none => match lk (firstReg b) cfg.un with
        | some m => loopN (evCode cfg N b) (st.env.map (·.1)) st.nx m st k
        | none => loopN (evCode cfg N b) (st.env.map (·.1)) st.nx N st k) else none
  | .scope b, st, k => evCode cfg N b st k
  | .label _, st, k => k .normal st
  | .exit id, st, k => k (.exit id) st
  | .ret, st, k => k .ret st
  | _, _, _ => none

def notTup : Value → Bool
  | .tuple _ => false
  | _ => true

def evRes {R : Type} (cfg : Cfg) (st : St) (k : List Value → Option R) : List ResultVar → Option R
  | [] => k []
  | .tmp t :: r => match lk t st.env with
    | some (.v x) => bif notTup x then evRes cfg st (fun l => k (x :: l)) r else none
    | _ => none
  | .cell a T :: r => match lk T cfg.T, lk a st.env with
    | some ti, some (.p l off) => match lk l st.mem with
      | some bk => bk.b.get ti off fun x => evRes cfg st (fun l => k (x :: l)) r
      | none => none
    | _, _ => none

def single : List Value → Value
  | [x] => x
  | l => .tuple ⟨l⟩

def args0 : Nat → List AV → List (Nat × AV)
  | _, [] => []
  | i, a :: l => (i, a) :: args0 (i + 1) l

/-- A function's body from its arguments to its result. -/
def evFunc {R : Type} (cfg : Cfg) (N : Nat) (fn : Func) (args : List AV) (mem : List (Nat × Bk)) (nx : Nat) (k : Value → Option R) : Option R :=
  match fn.body with
  | none => none
  | some body => evCode cfg N body { n := fn.ntmps, env := args0 0 args, mem := mem, nx := nx, mv := [] } fun e st => match e with
    | .exit _ => none
    | _ => evRes cfg st (fun l => k (single l)) fn.results.toList

end Go.Proofs.YtnfbcofieobkkaaGreatDoor.Ev
