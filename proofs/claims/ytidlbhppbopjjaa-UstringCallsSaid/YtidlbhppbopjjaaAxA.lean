/-
An abstract machine for the model's code: values and memory without addresses, capacities or tape; its programs ('AC') are compiled out of the model's own code, in AxC.
How the abstract machine's values and memory stand to the model's: the relation, and what carries it.
The model's operations compiled for the abstract machine.
-/
import Derived.Calls
import Derived.Below
import Derived.Deep.Quiet
import Derived.Laws.Sem
import Derived.Laws.Entries
import Derived.RangeFuncRecord
import Derived.Laws.StructEq
import Derived.Laws.Cells
import Derived.Laws.Append
import Derived.Laws.BytesArg
import Derived.Laws.MakeOwn
import Derived.Laws.Slices
namespace Go.Ax

/-- An abstract value. `junk`: nothing is known of it. A pointer is a block's number and a cell in it; a slice besides has a length and the cells of an element. `yld i`: what a loop over a function hands to it; block i is the loop's. -/
inductive AV where
  | junk
  | bool (b : Bool)
  | int (k : IntKind) (n : Int)
  | str (l : List UInt8)
  | nilptr
  | ptr (i o : Nat)
  | nilslice
  | slice (i o len es : Nat)
  | func (fn : Fn) (first captured : List AV)
  | nilFunc
  | yld (i : Nat)
  | agg (cells : List AV)
  | tuple (vs : List AV)
  deriving Inhabited

abbrev AV.undef : AV := .tuple []

inductive AExit where
  | normal | exit (id : Nat) | ret
  deriving DecidableEq, Inhabited

/-- How a loop over a function stands: between two rounds; in a round; left by a jump. -/
inductive LSt where
  | ready | busy | done (e : AExit)
  deriving Inhabited

/-- A block of abstract memory: gone; cells that only this machine writes; cells that nobody writes; a string that is gone through; a loop over a function. -/
inductive AObj where
  | dead
  | cells (vs : List AV)
  | ro (vs : List AV)
  | iter (l : List UInt8) (pos : Nat)
  | loop (st : LSt)
  deriving Inhabited

abbrev AHeap := List AObj

inductive AOpd where
  | t (n : Nat)
  | c (v : AV)
  deriving Inhabited

def AOpd.ev (fr : List AV) : AOpd → AV
  | .t n => fr.getD n .junk
  | .c v => v

/-- A plain cell's kind. -/
inductive CK where
  | bool | int (k : IntKind) | str
  deriving DecidableEq, Inhabited

/-- How two values that are neither numbers nor strings are compared. -/
inductive EqK where
  | none | bool | ptr | func | slice | agg (ks : List CK)
  deriving DecidableEq, Inhabited

inductive AOp where
  | mov (x : AOpd)
  | pick (c a b : AOpd)
  | new (cells : List AV)
  | box (x : AOpd)
  | build (zero : List AV) (parts : List (Nat × Nat × AOpd))
  | buildSlice (es len : Nat) (zero : List AV) (parts : List (Nat × Nat × AOpd))
  | load1 (a : AOpd)
  | loadN (n : Nat) (a : AOpd)
  | store (n : Nat) (a v : AOpd)
  | nilCheck (x : AOpd)
  | bin (op : BinOp) (k : EqK) (x y : AOpd)
  | not (x : AOpd)
  | conv (k : IntKind) (x : AOpd)
  | b2s (x : AOpd)
  | i2s (x : AOpd)
  | mkfunc (fn : Fn) (first captured : List AOpd)
  | mkslice (es bytes : Nat) (zero : List AV) (l c : AOpd)
  | substr (x : AOpd) (lo hi : Option AOpd)
  | subslice (es : Nat) (x : AOpd) (lo hi mx : Option AOpd)
  | fieldAddr (off : Nat) (x : AOpd)
  | field1 (off : Nat) (x : AOpd)
  | fieldN (off n : Nat) (x : AOpd)
  | indexAddr (es : Nat) (x i : AOpd)
  | indexStr (x i : AOpd)
  | range (x : AOpd)
  | next (x : AOpd)
  | extract (x : AOpd) (i : Nat)
  | call (f : AOpd) (args : List AOpd)
  | lenS (x : AOpd)
  | len (x : AOpd)
  | append (es bytes : Nat) (x y : AOpd)
  | min (x y : AOpd)
  | max (x y : AOpd)
  deriving Inhabited

/-- An operation: where its value goes, what it is, under which test it runs. -/
structure AI where
  dst : Option Nat
  op : AOp
  guard : Option (Nat × Bool)
  /-- slots that are not read behind it -/
  dead : List Nat
  deriving Inhabited

/-- Advice for the compiler: of a loop its number, the slots that are read behind its head, those behind it; of operations the slots that are dead behind each. -/
structure Adv where
  id : Nat
  live : List Bool
  out : List Bool
  dead : List (List Nat)
  deriving Inhabited

def withDead : List (List Nat) → List AI → List AI
  | d :: ds, i :: l => { i with dead := d } :: withDead ds l
  | _, l => l

inductive AC where
  | fail
  | skip
  | ops (l : List AI)
  | quiet (l : List AI)
  /-- an order is drawn among the first k; of each: what it waits for (bits) -/
  | draw (l : List AI) (tbl : List Nat) (k : Nat)
  | rangeFunc (id : Nat) (g : AOpd) (ps : List Nat) (assign body : AC)
  | seq (a b : AC)
  | cond (c : AOpd) (a b : AC)
  | block (id : Nat) (a : AC)
  | loop (id : Nat) (live out : List Bool) (a : AC)
  | exit (id : Nat)
  | ret
  deriving Inhabited

inductive AOut where
  | val (v : AV) (h : AHeap)
  | skip (h : AHeap)
  | call (f : FuncId) (args : List AV)
  | yield (i : Nat) (args : List AV)
  deriving Inhabited

/-! ## Numbers, strings -/

def maxInt64 : Int := 9223372036854775807

def bitsA (op : BinOp) (k : IntKind) (a b : Int) : Int :=
  match op with
  | .and => k.wrap ((BitVec.ofInt k.bits a &&& BitVec.ofInt k.bits b).toNat)
  | .or => k.wrap ((BitVec.ofInt k.bits a ||| BitVec.ofInt k.bits b).toNat)
  | .xor => k.wrap ((BitVec.ofInt k.bits a ^^^ BitVec.ofInt k.bits b).toNat)
  | _ => k.wrap ((BitVec.ofInt k.bits a &&& ~~~ BitVec.ofInt k.bits b).toNat)

def aIntBin (op : BinOp) (k : IntKind) (a b : Int) : Option AV :=
  match op with
  | .add => some (.int k (k.wrap (a + b)))
  | .sub => some (.int k (k.wrap (a - b)))
  | .mul => some (.int k (k.wrap (a * b)))
  | .quo => if b = 0 then none else some (.int k (k.wrap (a.tdiv b)))
  | .rem => if b = 0 then none else some (.int k (a.tmod b))
  | .eql => some (.bool (a == b))
  | .neq => some (.bool (a != b))
  | .lss => some (.bool (decide (a < b)))
  | .leq => some (.bool (decide (a ≤ b)))
  | .gtr => some (.bool (decide (a > b)))
  | .geq => some (.bool (decide (a ≥ b)))
  | .shl => if b < 0 then none else some (.int k (k.wrap (a * 2 ^ (Nat.min b.toNat k.bits))))
  | .shr => if b < 0 then none else some (.int k (a.fdiv (2 ^ (Nat.min b.toNat k.bits))))
  | op => some (.int k (bitsA op k a b))

def isShift : BinOp → Bool
  | .shl | .shr => true
  | _ => false

def bytesLt : List UInt8 → List UInt8 → Bool
  | _, [] => false
  | [], _ :: _ => true
  | a :: x, b :: y => a < b || (a == b && bytesLt x y)

def aStrBin (op : BinOp) (a b : List UInt8) : Option AV :=
  match op with
  | .add => if ((a.length + b.length : Nat) : Int) ≤ maxInt64 then some (.str (a ++ b)) else none
  | .eql => some (.bool (a == b))
  | .neq => some (.bool (!(a == b)))
  | .lss => some (.bool (bytesLt a b))
  | .leq => some (.bool (bytesLt a b || a == b))
  | .gtr => some (.bool (!(bytesLt a b || a == b)))
  | .geq => some (.bool (!bytesLt a b))
  | _ => none

/-- Values that are what they are, whatever the memory. -/
def AV.flat : AV → Bool
  | .bool _ | .int _ _ | .str _ => true
  | _ => false

def eqCell : CK → AV → AV → Option Bool
  | .bool, .bool a, .bool b => some (a == b)
  | .int k'', .int k a, .int k' b => if k = k' ∧ k = k'' then some (a == b) else none
  | .str, .str a, .str b => some (a == b)
  | _, _, _ => none

def eqCells : List CK → List AV → List AV → Option Bool
  | [], [], [] => some true
  | k :: ks, x :: xs, y :: ys => match eqCell k x y, eqCells ks xs ys with
    | some a, some b => some (a && b)
    | _, _ => none
  | _, _, _ => none

def aEq : EqK → AV → AV → Option Bool
  | .bool, .bool a, .bool b => some (a == b)
  | .ptr, .nilptr, .nilptr => some true
  | .ptr, .nilptr, .ptr _ _ => some false
  | .ptr, .ptr _ _, .nilptr => some false
  | .func, .nilFunc, .nilFunc => some true
  | .func, .nilFunc, .func _ _ _ => some false
  | .func, .func _ _ _, .nilFunc => some false
  | .slice, .nilslice, .nilslice => some true
  | .slice, .nilslice, .slice _ _ _ _ => some false
  | .slice, .slice _ _ _ _, .nilslice => some false
  | .agg ks, .agg a, .agg b => eqCells ks a b
  | _, _, _ => none

def aBin (op : BinOp) (ek : EqK) : AV → AV → Option AV
  | .int k a, .int k' b => if k = k' ∨ isShift op = true then aIntBin op k a b else none
  | .str a, .str b => aStrBin op a b
  | x, y => match op with
    | .eql => (aEq ek x y).map .bool
    | .neq => (aEq ek x y).map fun b => .bool (!b)
    | _ => none

/-! ## Memory -/

def AV.cells : AV → Option (List AV)
  | .junk => none
  | .agg l => some l
  | v => some [v]

/-- May it be a cell's content that is stored? -/
def AV.one : AV → Bool
  | .junk | .agg _ | .tuple _ => false
  | _ => true

/-- `l` with `xs` written over its cells from `o` on. -/
def splice : List AV → Nat → List AV → List AV
  | l, 0, [] => l
  | [], _, _ => []
  | _ :: l, 0, x :: xs => x :: splice l 0 xs
  | y :: l, o + 1, xs => y :: splice l o xs

def aFill (fr : List AV) : List AV → List (Nat × Nat × AOpd) → Option (List AV)
  | cells, [] => some cells
  | cells, (off, size, x) :: rest =>
    match (x.ev fr).cells with
    | none => none
    | some cs => if cs.length = size ∧ off + size ≤ cells.length then aFill fr (splice cells off cs) rest else none

def AObj.row : AObj → Option (List AV)
  | .cells vs | .ro vs => some vs
  | _ => none

def AHeap.row (h : AHeap) (i : Nat) : Option (List AV) :=
  match h[i]? with
  | some (.cells vs) => some vs
  | some (.ro vs) => some vs
  | _ => none

def sub? (l : List AV) (o n : Nat) : Option (List AV) :=
  if o + n ≤ l.length then some ((l.drop o).take n) else none

def AV.int? : AV → Option Int
  | .int _ n => some n
  | _ => none

def bound (x : AV) (y : Nat) : Option Nat :=
  match x with
  | .int _ n => if 0 ≤ n ∧ n ≤ (y : Int) then some n.toNat else none
  | _ => none

def boundD (fr : List AV) (x : Option AOpd) (y d : Nat) : Option Nat :=
  match x with
  | some x => bound (x.ev fr) y
  | none => some d

def bytesOf : List AV → Option (List UInt8)
  | [] => some []
  | .int .u8 n :: l => (bytesOf l).map (UInt8.ofNat n.toNat :: ·)
  | _ :: _ => none

def u8s (l : List UInt8) : List AV := l.map fun b => .int .u8 b.toNat

/-- The cells that a slice or a string holds. -/
def cellsOf (h : AHeap) (es : Nat) : AV → Option (Nat × List AV)
  | .nilslice => some (0, [])
  | .slice i o n es' => if es' = es then match h.row i with
    | some vs => (sub? vs o (n * es)).map fun l => (n, l)
    | none => none
    else none
  | .str s => if es = 1 then some (s.length, u8s s) else none
  | _ => none

/-- Not a slice of block `i`. -/
def AV.other (i : Nat) : AV → Bool
  | .slice j _ _ _ => !(j == i)
  | _ => true

def aMin : AV → AV → Option AV
  | .int k x, .int k' y => if k = k' then some (.int k (if y < x then y else x)) else none
  | _, _ => none

def aMax : AV → AV → Option AV
  | .int k x, .int k' y => if k = k' then some (.int k (if x < y then y else x)) else none
  | _, _ => none

def aOp (fr : List AV) (h : AHeap) : AOp → Option AOut
  | .mov x => some (.val (x.ev fr) h)
  | .pick c a b => match c.ev fr with
    | .bool t => some (.val (if t then a.ev fr else b.ev fr) h)
    | _ => none
  | .new cells => some (.val (.ptr h.length 0) (h ++ [.cells cells]))
  | .box x => match (x.ev fr).cells with
    | some cs => some (.val (.ptr h.length 0) (h ++ [.cells cs]))
    | none => none
  | .build zero parts => (aFill fr zero parts).map fun cs => .val (.agg cs) h
  | .buildSlice es len zero parts => (aFill fr zero parts).map fun cs => .val (.slice h.length 0 len es) (h ++ [.cells cs])
  | .load1 a => match a.ev fr with
    | .ptr i o => match h.row i with
      | some vs => (vs[o]?).map fun v => .val v h
      | none => none
    | _ => none
  | .loadN n a => match a.ev fr with
    | .ptr i o => match h.row i with
      | some vs => (sub? vs o n).map fun l => .val (.agg l) h
      | none => none
    | _ => none
  | .store n a v => match a.ev fr with
    | .ptr i o => match h[i]?, (v.ev fr).cells with
      | some (.cells vs), some cs => if cs.length = n ∧ o + n ≤ vs.length ∧ cs.all AV.one = true then some (.skip (h.set i (.cells (splice vs o cs)))) else none
      | _, _ => none
    | _ => none
  | .nilCheck x => match x.ev fr with
    | .ptr i o => some (.val (.ptr i o) h)
    | _ => none
  | .bin op k x y => (aBin op k (x.ev fr) (y.ev fr)).map fun v => .val v h
  | .not x => match x.ev fr with
    | .bool b => some (.val (.bool (!b)) h)
    | _ => none
  | .conv k x => match x.ev fr with
    | .int _ n => some (.val (.int k (k.wrap n)) h)
    | _ => none
  | .b2s x => match cellsOf h 1 (x.ev fr) with
    | some (_, l) => match x.ev fr with
      | .str _ => none
      | _ => (bytesOf l).map fun s => .val (.str s) h
    | none => none
  | .i2s x => match x.ev fr with
    | .int _ n => some (.val (.str (Utf8.encode n).data.toList) h)
    | _ => none
  | .mkfunc fn first captured => some (.val (.func fn (first.map (·.ev fr)) (captured.map (·.ev fr))) h)
  | .mkslice es bytes zero l c => match l.ev fr, c.ev fr with
    | .int .i64 l, .int .i64 c =>
      if 0 ≤ l ∧ l ≤ c ∧ (bytes : Int) * c ≤ 281474976710656 ∧ c ≤ maxInt64 ∧ zero.length = es then
        some (.val (.slice h.length 0 l.toNat es) (h ++ [.cells ((List.replicate c.toNat zero).flatten)]))
      else none
    | _, _ => none
  | .substr x lo hi => match x.ev fr with
    | .str s => match boundD fr hi s.length s.length with
      | some b => match boundD fr lo b 0 with
        | some a => some (.val (.str ((s.drop a).take (b - a))) h)
        | none => none
      | none => none
    | _ => none
  | .subslice es x lo hi mx => match x.ev fr with
    | .slice i o n es' => match boundD fr mx n n with
      | some m => match boundD fr hi m n with
        | some b => match boundD fr lo b 0 with
          | some a => if es' = es then some (.val (.slice i (o + a * es) (b - a) es) h) else none
          | none => none
        | none => none
      | none => none
    | .nilslice => match boundD fr mx 0 0, boundD fr hi 0 0, boundD fr lo 0 0 with
      | some _, some _, some _ => some (.val .nilslice h)
      | _, _, _ => none
    | _ => none
  | .fieldAddr off x => match x.ev fr with
    | .ptr i o => some (.val (.ptr i (o + off)) h)
    | _ => none
  | .field1 off x => match x.ev fr with
    | .agg cs => (cs[off]?).map fun v => .val v h
    | _ => none
  | .fieldN off n x => match x.ev fr with
    | .agg cs => (sub? cs off n).map fun l => .val (.agg l) h
    | _ => none
  | .indexAddr es x i => match x.ev fr, i.ev fr with
    | .slice b o n es', .int _ j => if 0 ≤ j ∧ j < (n : Int) ∧ es' = es then some (.val (.ptr b (o + j.toNat * es)) h) else none
    | _, _ => none
  | .indexStr x i => match x.ev fr, i.ev fr with
    | .str s, .int _ j => if 0 ≤ j then (s[j.toNat]?).map fun b => .val (.int .u8 b.toNat) h else none
    | _, _ => none
  | .range x => match x.ev fr with
    | .str s => some (.val (.ptr h.length 0) (h ++ [.iter s 0]))
    | _ => none
  | .next x => match x.ev fr with
    | .ptr i 0 => match h[i]? with
      | some (.iter s pos) =>
        if pos < s.length then
          let d := Utf8.decode ⟨s.toArray⟩ pos
          some (.val (.tuple [.bool true, .int .i64 pos, .int .i32 d.1]) (h.set i (.iter s (pos + d.2))))
        else some (.val (.tuple [.bool false]) h)
      | _ => none
    | _ => none
  | .extract x i => match x.ev fr with
    | .tuple vs => (vs[i]?).map fun v => .val v h
    | _ => none
  | .call f args => match f.ev fr with
    | .func (.func g) fs cs => some (.call g (fs ++ args.map (·.ev fr) ++ cs))
    | .yld i => some (.yield i (args.map (·.ev fr)))
    | _ => none
  | .lenS x => match x.ev fr with
    | .str s => some (.val (.int .i64 s.length) h)
    | _ => none
  | .len x => match x.ev fr with
    | .slice _ _ n _ => some (.val (.int .i64 n) h)
    | .nilslice => some (.val (.int .i64 0) h)
    | _ => none
  | .append es bytes x y => match cellsOf h es (y.ev fr) with
    | none => none
    | some (n, ys) => match x.ev fr with
      | .nilslice => if (4 * n + 1000) * bytes ≤ 281474976710656 then
          if n = 0 then some (.val .nilslice h) else some (.val (.slice h.length 0 n es) (h ++ [.cells ys]))
        else none
      | .slice i o k es' => if n = 0 then some (.val (.slice i o k es') h) else match h[i]? with
        | some (.cells vs) => match sub? vs o (k * es) with
          | some xs => if es' = es ∧ (4 * (k + n) + 1000) * bytes ≤ 281474976710656 ∧ (y.ev fr).other i = true ∧ ys.all AV.one = true then
              some (.val (.slice h.length 0 (k + n) es) (h.set i .dead ++ [.cells (xs ++ ys)])) else none
          | none => none
        | _ => none
      | _ => none
  | .min x y => (aMin (x.ev fr) (y.ev fr)).map fun v => .val v h
  | .max x y => (aMax (x.ev fr) (y.ev fr)).map fun v => .val v h

/-! ## The frame, the code -/

def put (fr : List AV) (dst : Option Nat) (v : AV) : List AV :=
  match dst with
  | some d => fr.set d v
  | none => fr

def killA : List Nat → List AV → List AV
  | [], fr => fr
  | d :: l, fr => killA l (fr.set d .junk)

def putD (fr : List AV) (i : AI) (v : AV) : List AV := killA i.dead (put fr i.dst v)

def wantedA (fr : List AV) : Option (Nat × Bool) → Option Bool
  | none => some true
  | some (s, want) => match fr.getD s .junk with
    | .bool b => some (b == want)
    | .tuple [] => some false
    | _ => none

mutual
def AV.scalar : AV → Bool
  | .bool _ | .int _ _ | .str _ | .nilptr | .nilFunc | .nilslice => true
  | .agg l | .tuple l => AV.scalars l
  | _ => false
def AV.scalars : List AV → Bool
  | [] => true
  | v :: l => v.scalar && AV.scalars l
end

mutual
/-- Values that the embedding determines. -/
def AV.det : AV → Bool
  | .junk | .slice _ _ _ _ => false
  | .func _ a b => AV.dets a && AV.dets b
  | .agg l | .tuple l => AV.dets l
  | _ => true
def AV.dets : List AV → Bool
  | [] => true
  | v :: l => v.det && AV.dets l
end

def AObj.toRo : AObj → AObj
  | .cells vs => .ro vs
  | .ro vs => .ro vs
  | _ => .dead

/-- What the rounds of a loop over a function come to. -/
abbrev AHand := List AV → AHeap → Option (AV × AHeap)
abbrev AYs := Nat → Option AHand
def noY : AYs := fun _ => none
abbrev ACall := AYs → FuncId → List AV → AHeap → Option (AV × AHeap)

def callR (call : ACall) (f : FuncId) (args : List AV) (h : AHeap) : Option AV :=
  match call noY f args (h.map AObj.toRo) with
  | some (v, _) => if v.scalar then some v else none
  | none => none

/-- One operation. -/
def aStep (call : ACall) (Y : AYs) (i : AI) (fr : List AV) (h : AHeap) : Option (List AV × AHeap) :=
  match wantedA fr i.guard with
  | none => none
  | some false => some (putD fr i .undef, h)
  | some true => match aOp fr h i.op with
    | none => none
    | some (.val v h') => some (putD fr i v, h')
    | some (.skip h') => some (putD fr i .undef, h')
    | some (.call f args) => match call Y f args h with
      | some (v, h') => some (putD fr i v, h')
      | none => none
    | some (.yield j args) => match Y j with
      | some g => match g args h with
        | some (v, h') => some (putD fr i v, h')
        | none => none
      | none => none

def aOps (call : ACall) (Y : AYs) : List AI → List AV → AHeap → Option (List AV × AHeap)
  | [], fr, h => some (fr, h)
  | i :: l, fr, h => match aStep call Y i fr h with
    | none => none
    | some (fr, h) => aOps call Y l fr h

/-- Operations that leave memory as it is and whose value does not hang on the order. -/
def AOp.still : AOp → Bool
  | .new _ | .box _ | .buildSlice _ _ _ _ | .store _ _ _ | .mkslice _ _ _ _ _ | .range _ | .next _ | .append _ _ _ _ => false
  | _ => true

/-- Operations whose value is what lies in a slot, or in memory. -/
def AOp.free : AOp → Bool
  | .mov _ | .pick _ _ _ | .nilCheck _ | .extract _ _ | .load1 _ | .loadN _ _ => true
  | _ => false

def aQuiet (call : ACall) : List AI → List AV → AHeap → Option (List AV)
  | [], fr, _ => some fr
  | i :: l, fr, h =>
    match wantedA fr i.guard with
    | none => none
    | some false => aQuiet call l (putD fr i .undef) h
    | some true => if i.op.still = false then none else match aOp fr h i.op with
      | some (.val v _) => if v.det || i.op.free then aQuiet call l (putD fr i v) h else none
      | some (.call f args) => match callR call f args h with
        | some v => aQuiet call l (putD fr i v) h
        | none => none
      | _ => none

/-! ### Renaming blocks -/

mutual
def AV.ids : AV → List Nat
  | .ptr i _ => [i]
  | .slice i _ _ _ => [i]
  | .yld i => [i]
  | .func _ a b => AV.idss a ++ AV.idss b
  | .agg l | .tuple l => AV.idss l
  | _ => []
def AV.idss : List AV → List Nat
  | [] => []
  | v :: l => v.ids ++ AV.idss l
end

mutual
def AV.ren (ρ : Nat → Option Nat) : AV → AV
  | .ptr i o => match ρ i with
    | some j => .ptr j o
    | none => .junk
  | .slice i o n es => match ρ i with
    | some j => .slice j o n es
    | none => .junk
  | .yld i => match ρ i with
    | some j => .yld j
    | none => .junk
  | .func fn a b => .func fn (AV.rens ρ a) (AV.rens ρ b)
  | .agg l => .agg (AV.rens ρ l)
  | .tuple l => .tuple (AV.rens ρ l)
  | v => v
def AV.rens (ρ : Nat → Option Nat) : List AV → List AV
  | [] => []
  | v :: l => v.ren ρ :: AV.rens ρ l
end

def AObj.ids : AObj → List Nat
  | .cells vs | .ro vs => AV.idss vs
  | _ => []

def AObj.ren (ρ : Nat → Option Nat) : AObj → AObj
  | .cells vs => .cells (AV.rens ρ vs)
  | .ro vs => .ro (AV.rens ρ vs)
  | o => o

/-- Which blocks from n0 on are reached: only a hint, checked by `keepOk`. -/
def reach (n0 : Nat) (h : AHeap) : Nat → List Nat → List Nat → List Nat
  | 0, _, acc => acc
  | _, [], acc => acc
  | k + 1, i :: todo, acc =>
    if i < n0 || acc.contains i then reach n0 h k todo acc
    else reach n0 h k ((h.getD i .dead).ids ++ todo) (acc ++ [i])

def keepOk (n0 n : Nat) : List Nat → Bool
  | [] => true
  | i :: l => decide (n0 ≤ i) && decide (i < n) && !l.contains i && keepOk n0 n l

def idx (i : Nat) : List Nat → Nat → Option Nat
  | [], _ => none
  | j :: l, k => if i = j then some k else idx i l (k + 1)

def rho (n0 : Nat) (keep : List Nat) (i : Nat) : Option Nat :=
  if i < n0 then some i else idx i keep n0

def roots (n0 : Nat) (h : AHeap) : List Nat := (h.take n0).flatMap AObj.ids

def renorm (n0 : Nat) (fr : List AV) (h : AHeap) : Option (List AV × AHeap) :=
  if h.length ≤ n0 then some (fr, h) else
  let keep := reach n0 h 100 (AV.idss fr ++ roots n0 h) []
  if keepOk n0 h.length keep then
    some (AV.rens (rho n0 keep) fr, (h.take n0).map (AObj.ren (rho n0 keep)) ++ keep.map fun i => (h.getD i .dead).ren (rho n0 keep))
  else none

def mask : List Bool → List AV → List AV
  | b :: bs, v :: vs => (if b then v else .junk) :: mask bs vs
  | _, [] => []
  | [], _ :: vs => .junk :: mask [] vs

/-! ### Regions that draw their order -/

/-- The frame in which the slots of these operations hold what `sel` tells, or nothing. -/
def drawF (sel : Nat → Option AV) : Nat → List AI → List AV → List AV
  | _, [], fr => fr
  | j, i :: l, fr => drawF sel (j + 1) l (put fr i.dst ((sel j).getD .junk))

/-- The blocks of those operations that `sel` lets in. -/
def drawH (sel : Nat → Bool) : Nat → List (AV × List AObj) → AHeap
  | _, [] => []
  | j, e :: l => (if sel j then e.2 else List.replicate e.2.length .dead) ++ drawH sel (j + 1) l

def idsIn (n0 m q : Nat) (l : List Nat) : Bool := l.all fun i => decide (i < n0) || (decide (m ≤ i) && decide (i < m + q))

def AObj.isCells : AObj → Bool
  | .cells _ => true
  | _ => false

def newsOk (n0 m : Nat) (v : AV) (news : List AObj) : Bool :=
  idsIn n0 m news.length v.ids && news.all fun o => o.isCells && idsIn n0 m news.length o.ids

/-- What each operation waits for, directly or through others: bits. -/
def cloW (tbl : List Nat) (w : List Nat) : Nat := w.foldl (fun m i => m ||| 2 ^ i ||| tbl.getD i 0) 0
def cloT : List (List Nat) → List Nat → List Nat
  | [], tbl => tbl
  | w :: ws, tbl => cloT ws (tbl ++ [cloW tbl w])

def drawVal (call : ACall) (i : AI) (fr : List AV) (h : AHeap) : Option (AV × List AObj) :=
  match wantedA fr i.guard with
  | none => none
  | some false => some (.undef, [])
  | some true => match aOp fr (h.map AObj.toRo) i.op with
    | some (.val v h') => some (v, h'.drop h.length)
    | some (.call f args) => match call noY f args (h.map AObj.toRo) with
      | some (v, h') => some (v, h'.drop h.length)
      | none => none
    | _ => none

def drawGo (call : ACall) (all : List AI) (tbl : List Nat) (fr0 : List AV) (h0 : AHeap) : List AI → Nat → List (AV × List AObj) → Option (List (AV × List AObj))
  | [], _, es => some es
  | i :: r, j, es =>
    let w := tbl.getD j 0
    let h := h0 ++ drawH (fun k => w.testBit k) 0 es
    match drawVal call i (drawF (fun k => if w.testBit k then (es[k]?).map (·.1) else none) 0 all fr0) h with
    | some (v, news) => if newsOk h0.length h.length v news then drawGo call all tbl fr0 h0 r (j + 1) (es ++ [(v, news)]) else none
    | none => none

def killAll : List AI → List AV → List AV
  | [], fr => fr
  | i :: l, fr => killAll l (killA i.dead fr)

def aDraw (call : ACall) (l : List AI) (tbl : List Nat) (fr0 : List AV) (h0 : AHeap) : Option (List AV × AHeap) :=
  match drawGo call l tbl fr0 h0 l 0 [] with
  | some es => some (killAll l (drawF (fun k => (es[k]?).map (·.1)) 0 l fr0), h0 ++ drawH (fun _ => true) 0 es)
  | none => none

/-! ### Code -/

def aLoop (n0 : Nat) (live : List Bool) (step : List AV → AHeap → Option (AExit × List AV × AHeap)) : Nat → List AV → AHeap → Option (AExit × List AV × AHeap)
  | 0, _, _ => none
  | n + 1, fr, h => match renorm n0 (mask live fr) h with
    | none => none
    | some (fr, h) => match step fr h with
      | some (.normal, fr, h) => aLoop n0 live step n fr h
      | r => r

/-- A frame with a round's values. -/
def setPs : List Nat → List AV → List AV → List AV
  | p :: ps, v :: vs, fr => setPs ps vs (fr.set p v)
  | _, _, fr => fr

/-- How a round's end leaves the loop. -/
def AExit.st : AExit → LSt
  | .normal => .ready
  | e => .done e

/-- A round: the loop's block is i; what is assigned, the body. -/
def aRound (i : Nat) (ps : List Nat) (fr : List AV) (assign body : Nat → List AV → AHeap → Option (AExit × List AV × AHeap)) : AHand := fun args h =>
  match h[i]? with
  | some (.loop .ready) =>
    if args.length = ps.length then
      match assign h.length (setPs ps args fr) h with
      | some (.normal, fr1, h1) => match h1[i]? with
        | some (.loop .ready) => match body h.length fr1 (h1.set i (.loop .busy)) with
          | some (e, _, h2) => match renorm h.length [] h2 with
            | some (_, h3) => match h3[i]? with
              | some (.loop .busy) => some (.bool (e == .normal), h3.set i (.loop e.st))
              | _ => none
            | none => none
          | none => none
        | _ => none
      | _ => none
    else none
  | _ => none

/-- A loop over a function. -/
def aRange (call : ACall) (Y : AYs) (g : AV) (hand : AHand) (fr : List AV) (h : AHeap) : Option (AExit × List AV × AHeap) :=
  match g with
  | .func (.func f) fs cs => match call (fun j => if j = h.length then some hand else Y j) f (fs ++ [.yld h.length] ++ cs) (h ++ [.loop .ready]) with
    | some (_, h') => match h'[h.length]? with
      | some (.loop .ready) => some (.normal, fr, h'.set h.length .dead)
      | some (.loop (.done e)) => some (e, fr, h'.set h.length .dead)
      | _ => none
    | none => none
  | _ => none

def aCode (call : ACall) (Y : AYs) (rounds : Nat) (inr : Bool) (n0 : Nat) : AC → List AV → AHeap → Option (AExit × List AV × AHeap)
  | .fail, _, _ => none
  | .skip, fr, h => some (.normal, fr, h)
  | .ops l, fr, h => match aOps call Y l fr h with
    | some (fr, h) => some (.normal, fr, h)
    | none => none
  | .quiet l, fr, h => match aQuiet call l fr h with
    | some fr => some (.normal, fr, h)
    | none => none
  | .draw l tbl k, fr, h => match aDraw call (l.take k) tbl fr h with
    | some (fr, h) => match aOps call Y (l.drop k) fr h with
      | some (fr, h) => some (.normal, fr, h)
      | none => none
    | none => none
  | .rangeFunc _ g ps x y, fr, h => if inr then none else
    aRange call Y (g.ev fr) (aRound h.length ps fr (fun n fr h => aCode call Y rounds true n x fr h) (fun n fr h => aCode call Y rounds true n y fr h)) fr h
  | .seq a b, fr, h => match aCode call Y rounds inr n0 a fr h with
    | some (.normal, fr, h) => aCode call Y rounds inr n0 b fr h
    | r => r
  | .cond c a b, fr, h => match c.ev fr with
    | .bool t => if t then aCode call Y rounds inr n0 a fr h else aCode call Y rounds inr n0 b fr h
    | _ => none
  | .block id a, fr, h => match aCode call Y rounds inr n0 a fr h with
    | some (.exit i, fr, h) => if i = id then some (.normal, fr, h) else some (.exit i, fr, h)
    | r => r
  | .loop _ live out a, fr, h => match aLoop n0 live (fun fr h => aCode call Y rounds inr n0 a fr h) rounds fr h with
    | some (e, fr, h) => some (e, mask out fr, h)
    | none => none
  | .exit id, fr, h => some (.exit id, fr, h)
  | .ret, fr, h => some (.ret, fr, h)

/-- Where a result lies: in a slot; in memory, one cell or some. -/
inductive ARes where
  | tmp (t : Nat)
  | cell1 (t : Nat)
  | cellN (t n : Nat)
  deriving Inhabited

def ARes.get (fr : List AV) (h : AHeap) : ARes → Option AV
  | .tmp t => some (fr.getD t .junk)
  | .cell1 t => match fr.getD t .junk with
    | .ptr i o => match h.row i with
      | some vs => vs[o]?
      | none => none
    | _ => none
  | .cellN t n => match fr.getD t .junk with
    | .ptr i o => match h.row i with
      | some vs => (sub? vs o n).map .agg
      | none => none
    | _ => none

def resAll (fr : List AV) (h : AHeap) : List ARes → Option (List AV)
  | [] => some []
  | r :: l => match r.get fr h, resAll fr h l with
    | some v, some vs => some (v :: vs)
    | _, _ => none

def tup : List AV → AV
  | [v] => v
  | vs => .tuple vs

structure AFn where
  code : AC
  ntmps : Nat
  res : List ARes
  deriving Inhabited

/-- A function's call: by a contract of the table `T`, else by its code. -/
def aFn (F : FuncId → Option AFn) (T : FuncId → Option (List AV → AHeap → Option (AV × AHeap))) (rounds : Nat) : Nat → ACall
  | 0, _, _, _, _ => none
  | n + 1, Y, f, args, h => match T f with
    | some g => g args h
    | none => match F f with
      | none => none
      | some fn => match aCode (aFn F T rounds n) Y rounds false h.length fn.code (args ++ List.replicate (fn.ntmps - args.length) .undef) h with
        | none => none
        | some (.exit _, _, _) => none
        | some (_, fr, h') => match resAll fr h' fn.res with
          | none => none
          | some vs => match renorm h.length vs h' with
            | none => none
            | some (vs, h') => some (tup vs, h')

end Go.Ax

namespace Go.Ax
set_option linter.unusedVariables false
set_option linter.unusedSimpArgs false

/-- Where an abstract block lies: the model's block, the first of its cells, how many cells the model's block has. -/
abbrev Emb := List (Nat × Nat × Nat)

mutual
def VRel (ι : Emb) : AV → Value → Prop
  | .junk, _ => True
  | .bool b, x => x = .bool b
  | .int k n, x => x = .int k n
  | .str l, x => x = .string ⟨l.toArray⟩
  | .nilptr, x => x = .pointer none
  | .ptr i o, x => ∃ e, ι[i]? = some e ∧ x = .pointer (some ⟨e.1, e.2.1 + o, none⟩)
  | .nilslice, x => x = .slice none 0 0
  | .slice i o n es, x => ∃ e a cap, ι[i]? = some e ∧ x = .slice (some a) n cap ∧ n ≤ cap ∧ (cap = 0 ∨ (a = ⟨e.1, e.2.1 + o, none⟩ ∧ e.2.1 + o + cap * es ≤ e.2.2))
  | .func fn a b, x => ∃ xa xb, x = .func fn xa xb ∧ VRels ι a xa.toList ∧ VRels ι b xb.toList
  | .nilFunc, x => x = .nilFunc
  | .yld i, x => ∃ e, ι[i]? = some e ∧ x = .func (.yield e.1) #[] #[]
  | .agg l, x => ∃ c, x = .agg c ∧ VRels ι l c.toList
  | .tuple l, x => ∃ c, x = .tuple c ∧ VRels ι l c.toList
def VRels (ι : Emb) : List AV → List Value → Prop
  | [], xs => xs = []
  | v :: l, xs => ∃ y ys, xs = y :: ys ∧ VRel ι v y ∧ VRels ι l ys
end

theorem VRels.nil {ι : Emb} : VRels ι [] [] := by simp [VRels]
theorem VRels.cons {ι : Emb} {v : AV} {l : List AV} {x : Value} {xs : List Value} (h : VRel ι v x) (hs : VRels ι l xs) : VRels ι (v :: l) (x :: xs) := by
  unfold VRels; exact ⟨x, xs, rfl, h, hs⟩
theorem VRels.cons_inv {ι : Emb} {v : AV} {l : List AV} {xs : List Value} (h : VRels ι (v :: l) xs) : ∃ y ys, xs = y :: ys ∧ VRel ι v y ∧ VRels ι l ys := by
  unfold VRels at h; exact h
theorem VRels.nil_inv {ι : Emb} {xs : List Value} (h : VRels ι [] xs) : xs = [] := by unfold VRels at h; exact h

theorem VRels.length {ι : Emb} : ∀ {l : List AV} {xs : List Value}, VRels ι l xs → l.length = xs.length
  | [], _, h => by rw [h.nil_inv]; rfl
  | v :: l, xs, h => by
    obtain ⟨y, ys, rfl, _, hs⟩ := h.cons_inv
    simp [VRels.length hs]

theorem VRels.get {ι : Emb} : ∀ {l : List AV} {xs : List Value}, VRels ι l xs → ∀ (i : Nat) (v : AV), l[i]? = some v → ∃ x, xs[i]? = some x ∧ VRel ι v x
  | [], _, _, i, v, hv => by simp at hv
  | u :: l, xs, h, i, v, hv => by
    obtain ⟨y, ys, rfl, h1, hs⟩ := h.cons_inv
    cases i with
    | zero => simp at hv; subst hv; exact ⟨y, by simp, h1⟩
    | succ i => simpa using VRels.get hs i v (by simpa using hv)

theorem VRels.of_get {ι : Emb} : ∀ {l : List AV} {xs : List Value}, l.length = xs.length → (∀ (i : Nat) (v : AV), l[i]? = some v → ∃ x, xs[i]? = some x ∧ VRel ι v x) → VRels ι l xs
  | [], [], _, _ => .nil
  | [], _ :: _, h, _ => by simp at h
  | _ :: _, [], h, _ => by simp at h
  | v :: l, x :: xs, h, hg => by
    obtain ⟨x', hx, hv⟩ := hg 0 v (by simp)
    simp at hx; subst hx
    exact .cons hv (VRels.of_get (by simpa using h) fun i u hu => by simpa using hg (i + 1) u (by simpa using hu))

theorem VRels.getD {ι : Emb} {l : List AV} {xs : List Value} (h : VRels ι l xs) (i : Nat) (d : Value) : VRel ι (l.getD i .junk) (xs.getD i d) := by
  rw [List.getD_eq_getElem?_getD, List.getD_eq_getElem?_getD]
  cases hv : l[i]? with
  | none => simp [VRel]
  | some v =>
    obtain ⟨x, hx, hr⟩ := h.get i v hv
    simpa [hx] using hr

theorem VRels.set {ι : Emb} : ∀ {l : List AV} {xs : List Value} (i : Nat) {v : AV} {x : Value}, VRels ι l xs → VRel ι v x → VRels ι (l.set i v) (xs.set i x)
  | [], xs, i, v, x, h, _ => by rw [h.nil_inv]; simpa using VRels.nil
  | u :: l, xs, i, v, x, h, hv => by
    obtain ⟨y, ys, rfl, h1, hs⟩ := h.cons_inv
    cases i with
    | zero => simpa using VRels.cons hv hs
    | succ i => simpa using VRels.cons h1 (VRels.set i hs hv)

theorem VRels.append {ι : Emb} : ∀ {l l' : List AV} {xs xs' : List Value}, VRels ι l xs → VRels ι l' xs' → VRels ι (l ++ l') (xs ++ xs')
  | [], _, _, _, h, h' => by rw [h.nil_inv]; simpa using h'
  | v :: l, _, _, _, h, h' => by
    obtain ⟨y, ys, rfl, h1, hs⟩ := h.cons_inv
    simpa using VRels.cons h1 (VRels.append hs h')

theorem VRels.take {ι : Emb} : ∀ {l : List AV} {xs : List Value} (n : Nat), VRels ι l xs → VRels ι (l.take n) (xs.take n)
  | [], _, n, h => by rw [h.nil_inv]; simpa using VRels.nil
  | v :: l, _, n, h => by
    obtain ⟨y, ys, rfl, h1, hs⟩ := h.cons_inv
    cases n with
    | zero => simpa using VRels.nil
    | succ n => simpa using VRels.cons h1 (VRels.take n hs)

theorem VRels.drop {ι : Emb} : ∀ {l : List AV} {xs : List Value} (n : Nat), VRels ι l xs → VRels ι (l.drop n) (xs.drop n)
  | [], _, n, h => by rw [h.nil_inv]; simpa using VRels.nil
  | v :: l, _, n, h => by
    obtain ⟨y, ys, rfl, h1, hs⟩ := h.cons_inv
    cases n with
    | zero => simpa using VRels.cons h1 hs
    | succ n => simpa using VRels.drop n hs

theorem VRels.map {ι : Emb} {α : Type} (f : α → AV) (g : α → Value) : ∀ (l : List α), (∀ a ∈ l, VRel ι (f a) (g a)) → VRels ι (l.map f) (l.map g)
  | [], _ => .nil
  | a :: l, h => .cons (h a (by simp)) (VRels.map f g l fun b hb => h b (by simp [hb]))

theorem VRels.replicate {ι : Emb} {v : AV} {x : Value} (h : VRel ι v x) : ∀ n, VRels ι (List.replicate n v) (List.replicate n x)
  | 0 => .nil
  | n + 1 => by simpa [List.replicate_succ] using VRels.cons h (VRels.replicate h n)

/-! ### Carried to another embedding, under other names -/

mutual
theorem VRel.ren {ι ι' : Emb} {ρ : Nat → Option Nat} (h : ∀ i j : Nat, ρ i = some j → ∀ e : Nat × Nat × Nat, ι[i]? = some e → ι'[j]? = some e) : ∀ (v : AV) (x : Value), VRel ι v x → VRel ι' (v.ren ρ) x
  | .junk, x, _ => by simp [AV.ren, VRel]
  | .bool b, x, hv => by simpa [AV.ren, VRel] using hv
  | .int k n, x, hv => by simpa [AV.ren, VRel] using hv
  | .str l, x, hv => by simpa [AV.ren, VRel] using hv
  | .nilptr, x, hv => by simpa [AV.ren, VRel] using hv
  | .nilslice, x, hv => by simpa [AV.ren, VRel] using hv
  | .nilFunc, x, hv => by simpa [AV.ren, VRel] using hv
  | .ptr i o, x, hv => by
    simp only [AV.ren]
    cases hi : ρ i with
    | none => simp [VRel]
    | some j =>
      simp only [VRel] at hv ⊢
      obtain ⟨e, he, rfl⟩ := hv
      exact ⟨e, h i j hi e he, rfl⟩
  | .slice i o n es, x, hv => by
    simp only [AV.ren]
    cases hi : ρ i with
    | none => simp [VRel]
    | some j =>
      simp only [VRel] at hv ⊢
      obtain ⟨e, a, cap, he, hr⟩ := hv
      exact ⟨e, a, cap, h i j hi e he, hr⟩
  | .yld i, x, hv => by
    simp only [AV.ren]
    cases hi : ρ i with
    | none => simp [VRel]
    | some j =>
      simp only [VRel] at hv ⊢
      obtain ⟨e, he, rfl⟩ := hv
      exact ⟨e, h i j hi e he, rfl⟩
  | .func fn a b, x, hv => by
    simp only [AV.ren, VRel] at hv ⊢
    obtain ⟨xa, xb, rfl, h1, h2⟩ := hv
    exact ⟨xa, xb, rfl, VRels.ren h a _ h1, VRels.ren h b _ h2⟩
  | .agg l, x, hv => by
    simp only [AV.ren, VRel] at hv ⊢
    obtain ⟨c, rfl, h1⟩ := hv
    exact ⟨c, rfl, VRels.ren h l _ h1⟩
  | .tuple l, x, hv => by
    simp only [AV.ren, VRel] at hv ⊢
    obtain ⟨c, rfl, h1⟩ := hv
    exact ⟨c, rfl, VRels.ren h l _ h1⟩
theorem VRels.ren {ι ι' : Emb} {ρ : Nat → Option Nat} (h : ∀ i j : Nat, ρ i = some j → ∀ e : Nat × Nat × Nat, ι[i]? = some e → ι'[j]? = some e) : ∀ (l : List AV) (xs : List Value), VRels ι l xs → VRels ι' (AV.rens ρ l) xs
  | [], xs, hv => by simpa [AV.rens, VRels] using hv
  | v :: l, xs, hv => by
    obtain ⟨y, ys, rfl, h1, hs⟩ := hv.cons_inv
    simp only [AV.rens]
    exact .cons (VRel.ren h v y h1) (VRels.ren h l ys hs)
end

mutual
theorem AV.ren_some : ∀ (v : AV), v.ren some = v
  | .junk | .bool _ | .int _ _ | .str _ | .nilptr | .nilslice | .nilFunc | .yld _ | .ptr _ _ | .slice _ _ _ _ => by simp [AV.ren]
  | .func fn a b => by simp [AV.ren, AV.rens_some a, AV.rens_some b]
  | .agg l => by simp [AV.ren, AV.rens_some l]
  | .tuple l => by simp [AV.ren, AV.rens_some l]
theorem AV.rens_some : ∀ (l : List AV), AV.rens some l = l
  | [] => by simp [AV.rens]
  | v :: l => by simp [AV.rens, AV.ren_some v, AV.rens_some l]
end

theorem VRel.mono {ι ι' : Emb} (h : ∀ (i : Nat) (e : Nat × Nat × Nat), ι[i]? = some e → ι'[i]? = some e) {v : AV} {x : Value} (hv : VRel ι v x) : VRel ι' v x := by
  have := VRel.ren (ι := ι) (ι' := ι') (ρ := some) (fun i j hij e he => by cases hij; exact h i e he) v x hv
  rwa [AV.ren_some] at this
theorem VRels.mono {ι ι' : Emb} (h : ∀ (i : Nat) (e : Nat × Nat × Nat), ι[i]? = some e → ι'[i]? = some e) {v : List AV} {x : List Value} (hv : VRels ι v x) : VRels ι' v x := by
  have := VRels.ren (ι := ι) (ι' := ι') (ρ := some) (fun i j hij e he => by cases hij; exact h i e he) v x hv
  rwa [AV.rens_some] at this

/-! ### Scalars are what they are -/

mutual
theorem scalar_unique {ι ι' : Emb} : ∀ (v : AV), v.scalar = true → ∀ x y, VRel ι v x → VRel ι' v y → x = y
  | .bool b, _, x, y, hx, hy => by simp only [VRel] at hx hy; rw [hx, hy]
  | .int k n, _, x, y, hx, hy => by simp only [VRel] at hx hy; rw [hx, hy]
  | .str l, _, x, y, hx, hy => by simp only [VRel] at hx hy; rw [hx, hy]
  | .nilptr, _, x, y, hx, hy => by simp only [VRel] at hx hy; rw [hx, hy]
  | .nilFunc, _, x, y, hx, hy => by simp only [VRel] at hx hy; rw [hx, hy]
  | .nilslice, _, x, y, hx, hy => by simp only [VRel] at hx hy; rw [hx, hy]
  | .agg l, h, x, y, hx, hy => by
    simp only [VRel] at hx hy
    obtain ⟨c, rfl, h1⟩ := hx
    obtain ⟨d, rfl, h2⟩ := hy
    have := scalars_unique l (by simpa [AV.scalar] using h) _ _ h1 h2
    rw [Array.toList_inj.1 this]
  | .tuple l, h, x, y, hx, hy => by
    simp only [VRel] at hx hy
    obtain ⟨c, rfl, h1⟩ := hx
    obtain ⟨d, rfl, h2⟩ := hy
    have := scalars_unique l (by simpa [AV.scalar] using h) _ _ h1 h2
    rw [Array.toList_inj.1 this]
  | .junk, h, _, _, _, _ => by simp [AV.scalar] at h
  | .ptr _ _, h, _, _, _, _ => by simp [AV.scalar] at h
  | .slice _ _ _ _, h, _, _, _, _ => by simp [AV.scalar] at h
  | .yld _, h, _, _, _, _ => by simp [AV.scalar] at h
  | .func _ _ _, h, _, _, _, _ => by simp [AV.scalar] at h
theorem scalars_unique {ι ι' : Emb} : ∀ (l : List AV), AV.scalars l = true → ∀ x y, VRels ι l x → VRels ι' l y → x = y
  | [], _, x, y, hx, hy => by rw [hx.nil_inv, hy.nil_inv]
  | v :: l, h, x, y, hx, hy => by
    simp only [AV.scalars, Bool.and_eq_true] at h
    obtain ⟨a, as, rfl, h1, hs1⟩ := hx.cons_inv
    obtain ⟨b, bs, rfl, h2, hs2⟩ := hy.cons_inv
    rw [scalar_unique v h.1 _ _ h1 h2, scalars_unique l h.2 _ _ hs1 hs2]
end

mutual
/-- A scalar stands to its value under whatever embedding. -/
theorem scalar_any {ι ι' : Emb} : ∀ (v : AV), v.scalar = true → ∀ x, VRel ι v x → VRel ι' v x
  | .bool b, _, x, hx => by simpa only [VRel] using hx
  | .int k n, _, x, hx => by simpa only [VRel] using hx
  | .str l, _, x, hx => by simpa only [VRel] using hx
  | .nilptr, _, x, hx => by simpa only [VRel] using hx
  | .nilFunc, _, x, hx => by simpa only [VRel] using hx
  | .nilslice, _, x, hx => by simpa only [VRel] using hx
  | .agg l, h, x, hx => by
    simp only [VRel] at hx ⊢
    obtain ⟨c, rfl, h1⟩ := hx
    exact ⟨c, rfl, scalars_any l (by simpa [AV.scalar] using h) _ h1⟩
  | .tuple l, h, x, hx => by
    simp only [VRel] at hx ⊢
    obtain ⟨c, rfl, h1⟩ := hx
    exact ⟨c, rfl, scalars_any l (by simpa [AV.scalar] using h) _ h1⟩
  | .junk, h, _, _ => by simp [AV.scalar] at h
  | .ptr _ _, h, _, _ => by simp [AV.scalar] at h
  | .slice _ _ _ _, h, _, _ => by simp [AV.scalar] at h
  | .yld _, h, _, _ => by simp [AV.scalar] at h
  | .func _ _ _, h, _, _ => by simp [AV.scalar] at h
theorem scalars_any {ι ι' : Emb} : ∀ (l : List AV), AV.scalars l = true → ∀ x, VRels ι l x → VRels ι' l x
  | [], _, x, hx => by rw [hx.nil_inv]; exact .nil
  | v :: l, h, x, hx => by
    simp only [AV.scalars, Bool.and_eq_true] at h
    obtain ⟨a, as, rfl, h1, hs1⟩ := hx.cons_inv
    exact .cons (scalar_any v h.1 _ h1) (scalars_any l h.2 _ hs1)
end

/-! ### Only the blocks that a value names -/

mutual
theorem VRel.congr {ι ι' : Emb} : ∀ (v : AV) (x : Value), (∀ i ∈ v.ids, ∀ e : Nat × Nat × Nat, ι[i]? = some e → ι'[i]? = some e) → VRel ι v x → VRel ι' v x
  | .junk, x, _, _ => by simp [VRel]
  | .bool _, x, _, hv | .int _ _, x, _, hv | .str _, x, _, hv | .nilptr, x, _, hv | .nilslice, x, _, hv | .nilFunc, x, _, hv => by simpa only [VRel] using hv
  | .ptr i o, x, h, hv => by
    simp only [VRel] at hv ⊢
    obtain ⟨e, he, rfl⟩ := hv
    exact ⟨e, h i (by simp [AV.ids]) e he, rfl⟩
  | .yld i, x, h, hv => by
    simp only [VRel] at hv ⊢
    obtain ⟨e, he, rfl⟩ := hv
    exact ⟨e, h i (by simp [AV.ids]) e he, rfl⟩
  | .slice i o n es, x, h, hv => by
    simp only [VRel] at hv ⊢
    obtain ⟨e, a, cap, he, hr⟩ := hv
    exact ⟨e, a, cap, h i (by simp [AV.ids]) e he, hr⟩
  | .func fn a b, x, h, hv => by
    simp only [VRel] at hv ⊢
    obtain ⟨xa, xb, rfl, h1, h2⟩ := hv
    exact ⟨xa, xb, rfl, VRels.congr a _ (fun i hi => h i (by simp [AV.ids, hi])) h1, VRels.congr b _ (fun i hi => h i (by simp [AV.ids, hi])) h2⟩
  | .agg l, x, h, hv => by
    simp only [VRel] at hv ⊢
    obtain ⟨c, rfl, h1⟩ := hv
    exact ⟨c, rfl, VRels.congr l _ (fun i hi => h i (by simpa [AV.ids] using hi)) h1⟩
  | .tuple l, x, h, hv => by
    simp only [VRel] at hv ⊢
    obtain ⟨c, rfl, h1⟩ := hv
    exact ⟨c, rfl, VRels.congr l _ (fun i hi => h i (by simpa [AV.ids] using hi)) h1⟩
theorem VRels.congr {ι ι' : Emb} : ∀ (l : List AV) (xs : List Value), (∀ i ∈ AV.idss l, ∀ e : Nat × Nat × Nat, ι[i]? = some e → ι'[i]? = some e) → VRels ι l xs → VRels ι' l xs
  | [], xs, _, hv => by simpa only [VRels] using hv
  | v :: l, xs, h, hv => by
    obtain ⟨y, ys, rfl, h1, hs⟩ := hv.cons_inv
    exact .cons (VRel.congr v y (fun i hi => h i (by simp [AV.idss, hi])) h1) (VRels.congr l ys (fun i hi => h i (by simp [AV.idss, hi])) hs)
end

theorem emb_lt {ι : Emb} {i : Nat} {e : Nat × Nat × Nat} (h : ι[i]? = some e) : i < ι.length := by
  rcases Nat.lt_or_ge i ι.length with h' | h'
  · exact h'
  · simp [List.getElem?_eq_none h'] at h

mutual
theorem VRel.lt {ι : Emb} : ∀ (v : AV) (x : Value), VRel ι v x → ∀ i ∈ v.ids, i < ι.length
  | .junk, x, _, i, hi | .bool _, x, _, i, hi | .int _ _, x, _, i, hi | .str _, x, _, i, hi | .nilptr, x, _, i, hi | .nilslice, x, _, i, hi | .nilFunc, x, _, i, hi => by simp [AV.ids] at hi
  | .ptr j o, x, hv, i, hi => by
    simp only [VRel] at hv
    obtain ⟨e, he, rfl⟩ := hv
    simp [AV.ids] at hi; subst hi; exact emb_lt he
  | .yld j, x, hv, i, hi => by
    simp only [VRel] at hv
    obtain ⟨e, he, rfl⟩ := hv
    simp [AV.ids] at hi; subst hi; exact emb_lt he
  | .slice j o n es, x, hv, i, hi => by
    simp only [VRel] at hv
    obtain ⟨e, a, cap, he, hr⟩ := hv
    simp [AV.ids] at hi; subst hi; exact emb_lt he
  | .func fn a b, x, hv, i, hi => by
    simp only [VRel] at hv
    obtain ⟨xa, xb, rfl, h1, h2⟩ := hv
    simp only [AV.ids, List.mem_append] at hi
    exact hi.elim (VRels.lt a _ h1 i) (VRels.lt b _ h2 i)
  | .agg l, x, hv, i, hi => by
    simp only [VRel] at hv
    obtain ⟨c, rfl, h1⟩ := hv
    exact VRels.lt l _ h1 i (by simpa [AV.ids] using hi)
  | .tuple l, x, hv, i, hi => by
    simp only [VRel] at hv
    obtain ⟨c, rfl, h1⟩ := hv
    exact VRels.lt l _ h1 i (by simpa [AV.ids] using hi)
theorem VRels.lt {ι : Emb} : ∀ (l : List AV) (xs : List Value), VRels ι l xs → ∀ i ∈ AV.idss l, i < ι.length
  | [], xs, _, i, hi => by simp [AV.idss] at hi
  | v :: l, xs, hv, i, hi => by
    obtain ⟨y, ys, rfl, h1, hs⟩ := hv.cons_inv
    simp only [AV.idss, List.mem_append] at hi
    exact hi.elim (VRel.lt v y h1 i) (VRels.lt l ys hs i)
end

/-! ### Memory -/

def AObj.excl : AObj → Bool
  | .cells _ | .iter _ _ | .loop _ => true
  | _ => false
def AObj.live : AObj → Bool
  | .dead => false
  | _ => true

def RowRel (ι : Emb) (e : Nat × Nat × Nat) (vs : List AV) (c : Array Value) : Prop :=
  c.size = e.2.2 ∧ e.2.1 + vs.length ≤ e.2.2 ∧ ∀ j v, vs[j]? = some v → ∃ x, c[e.2.1 + j]? = some x ∧ VRel ι v x

def AExit.toCode : AExit → Option Code
  | .normal => none
  | .exit id => some (.exit id)
  | .ret => some .ret

/-- A loop's record stands so. -/
def LRel : LSt → Loop → Prop
  | .ready, r => r.state = .ready ∧ r.pending = none
  | .busy, r => r.state = .busy
  | .done e, r => r.state = .done ∧ r.pending = e.toCode

def ORel (ι : Emb) (w : World) (e : Nat × Nat × Nat) : AObj → Prop
  | .dead => True
  | .cells vs => ∃ c t, w.heap[e.1]? = some (.cells c t (0, 0)) ∧ RowRel ι e vs c
  | .ro vs => ∃ c t fz, w.heap[e.1]? = some (.cells c t fz) ∧ RowRel ι e vs c
  | .iter l pos => w.heap[e.1]? = some (.stringIter ⟨l.toArray⟩ pos) ∧ e.2.1 = 0
  | .loop st => ∃ r, w.heap[e.1]? = some (.loop r) ∧ LRel st r

/-- What of a loop's record never turns. -/
def stillL (r : Loop) : Loop := { r with state := .ready, pending := none }
def loopAt (w : World) (b : Nat) : Option Loop :=
  match w.heap[b]? with
  | some (.loop r) => some (stillL r)
  | _ => none

structure HRel (ι : Emb) (h : AHeap) (w : World) : Prop where
  len : ι.length = h.length
  obj : ∀ (i : Nat) (o : AObj) (e : Nat × Nat × Nat), h[i]? = some o → ι[i]? = some e → ORel ι w e o
  sep : ∀ (i j : Nat) (o o' : AObj) (e e' : Nat × Nat × Nat), h[i]? = some o → h[j]? = some o' → ι[i]? = some e → ι[j]? = some e' → o.excl = true → o'.live = true → i ≠ j → e.1 ≠ e'.1

def Own (h : AHeap) (ι : Emb) (b : Nat) : Prop := ∃ (i : Nat) (o : AObj) (e : Nat × Nat × Nat), h[i]? = some o ∧ o.excl = true ∧ ι[i]? = some e ∧ e.1 = b

structure Step (h : AHeap) (ι : Emb) (w : World) (h' : AHeap) (ι' : Emb) (w' : World) : Prop where
  os : w'.os = w.os
  tape : w'.tape = w.tape
  output : w'.output = w.output
  size : w.heap.size ≤ w'.heap.size
  same : ∀ b, b < w.heap.size → ¬ Own h ι b → w'.heap[b]? = w.heap[b]?
  own : ∀ b, Own h' ι' b → Own h ι b ∨ w.heap.size ≤ b
  loops : ∀ b r, loopAt w b = some r → loopAt w' b = some r

theorem Step.refl (h : AHeap) (ι : Emb) (w : World) : Step h ι w h ι w := ⟨rfl, rfl, rfl, Nat.le_refl _, fun _ _ _ => rfl, fun _ h => .inl h, fun _ _ h => h⟩
theorem loopAt_lt {w : World} {b : Nat} {r : Loop} (h : loopAt w b = some r) : b < w.heap.size := by
  unfold loopAt at h
  split at h
  · rename_i hb; exact (Array.getElem?_eq_some_iff.1 hb).1
  · cases h
theorem loopAt_same {w w' : World} {b : Nat} (h : w'.heap[b]? = w.heap[b]?) : loopAt w' b = loopAt w b := by unfold loopAt; rw [h]
/-- Only blocks that are no loops are written. -/
theorem loops_of {w w' : World} {k : Nat} (hk : loopAt w k = none) (hb : ∀ b, b < w.heap.size → b ≠ k → w'.heap[b]? = w.heap[b]?) : ∀ b r, loopAt w b = some r → loopAt w' b = some r := fun b r h => by
  rw [loopAt_same (hb b (loopAt_lt h) (fun e => by subst e; rw [hk] at h; cases h))]
  exact h
theorem loops_all {w w' : World} (hb : ∀ b, b < w.heap.size → w'.heap[b]? = w.heap[b]?) : ∀ b r, loopAt w b = some r → loopAt w' b = some r := fun b r h => by
  rw [loopAt_same (hb b (loopAt_lt h))]
  exact h
theorem Step.trans {h h' h'' : AHeap} {ι ι' ι'' : Emb} {w w' w'' : World} (a : Step h ι w h' ι' w') (b : Step h' ι' w' h'' ι'' w'') : Step h ι w h'' ι'' w'' where
  os := b.os.trans a.os
  tape := b.tape.trans a.tape
  output := b.output.trans a.output
  size := Nat.le_trans a.size b.size
  same := fun k hk hn => by
    rw [b.same k (Nat.lt_of_lt_of_le hk a.size) (fun ho => (a.own k ho).elim hn (fun hl => absurd hk (by omega))), a.same k hk hn]
  own := fun k hk => (b.own k hk).elim (a.own k) (fun hl => .inr (Nat.le_trans a.size hl))
  loops := fun k r h => b.loops k r (a.loops k r h)

def Agree (n : Nat) (ι ι' : Emb) : Prop := ∀ i : Nat, i < n → ι'[i]? = ι[i]?
theorem Agree.refl (n : Nat) (ι : Emb) : Agree n ι ι := fun _ _ => rfl
theorem Agree.trans {n : Nat} {a b c : Emb} (h : Agree n a b) (k : Agree n b c) : Agree n a c := fun i hi => (k i hi).trans (h i hi)
theorem Agree.less {n m : Nat} {a b : Emb} (h : Agree n a b) (hm : m ≤ n) : Agree m a b := fun i hi => h i (Nat.lt_of_lt_of_le hi hm)
theorem Agree.mono {n : Nat} {a b : Emb} (h : Agree n a b) (hn : a.length ≤ n)   : ∀ (i : Nat) (e : Nat × Nat × Nat), a[i]? = some e → b[i]? = some e := fun i e he => by
  have : i < a.length := by
    rcases Nat.lt_or_ge i a.length with h' | h'
    · exact h'
    · simp [List.getElem?_eq_none h'] at he
  rw [h i (by omega)]; exact he

theorem ORel.block_lt {ι : Emb} {w : World} {e : Nat × Nat × Nat} {o : AObj} (h : ORel ι w e o) (hl : o.live = true) : e.1 < w.heap.size := by
  have key : ∀ x, w.heap[e.1]? = some x → e.1 < w.heap.size := fun x hx => (Array.getElem?_eq_some_iff.1 hx).1
  cases o with
  | dead => simp [AObj.live] at hl
  | cells vs => obtain ⟨c, t, h1, _⟩ := h; exact key _ h1
  | ro vs => obtain ⟨c, t, fz, h1, _⟩ := h; exact key _ h1
  | iter l p => exact key _ h.1
  | loop st => obtain ⟨r, h1, _⟩ := h; exact key _ h1

theorem RowRel.mono {ι ι' : Emb} {e : Nat × Nat × Nat} {vs : List AV} {c : Array Value} (hm : ∀ (i : Nat) (e : Nat × Nat × Nat), ι[i]? = some e → ι'[i]? = some e) (h : RowRel ι e vs c) : RowRel ι' e vs c :=
  ⟨h.1, h.2.1, fun j v hv => let ⟨x, hx, hr⟩ := h.2.2 j v hv; ⟨x, hx, hr.mono hm⟩⟩

theorem ORel.mono {ι ι' : Emb} {w w' : World} {e : Nat × Nat × Nat} {o : AObj} (hm : ∀ (i : Nat) (e : Nat × Nat × Nat), ι[i]? = some e → ι'[i]? = some e) (hb : o.live = true → w'.heap[e.1]? = w.heap[e.1]?) (h : ORel ι w e o) : ORel ι' w' e o := by
  cases o with
  | dead => trivial
  | cells vs => obtain ⟨c, t, h1, h2⟩ := h; exact ⟨c, t, by rw [hb rfl]; exact h1, h2.mono hm⟩
  | ro vs => obtain ⟨c, t, fz, h1, h2⟩ := h; exact ⟨c, t, fz, by rw [hb rfl]; exact h1, h2.mono hm⟩
  | iter l p => exact ⟨by rw [hb rfl]; exact h.1, h.2⟩
  | loop st => obtain ⟨r, h1, h2⟩ := h; exact ⟨r, by rw [hb rfl]; exact h1, h2⟩

theorem HRel.emb {ι : Emb} {h : AHeap} {w : World} (H : HRel ι h w) {i : Nat} {o : AObj} (hi : h[i]? = some o) : ∃ e, ι[i]? = some e := by
  have : i < h.length := by
    rcases Nat.lt_or_ge i h.length with h' | h'
    · exact h'
    · simp [List.getElem?_eq_none h'] at hi
  exact ⟨ι[i]'(by rw [H.len]; exact this), List.getElem?_eq_getElem _⟩

theorem HRel.nil (w : World) : HRel [] [] w := ⟨rfl, fun i o e h _ => by simp at h, fun i j o o' e e' h _ _ _ _ _ _ => by simp at h⟩

/-- A world that has the same blocks. -/
theorem HRel.world {ι : Emb} {h : AHeap} {w w' : World} (H : HRel ι h w) (hb : ∀ b, b < w.heap.size → w'.heap[b]? = w.heap[b]?) : HRel ι h w' :=
  ⟨H.len, fun i o e hi he => (H.obj i o e hi he).mono (fun _ _ h => h) (fun hl => hb _ ((H.obj i o e hi he).block_lt hl)), H.sep⟩

theorem Own.nil {ι : Emb} {b : Nat} : ¬ Own [] ι b := fun ⟨i, o, e, h, _⟩ => by simp at h

/-- A world that has the same blocks and more: a step that leaves abstract memory as it is. -/
theorem Step.below {h : AHeap} {ι : Emb} {w w' : World} (hb : Go.RowKit.Below w.heap.size w w') : Step h ι w h ι w' :=
  ⟨hb.os, hb.tape, hb.output, hb.size, fun b hlt _ => hb.block b hlt, fun _ h => .inl h, loops_all hb.block⟩

theorem Step.to_below {h h' : AHeap} {ι ι' : Emb} {w w' : World} (s : Step h ι w h' ι' w') (hn : ∀ b, ¬ Own h ι b) : Go.RowKit.Below w.heap.size w w' :=
  ⟨s.os, s.tape, s.output, s.size, fun b hb => s.same b hb (hn b)⟩

/-! ### A new block -/

theorem alloc_rel {ι : Emb} {h : AHeap} {w : World} (H : HRel ι h w) (ob : Obj) (o : AObj) (e : Nat × Nat × Nat) (he : e.1 = w.heap.size)
    (ho : ORel (ι ++ [e]) { w with heap := w.heap.push ob } e o) :
    HRel (ι ++ [e]) (h ++ [o]) { w with heap := w.heap.push ob } ∧ Step h ι w (h ++ [o]) (ι ++ [e]) { w with heap := w.heap.push ob } ∧ Agree h.length ι (ι ++ [e]) := by
  have hold : ∀ b, b < w.heap.size → (w.heap.push ob)[b]? = w.heap[b]? := fun b hb => by rw [Array.getElem?_push, if_neg (by omega)]
  have hm : ∀ (i : Nat) (e' : Nat × Nat × Nat), ι[i]? = some e' → (ι ++ [e])[i]? = some e' := fun i e' hi => by
    have : i < ι.length := by
      rcases Nat.lt_or_ge i ι.length with h' | h'
      · exact h'
      · simp [List.getElem?_eq_none h'] at hi
    rw [List.getElem?_append_left this]; exact hi
  have split : ∀ (i : Nat) (o' : AObj) (e' : Nat × Nat × Nat), (h ++ [o])[i]? = some o' → (ι ++ [e])[i]? = some e' → (i < h.length ∧ h[i]? = some o' ∧ ι[i]? = some e') ∨ (i = h.length ∧ o' = o ∧ e' = e) := fun i o' e' h1 h2 => by
    rcases Nat.lt_trichotomy i h.length with h' | h' | h'
    · rw [List.getElem?_append_left h'] at h1
      rw [List.getElem?_append_left (by rw [H.len]; exact h')] at h2
      exact .inl ⟨h', h1, h2⟩
    · subst h'
      rw [List.getElem?_append_right (Nat.le_refl _)] at h1
      rw [List.getElem?_append_right (by rw [H.len]; exact Nat.le_refl _), H.len] at h2
      simp at h1 h2
      exact .inr ⟨rfl, h1.symm, h2.symm⟩
    · rw [List.getElem?_eq_none (by simp; omega)] at h1
      simp at h1
  refine ⟨⟨by simp [H.len], fun i o' e' h1 h2 => ?_, fun i j o1 o2 e1 e2 h1 h2 k1 k2 hx hl hne => ?_⟩, ⟨rfl, rfl, rfl, by simp, fun b hb _ => hold b hb, fun b hb => ?_, loops_all hold⟩, fun i hi => by rw [List.getElem?_append_left (by rw [H.len]; exact hi)]⟩
  · rcases split i o' e' h1 h2 with ⟨_, a, b⟩ | ⟨rfl, rfl, rfl⟩
    · exact (H.obj i o' e' a b).mono hm (fun hl => hold _ ((H.obj i o' e' a b).block_lt hl))
    · exact ho
  · rcases split i o1 e1 h1 k1 with ⟨_, a1, b1⟩ | ⟨rfl, rfl, rfl⟩ <;> rcases split j o2 e2 h2 k2 with ⟨_, a2, b2⟩ | ⟨rfl, rfl, rfl⟩
    · exact H.sep i j o1 o2 e1 e2 a1 a2 b1 b2 hx hl hne
    · have := (H.obj i o1 e1 a1 b1).block_lt (by cases o1 <;> simp_all [AObj.excl, AObj.live])
      omega
    · have := (H.obj j o2 e2 a2 b2).block_lt hl
      omega
    · exact absurd rfl hne
  · obtain ⟨i, o', e', h1, hx, h2, rfl⟩ := hb
    rcases split i o' e' h1 h2 with ⟨_, a, b⟩ | ⟨rfl, rfl, rfl⟩
    · exact .inl ⟨i, o', e', a, hx, b, rfl⟩
    · exact .inr (by omega)

/-- A new row of cells. -/
theorem newRow_rel {ι : Emb} {h : AHeap} {w : World} (H : HRel ι h w) {vs : List AV} {c : Array Value} (t : TypeId) (hv : VRels ι vs c.toList) :
    HRel (ι ++ [(w.heap.size, 0, c.size)]) (h ++ [.cells vs]) { w with heap := w.heap.push (.cells c t) } ∧
    Step h ι w (h ++ [.cells vs]) (ι ++ [(w.heap.size, 0, c.size)]) { w with heap := w.heap.push (.cells c t) } ∧ Agree h.length ι (ι ++ [(w.heap.size, 0, c.size)]) := by
  refine alloc_rel H _ _ _ rfl ⟨c, t, by simp, rfl, by have := hv.length; simp at this; simp [this], fun j v hj => ?_⟩
  obtain ⟨x, hx, hr⟩ := hv.get j v hj
  refine ⟨x, by simpa using hx, hr.mono fun i e hi => ?_⟩
  have : i < ι.length := by
    rcases Nat.lt_or_ge i ι.length with h' | h'
    · exact h'
    · simp [List.getElem?_eq_none h'] at hi
  rw [List.getElem?_append_left this]; exact hi

theorem Emb.last {ι : Emb} {h : AHeap} {w : World} (H : HRel ι h w) (e : Nat × Nat × Nat) : (ι ++ [e])[h.length]? = some e := by
  rw [List.getElem?_append_right (by rw [H.len]; exact Nat.le_refl _), H.len]; simp

end Go.Ax

namespace Go.Ax
set_option linter.unusedVariables false
set_option linter.unusedSimpArgs false

/-- A constant's cell. -/
def ofV0 : Value → AV
  | .bool b => .bool b
  | .int k n => .int k n
  | .string s => .str s.data.toList
  | .pointer none => .nilptr
  | .slice none 0 0 => .nilslice
  | .nilFunc => .nilFunc
  | .tuple ⟨[]⟩ => .tuple []
  | _ => .junk

def ofV : Value → AV
  | .agg c => .agg (c.toList.map ofV0)
  | v => ofV0 v

def opd : Operand → AOpd
  | .tmp t => .t t
  | .const v => .c (ofV v)
  | .global _ => .c .junk
  | .func f => .c (.func (.func f) [] [])

/-- The kinds of a type's cells, where all are plain: what `==` between two of it looks at. -/
def tile (kf : TypeId → Option (List CK)) (P : Program) : List Field → Nat → Option (List CK)
  | [], _ => some []
  | f :: fs, off =>
    if f.name = "_" ∨ f.offset ≠ off then none else
    match kf f.type, P.info? f.type with
    | some ks, some i => if i.size = ks.length then match tile kf P fs (off + ks.length) with
      | some r => some (ks ++ r)
      | none => none
      else none
    | _, _ => none

def kindsOf (P : Program) : Nat → TypeId → Option (List CK)
  | 0, _ => none
  | d + 1, t => match P.underlying t with
    | some .bool => some [.bool]
    | some (.int k) => some [.int k]
    | some .string => some [.str]
    | some (.struct fs) => if P.stoodInHeld t = true then none else tile (kindsOf P d) P fs.toList 0
    | _ => none

def eqKind (P : Program) (op : BinOp) (t : TypeId) : EqK :=
  match op with
  | .eql | .neq => match P.underlying t with
    | some .bool => .bool
    | some (.pointer _) => .ptr
    | some (.func ..) => .func
    | some (.slice _) => .slice
    | some (.struct _) => if P.eqGuardType P.depth t = true then .none else match kindsOf P 20 t with
      | some ks => .agg ks
      | none => .none
    | _ => .none
  | _ => .none

def sizeA (P : Program) (t : TypeId) : Option Nat := (P.info? t).map (·.size)

def aggA (P : Program) (t : TypeId) : Option Bool :=
  match P.underlying t with
  | some (.struct _) | some (.array _ _) => some true
  | some _ => some false
  | none => none

def partsA (f : Nat → Option (Nat × Nat)) : List (Nat × Operand) → Option (List (Nat × Nat × AOpd))
  | [] => some []
  | (i, x) :: l => match f i, partsA f l with
    | some (off, size), some r => some ((off, size, opd x) :: r)
    | _, _ => none

def placeA (P : Program) (fs : Array Field) (i : Nat) : Option (Nat × Nat) :=
  match fs[i]? with
  | some f => (sizeA P f.type).map fun n => (f.offset, n)
  | none => none

def zeroA (P : Program) (t : TypeId) : Option (List AV) :=
  match P.info? t with
  | some i => match i.zero with
    | some z => some (z.cells.toList.map ofV0)
    | none => none
  | none => none

def elemA (P : Program) (t : TypeId) : Option TypeId :=
  match P.underlying t with
  | some (.slice e) => some e
  | _ => none

def compCall (P : Program) (c : Call) : Option AOp :=
  match c.callee with
  | .value f => some (.call (opd f) (c.args.toList.map opd))
  | .builtin .len => match c.args.toList, c.argTypes.toList with
    | [x], [t] => match P.underlying t with
      | some .string => some (.lenS (opd x))
      | some (.slice _) => some (.len (opd x))
      | _ => none
    | _, _ => none
  | .builtin .append => match c.args.toList, c.argTypes.toList with
    | [x, y], [t, u] => match elemA P t, P.underlying u with
      | some e, some d => match P.info? e, d with
        | some i, .slice _ => if i.zero.any (fun z => z.cells.size == i.size) = true ∧ i.bytes ≠ 0 then some (.append i.size i.bytes (opd x) (opd y)) else none
        | some i, .string => if i.zero.any (fun z => z.cells.size == i.size) = true ∧ i.bytes ≠ 0 then some (.append i.size i.bytes (opd x) (opd y)) else none
        | _, _ => none
      | _, _ => none
    | _, _ => none
  | .builtin .min => match c.args.toList with
    | [x, y] => some (.min (opd x) (opd y))
    | _ => none
  | .builtin .max => match c.args.toList with
    | [x, y] => some (.max (opd x) (opd y))
    | _ => none
  | _ => none

def compOp (P : Program) (o : Oper) : Option AOp :=
  match o.op with
  | .move x | .assign x => some (.mov (opd x))
  | .pick c a b => some (.pick (opd c) (opd a) (opd b))
  | .alloc t => (zeroA P t).map .new
  | .box _ x => some (.box (opd x))
  | .build t parts => match P.underlying t, zeroA P t with
    | some (.struct fs), some z =>
      if fs.all (fun f => (P.info? f.type).isSome) then
        (partsA (placeA P fs) parts.toList).map (.build z)
      else none
    | _, _ => none
  | .buildSlice t len parts => match elemA P t with
    | some e => match sizeA P e, zeroA P e with
      | some n, some _ => if len * n ≤ 16777216 then (partsA (fun i => some (i * n, n)) parts.toList).map (.buildSlice n len (List.replicate (len * n) .junk)) else none
      | _, _ => none
    | none => none
  | .load t a => match aggA P t, sizeA P t with
    | some true, some n => some (.loadN n (opd a))
    | some false, _ => some (.load1 (opd a))
    | _, _ => none
  | .store t a v => (sizeA P t).map fun n => .store n (opd a) (opd v)
  | .nilCheck x => some (.nilCheck (opd x))
  | .binOp op t x y _ => some (.bin op (eqKind P op t) (opd x) (opd y))
  | .unOp op _ x => match op with
    | .not => some (.not (opd x))
    | _ => none
  | .convert src dst x => match P.underlying src, P.underlying dst with
    | some (.int _), some (.int k) => some (.conv k (opd x))
    | some (.slice e), some .string => match P.underlying e with
      | some (.int .u8) => some (.b2s (opd x))
      | _ => none
    | some (.int _), some .string => some (.i2s (opd x))
    | _, _ => none
  | .makeFunc fn first captured => some (.mkfunc fn (first.toList.map opd) (captured.toList.map opd))
  | .makeSlice t l c => match elemA P t with
    | some e => match P.info? e, zeroA P e with
      | some i, some z => if z.length = i.size then some (.mkslice i.size i.bytes z (opd l) (opd c)) else none
      | _, _ => none
    | none => none
  | .slice t x lo hi mx => match P.underlying t with
    | some .string => if mx.isNone then some (.substr (opd x) (lo.map opd) (hi.map opd)) else none
    | some (.slice e) => match sizeA P e with
      | some n => if mx.isSome ∧ hi.isNone then none else some (.subslice n (opd x) (lo.map opd) (hi.map opd) (mx.map opd))
      | none => none
    | _ => none
  | .fieldAddr s x f => match P.underlying s with
    | some (.struct fs) => match fs[f]? with
      | some f => match sizeA P f.type with
        | some (_ + 1) => some (.fieldAddr f.offset (opd x))
        | _ => none
      | none => none
    | _ => none
  | .field s x f => match P.underlying s with
    | some (.struct fs) => match fs[f]? with
      | some f => match aggA P f.type, sizeA P f.type with
        | some true, some n => some (.fieldN f.offset n (opd x))
        | some false, _ => some (.field1 f.offset (opd x))
        | _, _ => none
      | none => none
    | _ => none
  | .indexAddr t x i => match elemA P t with
    | some e => (sizeA P e).map fun n => .indexAddr n (opd x) (opd i)
    | none => none
  | .index t x i => match P.underlying t with
    | some .string => some (.indexStr (opd x) (opd i))
    | _ => none
  | .range t x => match P.underlying t with
    | some .string => some (.range (opd x))
    | _ => none
  | .next x b => if b then some (.next (opd x)) else none
  | .extract x i => some (.extract (opd x) i)
  | .call c => compCall P c
  | _ => none

/-! ## Code -/

def compI (P : Program) (ops : Array Oper) (o : Oper) : Option AI :=
  match compOp P o with
  | none => none
  | some op => match o.guard with
    | none => some ⟨o.dst, op, none, []⟩
    | some (j, want) => match (ops[j]?).bind (·.dst) with
      | some d => some ⟨o.dst, op, some (d, want), []⟩
      | none => none

def compIs (P : Program) (ops : Array Oper) : List Oper → Option (List AI)
  | [] => some []
  | o :: l => match compI P ops o, compIs P ops l with
    | some i, some r => some (i :: r)
    | _, _ => none

/-- What an operation waits for. -/
def waits (o : Oper) : List Nat := (o.after.toList.filter (Region.binds .any)).map (·.on)

/-- From which operation on each waits for all before it. -/
def drawK (tbl : List Nat) (n : Nat) : Nat :=
  ((List.range (n + 1)).find? fun k => (List.range n).all fun j => decide (j < k) || (List.range j).all fun i => (tbl.getD j 0).testBit i).getD n

def nodupB : List Nat → Bool
  | [] => true
  | x :: l => !l.contains x && nodupB l

def drawOk (ops : Array Oper) (l : List AI) (tbl : List Nat) (k : Nat) : Bool :=
  (ops.toList.zipIdx.all fun (o, j) => (waits o).all (· < j)) && nodupB ((l.take k).filterMap (·.dst)) && decide (k ≤ l.length) &&
    ((List.range l.length).all fun j => decide (j < k) || (List.range j).all fun i => (tbl.getD j 0).testBit i)

def compDraw (ops : Array Oper) (l : List AI) : AC :=
  let tbl := cloT (ops.toList.map waits) []
  let k := drawK tbl l.length
  if drawOk ops l tbl k then .draw l tbl k else .fail

/-- Code compiled; `s`: advice for each region and loop, in the order of the text. What does not compile fails where it is met. -/
def compC (P : Program) : Code → List Adv → AC × List Adv
  | .skip, s => (.skip, s)
  | .region _ ops draw, s => match compIs P ops ops.toList with
    | none => (.fail, s.tail)
    | some l => if draw then (if Region.lexB .any ops && l.all (·.op.still) then (.quiet (withDead (s.headD default).dead l), s.tail) else (compDraw ops (withDead (s.headD default).dead l), s.tail)) else (.ops (withDead (s.headD default).dead l), s.tail)
  | .rangeFunc g ps a b, s => (.rangeFunc (s.headD default).id (opd g) ps.toList (compC P a s.tail).1 (compC P b (compC P a s.tail).2).1, (compC P b (compC P a s.tail).2).2)
  | .seq a b, s => (.seq (compC P a s).1 (compC P b (compC P a s).2).1, (compC P b (compC P a s).2).2)
  | .cond c a b, s => (.cond (opd c) (compC P a s).1 (compC P b (compC P a s).2).1, (compC P b (compC P a s).2).2)
  | .block id a, s => (.block id (compC P a s).1, (compC P a s).2)
  | .loop a, s => (.loop (s.headD default).id (s.headD default).live (s.headD default).out (compC P a s.tail).1, (compC P a s.tail).2)
  | .exit id, s => (.exit id, s)
  | .ret, s => (.ret, s)
  | _, s => (.fail, s)

def compRes (P : Program) : List ResultVar → Option (List ARes)
  | [] => some []
  | .tmp t :: l => match compRes P l with
    | some r => some (.tmp t :: r)
    | none => none
  | .cell a t :: l => match aggA P t, sizeA P t, compRes P l with
    | some true, some n, some r => some (.cellN a n :: r)
    | some false, _, some r => some (.cell1 a :: r)
    | _, _, _ => none

def compF (P : Program) (fn : Func) (s : List Adv) : Option AFn :=
  match fn.body, compRes P fn.results.toList with
  | some c, some r => if fn.name == "runtime.NumGoroutine" then none else some ⟨(compC P c s).1, fn.ntmps, r⟩
  | _, _ => none

end Go.Ax
