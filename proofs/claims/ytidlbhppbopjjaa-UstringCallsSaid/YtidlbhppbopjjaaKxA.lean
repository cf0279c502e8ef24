/-
A second machine over the abstract one: the same steps, with what comes behind handed on as a function, so that the kernel's own evaluation of a run with open numbers and strings ends in a tree of tests; memory with rows of plain cells whose number is open.
The second machine's operations are the abstract one's.
The second machine's operations are the abstract one's (2).
-/
import Derived.Test.YtidlbhppbopjjaaAxD
namespace Go.Ax
set_option linter.unusedVariables false

/-- A row of plain cells of these kinds. -/
abbrev Row : List CK → Type
  | [] => Unit
  | .bool :: cs => Bool × Row cs
  | .int _ :: cs => Int × Row cs
  | .str :: cs => List UInt8 × Row cs

/-- Values. `rptr i r j es`: cell j of row r of a block of rows. -/
inductive KV where
  | junk
  | bool (b : Bool)
  | int (k : IntKind) (n : Int)
  | str (l : List UInt8)
  | nilptr
  | ptr (i o : Nat)
  | rptr (i r j es : Nat)
  | nilslice
  | slice (i o len es : Nat)
  | rslice (i r len es : Nat)
  | func (fn : Fn) (first captured : List KV)
  | nilFunc
  | yld (i : Nat)
  | agg (cells : List KV)
  | tuple (vs : List KV)
  deriving Inhabited

abbrev KV.undef : KV := .tuple []

inductive KObj where
  | dead
  | cells (vs : List KV)
  | ro (vs : List KV)
  | iter (l : List UInt8) (pos : Nat)
  | recs (ro : Bool) (cs : List CK) (l : List (Row cs))
  | loop (st : LSt)

instance : Inhabited KObj := ⟨.dead⟩

abbrev KHeap := List KObj

mutual
def erv : KV → AV
  | .junk => .junk
  | .bool b => .bool b
  | .int k n => .int k n
  | .str l => .str l
  | .nilptr => .nilptr
  | .ptr i o => .ptr i o
  | .rptr i r j es => .ptr i (r * es + j)
  | .nilslice => .nilslice
  | .slice i o n es => .slice i o n es
  | .rslice i r n es => .slice i (r * es) n es
  | .func fn a b => .func fn (ers a) (ers b)
  | .nilFunc => .nilFunc
  | .yld i => .yld i
  | .agg l => .agg (ers l)
  | .tuple l => .tuple (ers l)
def ers : List KV → List AV
  | [] => []
  | v :: l => erv v :: ers l
end

mutual
def inj : AV → KV
  | .junk => .junk
  | .bool b => .bool b
  | .int k n => .int k n
  | .str l => .str l
  | .nilptr => .nilptr
  | .ptr i o => .ptr i o
  | .nilslice => .nilslice
  | .slice i o n es => .slice i o n es
  | .func fn a b => .func fn (injs a) (injs b)
  | .nilFunc => .nilFunc
  | .yld i => .yld i
  | .agg l => .agg (injs l)
  | .tuple l => .tuple (injs l)
def injs : List AV → List KV
  | [] => []
  | v :: l => inj v :: injs l
end

def rowKV : (cs : List CK) → Row cs → List KV
  | [], _ => []
  | .bool :: cs, r => .bool r.1 :: rowKV cs r.2
  | .int k :: cs, r => .int k r.1 :: rowKV cs r.2
  | .str :: cs, r => .str r.1 :: rowKV cs r.2

def rowAV : (cs : List CK) → Row cs → List AV
  | [], _ => []
  | .bool :: cs, r => .bool r.1 :: rowAV cs r.2
  | .int k :: cs, r => .int k r.1 :: rowAV cs r.2
  | .str :: cs, r => .str r.1 :: rowAV cs r.2

def flat (cs : List CK) (l : List (Row cs)) : List AV := l.flatMap (rowAV cs)

def ero : KObj → AObj
  | .dead => .dead
  | .cells vs => .cells (ers vs)
  | .ro vs => .ro (ers vs)
  | .iter l p => .iter l p
  | .recs false cs l => .cells (flat cs l)
  | .recs true cs l => .ro (flat cs l)
  | .loop st => .loop st

abbrev erh (h : KHeap) : AHeap := h.map ero

/-! ### Tests -/

section
variable {α β : Type}
def selK (c : Bool) (a b : Option β) : Option β :=
  match c with
  | true => a
  | false => b
def optK (o : Option α) (k : α → Option β) : Option β :=
  match o with
  | some a => k a
  | none => none
def boolK (v : KV) (k : KV → Option β) : Option β :=
  match v with
  | .bool b => selK b (k (.bool true)) (k (.bool false))
  | v => k v
end

/-! Values and lists, brought to their form at once (the kernel would carry them on as they were asked for). -/
section
variable {α β : Type}
def valK (v : KV) (k : KV → Option β) : Option β :=
  match v with
  | .junk => k .junk
  | .bool b => k (.bool b)
  | .int kd n => k (.int kd n)
  | .str l => k (.str l)
  | .nilptr => k .nilptr
  | .ptr i o => k (.ptr i o)
  | .rptr i r j es => k (.rptr i r j es)
  | .nilslice => k .nilslice
  | .slice i o n es => k (.slice i o n es)
  | .rslice i r n es => k (.rslice i r n es)
  | .func f a b => k (.func f a b)
  | .nilFunc => k .nilFunc
  | .yld i => k (.yld i)
  | .agg l => k (.agg l)
  | .tuple l => k (.tuple l)
noncomputable def forceC (l : List α) : (List α → Option β) → Option β :=
  List.rec (motive := fun _ => (List α → Option β) → Option β) (fun k => k []) (fun x _ ih k => ih fun l => k (x :: l)) l
noncomputable def forceVs (l : List KV) : (List KV → Option β) → Option β :=
  List.rec (motive := fun _ => (List KV → Option β) → Option β) (fun k => k []) (fun v _ ih k => valK v fun v => ih fun l => k (v :: l)) l
noncomputable def objK (o : KObj) (k : KObj → Option β) : Option β :=
  match o with
  | .dead => k .dead
  | .cells vs => forceVs vs fun vs => k (.cells vs)
  | .ro vs => forceVs vs fun vs => k (.ro vs)
  | .iter l p => k (.iter l p)
  | .recs b cs l => k (.recs b cs l)
  | .loop st => k (.loop st)
noncomputable def forceH (h : KHeap) : (KHeap → Option β) → Option β :=
  List.rec (motive := fun _ => (KHeap → Option β) → Option β) (fun k => k []) (fun o _ ih k => objK o fun o => ih fun l => k (o :: l)) h
theorem valK_eq (v : KV) (k : KV → Option β) : valK v k = k v := by cases v <;> rfl
theorem forceC_eq : ∀ (l : List α) (k : List α → Option β), forceC l k = k l
  | [], k => rfl
  | x :: l, k => forceC_eq l fun l => k (x :: l)
theorem forceVs_eq : ∀ (l : List KV) (k : List KV → Option β), forceVs l k = k l
  | [], k => rfl
  | v :: l, k => (valK_eq v fun v => forceVs l fun l => k (v :: l)).trans (forceVs_eq l fun l => k (v :: l))
theorem objK_eq (o : KObj) (k : KObj → Option β) : objK o k = k o := by cases o <;> simp [objK, forceVs_eq]
theorem forceH_eq : ∀ (l : KHeap) (k : KHeap → Option β), forceH l k = k l
  | [], k => rfl
  | o :: l, k => (objK_eq o fun o => forceH l fun l => k (o :: l)).trans (forceH_eq l fun l => k (o :: l))
/-- A list with another value at a place. -/
noncomputable def setK (v : α) (l : List α) : Nat → (List α → Option β) → Option β :=
  List.rec (motive := fun _ => Nat → (List α → Option β) → Option β) (fun _ k => k [])
    (fun x xs ih n k => Nat.rec (motive := fun _ => Option β) (k (v :: xs)) (fun m _ => ih m fun l => k (x :: l)) n) l
theorem setK_eq (v : α) : ∀ (l : List α) (n : Nat) (k : List α → Option β), setK v l n k = k (l.set n v)
  | [], n, k => rfl
  | x :: l, 0, k => rfl
  | x :: l, n + 1, k => setK_eq v l n fun l => k (x :: l)
noncomputable def pushK (h : KHeap) (o : KObj) (k : KHeap → Option β) : Option β := forceC (h ++ [o]) k
noncomputable def setHK (h : KHeap) (i : Nat) (o : KObj) (k : KHeap → Option β) : Option β := setK o h i k
theorem pushK_eq (h : KHeap) (o : KObj) (k : KHeap → Option β) : pushK h o k = k (h ++ [o]) := forceC_eq _ _
theorem setHK_eq (h : KHeap) (i : Nat) (o : KObj) (k : KHeap → Option β) : setHK h i o k = k (h.set i o) := setK_eq _ _ _ _
end

def ltI (a b : Int) : Bool := decide (a < b)
def leI (a b : Int) : Bool := decide (a ≤ b)
def eqI (a b : Int) : Bool := a == b
def eqS (a b : List UInt8) : Bool := a == b
def eqB (a b : Bool) : Bool := a == b
/-- An index below a length. -/
def inR (j : Int) (n : Nat) : Bool := decide (0 ≤ j ∧ j < (n : Int))
/-- A bound up to a length. -/
def inB (j : Int) (n : Nat) : Bool := decide (0 ≤ j ∧ j ≤ (n : Int))
def capOk (n bytes : Nat) : Bool := decide ((4 * n + 1000) * bytes ≤ 281474976710656)
def fitS (a b : List UInt8) : Bool := decide (((a.length + b.length : Nat) : Int) ≤ maxInt64)
def subS (s : List UInt8) (a b : Nat) : List UInt8 := (s.drop a).take (b - a)
def decC (s : List UInt8) (p : Nat) : Int := (Utf8.decode ⟨s.toArray⟩ p).1
def decW (s : List UInt8) (p : Nat) : Nat := (Utf8.decode ⟨s.toArray⟩ p).2
def encU (n : Int) : List UInt8 := (Utf8.encode n).data.toList
def minI (x y : Int) : Int := if y < x then y else x
def maxI (x y : Int) : Int := if x < y then y else x
def wr (k : IntKind) (n : Int) : Int := k.wrap n
def quoI (a b : Int) : Int := a.tdiv b
def remI (a b : Int) : Int := a.tmod b
def shlI (k : IntKind) (a b : Int) : Int := k.wrap (a * 2 ^ (Nat.min b.toNat k.bits))
def shrI (k : IntKind) (a b : Int) : Int := a.fdiv (2 ^ (Nat.min b.toNat k.bits))

/-! ### Operations -/

/-- A slot's value. -/
noncomputable def getK (l : List KV) : Nat → KV :=
  List.rec (motive := fun _ => Nat → KV) (fun _ => .junk) (fun x _ ih n => Nat.rec (motive := fun _ => KV) x (fun m _ => ih m) n) l
theorem getK_eq : ∀ (l : List KV) (n : Nat), getK l n = l.getD n .junk
  | [], n => by simp [getK]
  | x :: l, 0 => rfl
  | x :: l, n + 1 => (getK_eq l n).trans (by simp)

def injF (v : AV) : KV :=
  match v with
  | .bool b => .bool b
  | .int k n => .int k n
  | .str l => .str l
  | .func (.func f) [] [] => .func (.func f) [] []
  | v => inj v
theorem injF_eq (v : AV) : injF v = inj v := by
  unfold injF
  split <;> simp [inj, injs]

noncomputable def AOpd.evK (fr : List KV) : AOpd → KV
  | .t n => getK fr n
  | .c v => injF v

def subK (l : List KV) (o n : Nat) : Option (List KV) :=
  if o + n ≤ l.length then some ((l.drop o).take n) else none

def KV.cells : KV → Option (List KV)
  | .junk => none
  | .agg l => some l
  | v => some [v]

def KV.one : KV → Bool
  | .junk | .agg _ | .tuple _ => false
  | _ => true

def spliceK : List KV → Nat → List KV → List KV
  | l, 0, [] => l
  | [], _, _ => []
  | _ :: l, 0, x :: xs => x :: spliceK l 0 xs
  | y :: l, o + 1, xs => y :: spliceK l o xs

noncomputable def fillK (fr : List KV) : List KV → List (Nat × Nat × AOpd) → Option (List KV)
  | cells, [] => some cells
  | cells, (off, size, x) :: rest =>
    match (x.evK fr).cells with
    | none => none
    | some cs => if cs.length = size ∧ off + size ≤ cells.length then fillK fr (spliceK cells off cs) rest else none

/-- A row with cells from j on written over. -/
def rowSet : (cs : List CK) → Row cs → Nat → List KV → Option (Row cs)
  | _, r, 0, [] => some r
  | [], _, _, _ => none
  | .bool :: cs, r, 0, v :: vs => match v with
    | .bool b => (rowSet cs r.2 0 vs).map (b, ·)
    | _ => none
  | .int k :: cs, r, 0, v :: vs => match v with
    | .int k' n => if k' = k then (rowSet cs r.2 0 vs).map (n, ·) else none
    | _ => none
  | .str :: cs, r, 0, v :: vs => match v with
    | .str s => (rowSet cs r.2 0 vs).map (s, ·)
    | _ => none
  | .bool :: cs, r, j + 1, vs => (rowSet cs r.2 j vs).map (r.1, ·)
  | .int _ :: cs, r, j + 1, vs => (rowSet cs r.2 j vs).map (r.1, ·)
  | .str :: cs, r, j + 1, vs => (rowSet cs r.2 j vs).map (r.1, ·)

/-- A row out of cells, and the cells behind it. -/
def rowOf : (cs : List CK) → List KV → Option (Row cs × List KV)
  | [], vs => some ((), vs)
  | .bool :: cs, .bool b :: vs => (rowOf cs vs).map fun r => ((b, r.1), r.2)
  | .int k :: cs, .int k' n :: vs => if k' = k then (rowOf cs vs).map fun r => ((n, r.1), r.2) else none
  | .str :: cs, .str s :: vs => (rowOf cs vs).map fun r => ((s, r.1), r.2)
  | _, _ => none

/-- n rows out of cells. -/
def rowsOf (cs : List CK) : Nat → List KV → Option (List (Row cs))
  | 0, [] => some []
  | 0, _ :: _ => none
  | n + 1, vs => match rowOf cs vs with
    | some (r, vs) => (rowsOf cs n vs).map (r :: ·)
    | none => none

/-- The kinds of plain cells. -/
def kindsK : List KV → Option (List CK)
  | [] => some []
  | .bool _ :: l => (kindsK l).map (.bool :: ·)
  | .int k _ :: l => (kindsK l).map (.int k :: ·)
  | .str _ :: l => (kindsK l).map (.str :: ·)
  | _ :: _ => none

def bytesOfK : List KV → Option (List UInt8)
  | [] => some []
  | .int .u8 n :: l => (bytesOfK l).map (UInt8.ofNat n.toNat :: ·)
  | _ :: _ => none

def u8R (l : List UInt8) : List (Row [.int .u8]) := l.map fun b => ((b.toNat : Int), ())
def bytesR (l : List (Row [.int .u8])) : List UInt8 := l.map fun r => UInt8.ofNat r.1.toNat

def KV.other (i : Nat) : KV → Bool
  | .slice j _ _ _ => !(j == i)
  | .rslice j _ _ _ => !(j == i)
  | _ => true

section
variable {β : Type}

noncomputable def kBound (fr : List KV) (x : Option AOpd) (y d : Nat) (k : Nat → Option β) : Option β :=
  match x with
  | none => k d
  | some x => match x.evK fr with
    | .int _ n => selK (inB n y) (k n.toNat) none
    | _ => none

def kIntBin (op : BinOp) (kd : IntKind) (a b : Int) (k : KV → Option β) : Option β :=
  match op with
  | .add => k (.int kd (wr kd (a + b)))
  | .sub => k (.int kd (wr kd (a - b)))
  | .mul => k (.int kd (wr kd (a * b)))
  | .quo => selK (eqI b 0) none (k (.int kd (wr kd (quoI a b))))
  | .rem => selK (eqI b 0) none (k (.int kd (remI a b)))
  | .eql => k (.bool (eqI a b))
  | .neq => k (.bool (!eqI a b))
  | .lss => k (.bool (ltI a b))
  | .leq => k (.bool (leI a b))
  | .gtr => k (.bool (ltI b a))
  | .geq => k (.bool (leI b a))
  | .shl => selK (ltI b 0) none (k (.int kd (shlI kd a b)))
  | .shr => selK (ltI b 0) none (k (.int kd (shrI kd a b)))
  | op => k (.int kd (bitsA op kd a b))

def kStrBin (op : BinOp) (a b : List UInt8) (k : KV → Option β) : Option β :=
  match op with
  | .add => selK (fitS a b) (k (.str (a ++ b))) none
  | .eql => k (.bool (eqS a b))
  | .neq => k (.bool (!eqS a b))
  | .lss => k (.bool (bytesLt a b))
  | .leq => k (.bool (bytesLt a b || eqS a b))
  | .gtr => k (.bool (!(bytesLt a b || eqS a b)))
  | .geq => k (.bool (!bytesLt a b))
  | _ => none

def kEqCells : List CK → List KV → List KV → Option Bool
  | [], [], [] => some true
  | .bool :: ks, .bool a :: xs, .bool b :: ys => (kEqCells ks xs ys).map (eqB a b && ·)
  | .int k'' :: ks, .int k a :: xs, .int k' b :: ys => if k = k' ∧ k = k'' then (kEqCells ks xs ys).map (eqI a b && ·) else none
  | .str :: ks, .str a :: xs, .str b :: ys => (kEqCells ks xs ys).map (eqS a b && ·)
  | _, _, _ => none

def kEq : EqK → KV → KV → Option Bool
  | .bool, .bool a, .bool b => some (eqB a b)
  | .ptr, .nilptr, .nilptr => some true
  | .ptr, .nilptr, .ptr _ _ => some false
  | .ptr, .ptr _ _, .nilptr => some false
  | .ptr, .nilptr, .rptr _ _ _ _ => some false
  | .ptr, .rptr _ _ _ _, .nilptr => some false
  | .func, .nilFunc, .nilFunc => some true
  | .func, .nilFunc, .func _ _ _ => some false
  | .func, .func _ _ _, .nilFunc => some false
  | .slice, .nilslice, .nilslice => some true
  | .slice, .nilslice, .slice _ _ _ _ => some false
  | .slice, .slice _ _ _ _, .nilslice => some false
  | .slice, .nilslice, .rslice _ _ _ _ => some false
  | .slice, .rslice _ _ _ _, .nilslice => some false
  | .agg ks, .agg a, .agg b => kEqCells ks a b
  | _, _, _ => none

def kBin (op : BinOp) (ek : EqK) (x y : KV) (k : KV → Option β) : Option β :=
  match x, y with
  | .int kd a, .int kd' b => selK (decide (kd = kd') || isShift op) (kIntBin op kd a b k) none
  | .str a, .str b => kStrBin op a b k
  | x, y => match op with
    | .eql => optK (kEq ek x y) fun b => k (.bool b)
    | .neq => optK (kEq ek x y) fun b => k (.bool (!b))
    | _ => none

def rowK (h : KHeap) (i : Nat) (k : List KV → Option β) : Option β :=
  match h[i]? with
  | some (.cells vs) => k vs
  | some (.ro vs) => k vs
  | _ => none

/-- What is appended: cells, or rows. -/
noncomputable def srcK (h : KHeap) (es : Nat) (y : KV) (k0 : Option β) (kc : Nat → List KV → Option β) (kr : Nat → (cs : List CK) → List (Row cs) → Option β) : Option β :=
  match y with
  | .nilslice => k0
  | .slice i o n es' => selK (es' == es) (rowK h i fun vs => optK (subK vs o (n * es)) fun l => kc n l) none
  | .rslice i r n es' => match h[i]? with
    | some (.recs _ cs l) => selK (es' == es && es == cs.length && decide (r + n ≤ l.length)) (kr n cs ((l.drop r).take n)) none
    | _ => none
  | .str s => selK (es == 1) (kr s.length [.int .u8] (u8R s)) none
  | _ => none

/-- Rows where cells are: two lists of one kind. -/
def sameK {γ : Type} (cs ds : List CK) (l : List (Row ds)) (k : List (Row cs) → Option γ) : Option γ :=
  if e : ds = cs then k (e ▸ l) else none

noncomputable def newRows (h : KHeap) (n es : Nat) (cs : List CK) (l : List (Row cs)) (k : KV → KHeap → Option β) : Option β :=
  pushK h (.recs false cs l) (k (.rslice h.length 0 n es))

/-- `append`. -/
noncomputable def kAppend (h : KHeap) (es bytes : Nat) (x y : KV) (k : KV → KHeap → Option β) : Option β :=
  match x with
  | .nilslice => srcK h es y (selK (capOk 0 bytes) (k .nilslice h) none)
      (fun n ys => selK (capOk n bytes) (selK (n == 0) (k .nilslice h) (match kindsK (ys.take es) with
        | some cs => match rowsOf cs n ys with
          | some l => selK (es == cs.length) (newRows h n es cs l k) none
          | none => forceC ys fun ys => pushK h (.cells ys) (k (.slice h.length 0 n es))
        | none => forceC ys fun ys => pushK h (.cells ys) (k (.slice h.length 0 n es)))) none)
      (fun n cs l => selK (capOk n bytes) (selK (n == 0) (k .nilslice h) (newRows h n es cs l k)) none)
  | .slice i o m es' => srcK h es y (k (.slice i o m es') h)
      (fun n ys => selK (n == 0) (k (.slice i o m es') h) (match h[i]? with
        | some (.cells vs) => optK (subK vs o (m * es)) fun xs =>
          selK (es' == es && capOk (m + n) bytes && y.other i && ys.all KV.one) (forceC (xs ++ ys) fun zs => setHK h i .dead fun h' => pushK h' (.cells zs) (k (.slice h.length 0 (m + n) es))) none
        | _ => none))
      (fun n cs l => selK (n == 0) (k (.slice i o m es') h) (match h[i]? with
        | some (.cells vs) => optK (subK vs o (m * es)) fun xs => optK (rowsOf cs m xs) fun xl =>
          selK (es' == es && es == cs.length && capOk (m + n) bytes && y.other i) (setHK h i .dead fun h => newRows h (m + n) es cs (xl ++ l) k) none
        | _ => none))
  | .rslice i r m es' => srcK h es y (k (.rslice i r m es') h)
      (fun n ys => selK (n == 0) (k (.rslice i r m es') h) (match h[i]? with
        | some (.recs false cs xl) => optK (rowsOf cs n ys) fun l =>
          selK (es' == es && es == cs.length && decide (r + m ≤ xl.length) && capOk (m + n) bytes && y.other i) (setHK h i .dead fun h => newRows h (m + n) es cs ((xl.drop r).take m ++ l) k) none
        | _ => none))
      (fun n ds l => selK (n == 0) (k (.rslice i r m es') h) (match h[i]? with
        | some (.recs false cs xl) => sameK cs ds l fun l =>
          selK (es' == es && es == cs.length && decide (r + m ≤ xl.length) && capOk (m + n) bytes && y.other i) (setHK h i .dead fun h => newRows h (m + n) es cs ((xl.drop r).take m ++ l) k) none
        | _ => none))
  | _ => none

noncomputable def kOp (fr : List KV) (h : KHeap) (op : AOp) (k : KV → KHeap → Option β) : Option β :=
  match op with
  | .mov x => valK (x.evK fr) fun v => k v h
  | .pick c a b => match c.evK fr with
    | .bool t => selK t (valK (a.evK fr) fun v => k v h) (valK (b.evK fr) fun v => k v h)
    | _ => none
  | .new cells => forceVs (injs cells) fun cs => pushK h (.cells cs) (k (.ptr h.length 0))
  | .box x => optK (x.evK fr).cells fun cs => forceVs cs fun cs => pushK h (.cells cs) (k (.ptr h.length 0))
  | .build zero parts => optK (fillK fr (injs zero) parts) fun cs => forceVs cs fun cs => k (.agg cs) h
  | .buildSlice es len zero parts => optK (fillK fr (injs zero) parts) fun cs => forceVs cs fun cs => pushK h (.cells cs) (k (.slice h.length 0 len es))
  | .load1 a => match a.evK fr with
    | .ptr i o => rowK h i fun vs => optK vs[o]? fun v => k v h
    | .rptr i r j es => match h[i]? with
      | some (.recs _ cs l) => selK (es == cs.length) (optK l[r]? fun row => optK (rowKV cs row)[j]? fun v => k v h) none
      | _ => none
    | _ => none
  | .loadN n a => match a.evK fr with
    | .ptr i o => rowK h i fun vs => optK (subK vs o n) fun l => forceC l fun l => k (.agg l) h
    | .rptr i r j es => match h[i]? with
      | some (.recs _ cs l) => selK (es == cs.length) (optK l[r]? fun row => optK (subK (rowKV cs row) j n) fun l => forceC l fun l => k (.agg l) h) none
      | _ => none
    | _ => none
  | .store n a v => match a.evK fr with
    | .ptr i o => match h[i]? with
      | some (.cells vs) => optK (v.evK fr).cells fun cs => selK (cs.length == n && decide (o + n ≤ vs.length) && cs.all KV.one) (forceC (spliceK vs o cs) fun vs => setHK h i (.cells vs) (k .undef)) none
      | _ => none
    | .rptr i r j es => match h[i]? with
      | some (.recs false cs l) => selK (es == cs.length) (optK l[r]? fun row => optK (v.evK fr).cells fun vs => selK (vs.length == n) (optK (rowSet cs row j vs) fun row' =>
          setHK h i (.recs false cs (l.set r row')) (k .undef)) none) none
      | _ => none
    | _ => none
  | .nilCheck x => match x.evK fr with
    | .ptr i o => k (.ptr i o) h
    | .rptr i r j es => k (.rptr i r j es) h
    | _ => none
  | .bin op ek x y => kBin op ek (x.evK fr) (y.evK fr) fun v => k v h
  | .not x => match x.evK fr with
    | .bool b => k (.bool (!b)) h
    | _ => none
  | .conv kd x => match x.evK fr with
    | .int _ n => k (.int kd (wr kd n)) h
    | _ => none
  | .b2s x => match x.evK fr with
    | .nilslice => k (.str []) h
    | .slice i o n es' => selK (es' == 1) (rowK h i fun vs => optK (subK vs o (n * 1)) fun l => optK (bytesOfK l) fun s => k (.str s) h) none
    | .rslice i r n es' => match h[i]? with
      | some (.recs _ [.int .u8] l) => selK (es' == 1 && decide (r + n ≤ l.length)) (k (.str (bytesR ((l.drop r).take n))) h) none
      | _ => none
    | _ => none
  | .i2s x => match x.evK fr with
    | .int _ n => k (.str (encU n)) h
    | _ => none
  | .mkfunc fn first captured => forceVs (first.map (·.evK fr)) fun a => forceVs (captured.map (·.evK fr)) fun b => k (.func fn a b) h
  | .mkslice es bytes zero l c => match l.evK fr, c.evK fr with
    | .int .i64 l, .int .i64 c =>
      selK (leI 0 l && (leI l c && (leI ((bytes : Int) * c) 281474976710656 && (leI c maxInt64 && zero.length == es))))
        (match kindsK (injs zero) with
          | some cs => match rowOf cs (injs zero) with
            | some (row, []) => newRows h l.toNat es cs (List.replicate c.toNat row) k
            | _ => none
          | none => forceC ((List.replicate c.toNat (injs zero)).flatten) fun cs => pushK h (.cells cs) (k (.slice h.length 0 l.toNat es)))
        none
    | _, _ => none
  | .substr x lo hi => match x.evK fr with
    | .str s => kBound fr hi s.length s.length fun b => kBound fr lo b 0 fun a => k (.str (subS s a b)) h
    | _ => none
  | .subslice es x lo hi mx => match x.evK fr with
    | .slice i o n es' => kBound fr mx n n fun m => kBound fr hi m n fun b => kBound fr lo b 0 fun a => selK (es' == es) (k (.slice i (o + a * es) (b - a) es) h) none
    | .rslice i r n es' => kBound fr mx n n fun m => kBound fr hi m n fun b => kBound fr lo b 0 fun a => selK (es' == es) (k (.rslice i (r + a) (b - a) es) h) none
    | .nilslice => kBound fr mx 0 0 fun _ => kBound fr hi 0 0 fun _ => kBound fr lo 0 0 fun _ => k .nilslice h
    | _ => none
  | .fieldAddr off x => match x.evK fr with
    | .ptr i o => k (.ptr i (o + off)) h
    | .rptr i r j es => k (.rptr i r (j + off) es) h
    | _ => none
  | .field1 off x => match x.evK fr with
    | .agg cs => optK cs[off]? fun v => k v h
    | _ => none
  | .fieldN off n x => match x.evK fr with
    | .agg cs => optK (subK cs off n) fun l => forceC l fun l => k (.agg l) h
    | _ => none
  | .indexAddr es x i => match x.evK fr, i.evK fr with
    | .slice b o n es', .int _ j => selK (inR j n && es' == es) (k (.ptr b (o + j.toNat * es)) h) none
    | .rslice b r n es', .int _ j => selK (inR j n && es' == es) (k (.rptr b (r + j.toNat) 0 es) h) none
    | _, _ => none
  | .indexStr x i => match x.evK fr, i.evK fr with
    | .str s, .int _ j => selK (leI 0 j) (optK s[j.toNat]? fun b => k (.int .u8 b.toNat) h) none
    | _, _ => none
  | .range x => match x.evK fr with
    | .str s => pushK h (.iter s 0) (k (.ptr h.length 0))
    | _ => none
  | .next x => match x.evK fr with
    | .ptr i 0 => match h[i]? with
      | some (.iter s pos) => selK (Nat.blt pos s.length)
          (setHK h i (.iter s (pos + decW s pos)) (k (.tuple [.bool true, .int .i64 pos, .int .i32 (decC s pos)])))
          (k (.tuple [.bool false]) h)
      | _ => none
    | _ => none
  | .extract x i => match x.evK fr with
    | .tuple vs => optK vs[i]? fun v => k v h
    | _ => none
  | .call _ _ => none
  | .lenS x => match x.evK fr with
    | .str s => k (.int .i64 s.length) h
    | _ => none
  | .len x => match x.evK fr with
    | .slice _ _ n _ => k (.int .i64 n) h
    | .rslice _ _ n _ => k (.int .i64 n) h
    | .nilslice => k (.int .i64 0) h
    | _ => none
  | .append es bytes x y => kAppend h es bytes (x.evK fr) (y.evK fr) k
  | .min x y => match x.evK fr, y.evK fr with
    | .int k1 a, .int k2 b => selK (decide (k1 = k2)) (k (.int k1 (minI a b)) h) none
    | _, _ => none
  | .max x y => match x.evK fr, y.evK fr with
    | .int k1 a, .int k2 b => selK (decide (k1 = k2)) (k (.int k1 (maxI a b)) h) none
    | _, _ => none

/-! ### Code -/

noncomputable def putK (fr : List KV) (dst : Option Nat) (v : KV) (k : List KV → Option β) : Option β :=
  match dst with
  | some d => boolK v fun v => setK v fr d k
  | none => k fr

noncomputable def killK (l : List Nat) : List KV → (List KV → Option β) → Option β :=
  List.rec (motive := fun _ => List KV → (List KV → Option β) → Option β) (fun fr k => k fr) (fun d _ ih fr k => setK .junk fr d fun fr => ih fr k) l
def killV : List Nat → List KV → List KV
  | [], fr => fr
  | d :: l, fr => killV l (fr.set d .junk)
theorem killK_eq : ∀ (l : List Nat) (fr : List KV) (k : List KV → Option β), killK l fr k = k (killV l fr)
  | [], fr, k => rfl
  | d :: l, fr, k => (setK_eq KV.junk fr d fun fr => killK l fr k).trans (killK_eq l (fr.set d .junk) k)
noncomputable def putDK (fr : List KV) (i : AI) (v : KV) (k : List KV → Option β) : Option β := putK fr i.dst v fun fr => killK i.dead fr k

noncomputable def kWanted (fr : List KV) (g : Option (Nat × Bool)) (a b : Option β) : Option β :=
  match g with
  | none => a
  | some (s, want) => match getK fr s with
    | .bool t => selK t (selK want a b) (selK want b a)
    | .tuple [] => b
    | _ => none

/-- What the rounds of a loop over a function come to. -/
abbrev KHand (β : Type) := List KV → KHeap → (KV → KHeap → Option β) → Option β
abbrev KYs (β : Type) := Nat → Option (KHand β)
def noYK : KYs β := fun _ => none
abbrev KCall (β : Type) := KYs β → FuncId → List KV → KHeap → (KV → KHeap → Option β) → Option β

noncomputable def kStep (call : KCall β) (Y : KYs β) (i : AI) (fr : List KV) (h : KHeap) (k : List KV → KHeap → Option β) : Option β :=
  kWanted fr i.guard
    (match i.op with
      | .call f args => match f.evK fr with
        | .func (.func g) fs cs => forceVs (fs ++ args.map (·.evK fr) ++ cs) fun as' => call Y g as' h fun v h' => putDK fr i v fun fr => k fr h'
        | .yld j => match Y j with
          | some g => forceVs (args.map (·.evK fr)) fun as' => g as' h fun v h' => putDK fr i v fun fr => k fr h'
          | none => none
        | _ => none
      | op => kOp fr h op fun v h' => putDK fr i v fun fr => k fr h')
    (putDK fr i .undef fun fr => k fr h)
noncomputable def kOps (call : KCall β) (Y : KYs β) (l : List AI) : List KV → KHeap → (List KV → KHeap → Option β) → Option β :=
  List.rec (motive := fun _ => List KV → KHeap → (List KV → KHeap → Option β) → Option β) (fun fr h k => k fr h)
    (fun i _ ih fr h k => kStep call Y i fr h fun fr h => ih fr h k) l
theorem kOps_nil (call : KCall β) (Y : KYs β) (fr : List KV) (h : KHeap) (k : List KV → KHeap → Option β) : kOps call Y [] fr h k = k fr h := rfl
theorem kOps_cons (call : KCall β) (Y : KYs β) (i : AI) (l : List AI) (fr : List KV) (h : KHeap) (k : List KV → KHeap → Option β) : kOps call Y (i :: l) fr h k = kStep call Y i fr h fun fr h => kOps call Y l fr h k := rfl

def KObj.toRo : KObj → KObj
  | .cells vs => .ro vs
  | .ro vs => .ro vs
  | .recs _ cs l => .recs true cs l
  | _ => .dead

noncomputable def kQStep (call : KCall β) (i : AI) (fr : List KV) (h : KHeap) (k : List KV → Option β) : Option β :=
  kWanted fr i.guard
    (selK i.op.still (match i.op with
      | .call f args => match f.evK fr with
        | .func (.func g) fs cs => forceVs (fs ++ args.map (·.evK fr) ++ cs) fun as' => forceC (h.map KObj.toRo) fun h' => call noYK g as' h' fun v _ => selK (erv v).scalar (putDK fr i v k) none
        | _ => none
      | op => kOp fr h op fun v _ => selK ((erv v).det || op.free) (putDK fr i v k) none) none)
    (putDK fr i .undef k)
noncomputable def kQuiet (call : KCall β) (l : List AI) : List KV → KHeap → (List KV → Option β) → Option β :=
  List.rec (motive := fun _ => List KV → KHeap → (List KV → Option β) → Option β) (fun fr _ k => k fr)
    (fun i _ ih fr h k => kQStep call i fr h fun fr => ih fr h k) l
theorem kQuiet_nil (call : KCall β) (fr : List KV) (h : KHeap) (k : List KV → Option β) : kQuiet call [] fr h k = k fr := rfl
theorem kQuiet_cons (call : KCall β) (i : AI) (l : List AI) (fr : List KV) (h : KHeap) (k : List KV → Option β) : kQuiet call (i :: l) fr h k = kQStep call i fr h fun fr => kQuiet call l fr h k := rfl

end

/-! ### Renaming blocks -/

mutual
def KV.ren (ρ : Nat → Option Nat) : KV → KV
  | .ptr i o => match ρ i with
    | some j => .ptr j o
    | none => .junk
  | .rptr i r c es => match ρ i with
    | some j => .rptr j r c es
    | none => .junk
  | .slice i o n es => match ρ i with
    | some j => .slice j o n es
    | none => .junk
  | .rslice i r n es => match ρ i with
    | some j => .rslice j r n es
    | none => .junk
  | .yld i => match ρ i with
    | some j => .yld j
    | none => .junk
  | .func fn a b => .func fn (KV.rens ρ a) (KV.rens ρ b)
  | .agg l => .agg (KV.rens ρ l)
  | .tuple l => .tuple (KV.rens ρ l)
  | v => v
def KV.rens (ρ : Nat → Option Nat) : List KV → List KV
  | [] => []
  | v :: l => v.ren ρ :: KV.rens ρ l
end

def KObj.ids : KObj → List Nat
  | .cells vs | .ro vs => AV.idss (ers vs)
  | _ => []

def KObj.ren (ρ : Nat → Option Nat) : KObj → KObj
  | .cells vs => .cells (KV.rens ρ vs)
  | .ro vs => .ro (KV.rens ρ vs)
  | o => o

def reachK (n0 : Nat) (h : KHeap) : Nat → List Nat → List Nat → List Nat
  | 0, _, acc => acc
  | _, [], acc => acc
  | k + 1, i :: todo, acc =>
    if i < n0 || acc.contains i then reachK n0 h k todo acc
    else reachK n0 h k ((h.getD i .dead).ids ++ todo) (acc ++ [i])

def rootsK (n0 : Nat) (h : KHeap) : List Nat := (h.take n0).flatMap KObj.ids

def renormK (n0 : Nat) (fr : List KV) (h : KHeap) : Option (List KV × KHeap) :=
  if h.length ≤ n0 then some (fr, h) else
  let keep := reachK n0 h 100 (AV.idss (ers fr) ++ rootsK n0 h) []
  if keepOk n0 h.length keep then
    some (KV.rens (rho n0 keep) fr, (h.take n0).map (KObj.ren (rho n0 keep)) ++ keep.map fun i => (h.getD i .dead).ren (rho n0 keep))
  else none

def maskK : List Bool → List KV → List KV
  | b :: bs, v :: vs => (if b then v else .junk) :: maskK bs vs
  | _, [] => []
  | [], _ :: vs => .junk :: maskK [] vs

section
variable {β : Type}

abbrev KCont (β : Type) := AExit → List KV → KHeap → Option β

def seqK (k : KCont β) (next : List KV → KHeap → Option β) : KCont β
  | .normal, fr, h => next fr h
  | e, fr, h => k e fr h

def blkK (id : Nat) (k : KCont β) : KCont β
  | .exit i, fr, h => selK (i == id) (k .normal fr h) (k (.exit i) fr h)
  | e, fr, h => k e fr h

noncomputable def kLoop (n0 : Nat) (live : List Bool) (step : List KV → KHeap → KCont β → Option β) (n : Nat) : List KV → KHeap → KCont β → Option β :=
  Nat.rec (motive := fun _ => List KV → KHeap → KCont β → Option β) (fun _ _ _ => none)
    (fun _ ih fr h k => optK (renormK n0 (maskK live fr) h) fun r => forceVs r.1 fun fr => forceH r.2 fun h => step fr h (seqK k fun fr h => ih fr h k)) n
theorem kLoop_zero (n0 : Nat) (live : List Bool) (step : List KV → KHeap → KCont β → Option β) (fr : List KV) (h : KHeap) (k : KCont β) : kLoop n0 live step 0 fr h k = none := rfl
theorem kLoop_succ (n0 : Nat) (live : List Bool) (step : List KV → KHeap → KCont β → Option β) (n : Nat) (fr : List KV) (h : KHeap) (k : KCont β) :
    kLoop n0 live step (n + 1) fr h k = optK (renormK n0 (maskK live fr) h) fun r => forceVs r.1 fun fr => forceH r.2 fun h => step fr h (seqK k fun fr h => kLoop n0 live step n fr h k) := rfl

/-! Regions that draw their order -/

def drawFK (sel : Nat → Option KV) : Nat → List AI → List KV → List KV
  | _, [], fr => fr
  | j, i :: l, fr => drawFK sel (j + 1) l (match i.dst with
    | some d => fr.set d ((sel j).getD .junk)
    | none => fr)

def drawHK (sel : Nat → Bool) : Nat → List (KV × List KObj) → KHeap
  | _, [] => []
  | j, e :: l => (if sel j then e.2 else List.replicate e.2.length .dead) ++ drawHK sel (j + 1) l

def KObj.isCells : KObj → Bool
  | .cells _ => true
  | .recs false _ _ => true
  | _ => false

def newsOkK (n0 m : Nat) (v : KV) (news : List KObj) : Bool :=
  idsIn n0 m news.length (erv v).ids && news.all fun o => o.isCells && idsIn n0 m news.length o.ids

def AOp.notStore : AOp → Bool
  | .store _ _ _ => false
  | _ => true

noncomputable def kDrawVal (call : KCall β) (i : AI) (fr : List KV) (h : KHeap) (k : KV → List KObj → Option β) : Option β :=
  kWanted fr i.guard
    (forceC (h.map KObj.toRo) fun hr => match i.op with
      | .call f args => match f.evK fr with
        | .func (.func g) fs cs => forceVs (fs ++ args.map (·.evK fr) ++ cs) fun as' => call noYK g as' hr fun v h' => forceH (h'.drop h.length) fun ns => k v ns
        | _ => none
      | op => selK op.notStore (kOp fr hr op fun v h' => forceH (h'.drop h.length) fun ns => k v ns) none)
    (k .undef [])

noncomputable def kDrawGo (call : KCall β) (all : List AI) (tbl : List Nat) (fr0 : List KV) (h0 : KHeap) (r : List AI) : Nat → List (KV × List KObj) → (List (KV × List KObj) → Option β) → Option β :=
  List.rec (motive := fun _ => Nat → List (KV × List KObj) → (List (KV × List KObj) → Option β) → Option β) (fun _ es k => k es)
    (fun i _ ih j es k =>
      forceVs (drawFK (fun k => if (tbl.getD j 0).testBit k then (es[k]?).map (·.1) else none) 0 all fr0) fun fr =>
      forceH (h0 ++ drawHK (fun k => (tbl.getD j 0).testBit k) 0 es) fun h =>
      kDrawVal call i fr h fun v news => selK (newsOkK h0.length h.length v news) (ih (j + 1) (es ++ [(v, news)]) k) none) r
theorem kDrawGo_cons (call : KCall β) (all : List AI) (tbl : List Nat) (fr0 : List KV) (h0 : KHeap) (i : AI) (r : List AI) (j : Nat) (es : List (KV × List KObj)) (k : List (KV × List KObj) → Option β) :
    kDrawGo call all tbl fr0 h0 (i :: r) j es k = forceVs (drawFK (fun k => if (tbl.getD j 0).testBit k then (es[k]?).map (·.1) else none) 0 all fr0) fun fr =>
      forceH (h0 ++ drawHK (fun k => (tbl.getD j 0).testBit k) 0 es) fun h =>
      kDrawVal call i fr h fun v news => selK (newsOkK h0.length h.length v news) (kDrawGo call all tbl fr0 h0 r (j + 1) (es ++ [(v, news)]) k) none := rfl

def killAllV : List AI → List KV → List KV
  | [], fr => fr
  | i :: l, fr => killAllV l (killV i.dead fr)

noncomputable def kDraw (call : KCall β) (l : List AI) (tbl : List Nat) (fr0 : List KV) (h0 : KHeap) (k : List KV → KHeap → Option β) : Option β :=
  kDrawGo call l tbl fr0 h0 l 0 [] fun es => forceVs (killAllV l (drawFK (fun k => (es[k]?).map (·.1)) 0 l fr0)) fun fr => forceH (h0 ++ drawHK (fun _ => true) 0 es) fun h => k fr h

/-! Loops over functions -/

def setPsK : List Nat → List KV → List KV → List KV
  | p :: ps, v :: vs, fr => setPsK ps vs (fr.set p v)
  | _, _, fr => fr

/-- Behind a round's body. -/
noncomputable def roundEnd (i n : Nat) (kk : KV → KHeap → Option β) : KCont β := fun e _ h2 =>
  optK (renormK n [] h2) fun r => forceH r.2 fun h3 => match h3[i]? with
    | some (.loop .busy) => match e with
      | .normal => setHK h3 i (.loop .ready) fun h4 => kk (.bool true) h4
      | .exit id => setHK h3 i (.loop (.done (.exit id))) fun h4 => kk (.bool false) h4
      | .ret => setHK h3 i (.loop (.done .ret)) fun h4 => kk (.bool false) h4
    | _ => none

noncomputable def kRound (i : Nat) (ps : List Nat) (fr : List KV) (assign body : Nat → List KV → KHeap → KCont β → Option β) : KHand β := fun args h kk =>
  match h[i]? with
  | some (.loop .ready) => selK (args.length == ps.length) (forceVs (setPsK ps args fr) fun fr1 => assign h.length fr1 h fun e fr1 h1 => match e with
      | .normal => match h1[i]? with
        | some (.loop .ready) => setHK h1 i (.loop .busy) fun h1 => body h.length fr1 h1 (roundEnd i h.length kk)
        | _ => none
      | _ => none) none
  | _ => none

noncomputable def kRange (call : KCall β) (Y : KYs β) (g : KV) (hand : KHand β) (fr : List KV) (h : KHeap) (k : KCont β) : Option β :=
  match g with
  | .func (.func f) fs cs => pushK h (.loop .ready) fun h1 => call (fun j => if Nat.beq j h.length then some hand else Y j) f (fs ++ [.yld h.length] ++ cs) h1 fun _ h' => match h'[h.length]? with
    | some (.loop .ready) => setHK h' h.length .dead fun h2 => k .normal fr h2
    | some (.loop (.done e)) => setHK h' h.length .dead fun h2 => k e fr h2
    | _ => none
  | _ => none

/-- What is known of a loop. -/
abbrev KLoop (β : Type) := List KV → KHeap → KCont β → Option β

noncomputable def kCode (call : KCall β) (Y : KYs β) (L : Nat → Option (KLoop β)) (R : Nat) (inr : Bool) (n0 : Nat) (c : AC) : List KV → KHeap → KCont β → Option β :=
  AC.rec (motive := fun _ => Bool → Nat → List KV → KHeap → KCont β → Option β)
    (fun _ _ _ _ _ => none)
    (fun _ _ fr h k => k .normal fr h)
    (fun l _ _ fr h k => kOps call Y l fr h (k .normal))
    (fun l _ _ fr h k => kQuiet call l fr h fun fr => k .normal fr h)
    (fun l tbl n _ _ fr h k => kDraw call (l.take n) tbl fr h fun fr h => kOps call Y (l.drop n) fr h (k .normal))
    (fun id g ps _ _ rx ry inr _ fr h k => selK inr none (match L id with
      | some g => g fr h k
      | none => kRange call Y (g.evK fr) (kRound h.length ps fr (rx true) (ry true)) fr h k))
    (fun _ _ ra rb inr n0 fr h k => ra inr n0 fr h (seqK k fun fr h => rb inr n0 fr h k))
    (fun c _ _ ra rb inr n0 fr h k => match c.evK fr with
      | .bool t => selK t (ra inr n0 fr h k) (rb inr n0 fr h k)
      | _ => none)
    (fun id _ ra inr n0 fr h k => ra inr n0 fr h (blkK id k))
    (fun id live out _ ra inr n0 fr h k => match (if inr then none else L id) with
      | some g => g fr h k
      | none => kLoop n0 live (ra inr n0) R fr h fun e fr h => forceC (maskK out fr) fun fr => k e fr h)
    (fun id _ _ fr h k => k (.exit id) fr h)
    (fun _ _ fr h k => k .ret fr h) c inr n0
section
variable (call : KCall β) (Y : KYs β) (L : Nat → Option (KLoop β)) (R : Nat) (inr : Bool) (n0 : Nat) (fr : List KV) (h : KHeap) (k : KCont β)
theorem kCode_fail : kCode call Y L R inr n0 .fail fr h k = none := rfl
theorem kCode_skip : kCode call Y L R inr n0 .skip fr h k = k .normal fr h := rfl
theorem kCode_ops (l : List AI) : kCode call Y L R inr n0 (.ops l) fr h k = kOps call Y l fr h (k .normal) := rfl
theorem kCode_quiet (l : List AI) : kCode call Y L R inr n0 (.quiet l) fr h k = kQuiet call l fr h fun fr => k .normal fr h := rfl
theorem kCode_draw (l : List AI) (tbl : List Nat) (n : Nat) : kCode call Y L R inr n0 (.draw l tbl n) fr h k = kDraw call (l.take n) tbl fr h fun fr h => kOps call Y (l.drop n) fr h (k .normal) := rfl
theorem kCode_range (id : Nat) (g : AOpd) (ps : List Nat) (x y : AC) : kCode call Y L R inr n0 (.rangeFunc id g ps x y) fr h k = selK inr none (match L id with
      | some g => g fr h k
      | none => kRange call Y (g.evK fr) (kRound h.length ps fr (fun n fr h k => kCode call Y L R true n x fr h k) (fun n fr h k => kCode call Y L R true n y fr h k)) fr h k) := rfl
theorem kCode_seq (a b : AC) : kCode call Y L R inr n0 (.seq a b) fr h k = kCode call Y L R inr n0 a fr h (seqK k fun fr h => kCode call Y L R inr n0 b fr h k) := rfl
theorem kCode_cond (c : AOpd) (a b : AC) : kCode call Y L R inr n0 (.cond c a b) fr h k = match c.evK fr with
    | .bool t => selK t (kCode call Y L R inr n0 a fr h k) (kCode call Y L R inr n0 b fr h k)
    | _ => none := rfl
theorem kCode_block (id : Nat) (a : AC) : kCode call Y L R inr n0 (.block id a) fr h k = kCode call Y L R inr n0 a fr h (blkK id k) := rfl
theorem kCode_loop (id : Nat) (live out : List Bool) (a : AC) : kCode call Y L R inr n0 (.loop id live out a) fr h k = match (if inr then none else L id) with
    | some g => g fr h k
    | none => kLoop n0 live (fun fr h k => kCode call Y L R inr n0 a fr h k) R fr h fun e fr h => forceC (maskK out fr) fun fr => k e fr h := rfl
theorem kCode_exit (id : Nat) : kCode call Y L R inr n0 (.exit id) fr h k = k (.exit id) fr h := rfl
theorem kCode_ret : kCode call Y L R inr n0 .ret fr h k = k .ret fr h := rfl
end

noncomputable def resK (fr : List KV) (h : KHeap) : List ARes → (List KV → Option β) → Option β
  | [], k => k []
  | .tmp t :: l, k => resK fr h l fun vs => valK (getK fr t) fun v => k (v :: vs)
  | .cell1 t :: l, k => match getK fr t with
    | .ptr i o => rowK h i fun vs => optK vs[o]? fun v => resK fr h l fun vs => k (v :: vs)
    | _ => none
  | .cellN t n :: l, k => match getK fr t with
    | .ptr i o => rowK h i fun vs => optK (subK vs o n) fun c => forceC c fun c => resK fr h l fun vs => k (.agg c :: vs)
    | _ => none

def tupK : List KV → KV
  | [v] => v
  | vs => .tuple vs

noncomputable def endFn (n0 : Nat) (res : List ARes) (k : KV → KHeap → Option β) : KCont β
  | .exit _, _, _ => none
  | _, fr, h => resK fr h res fun vs => optK (renormK n0 vs h) fun r => forceVs r.1 fun vs => forceH r.2 fun h => k (tupK vs) h

/-- A function's body, run. -/
noncomputable def kBodyY (call : KCall β) (Y : KYs β) (L : Nat → Option (KLoop β)) (R : Nat) (fn : AFn) (args : List KV) (h : KHeap) (k : KV → KHeap → Option β) : Option β :=
  forceC (args ++ List.replicate (fn.ntmps - args.length) .undef) fun fr => kCode call Y L R false h.length fn.code fr h (endFn h.length fn.res k)
noncomputable abbrev kBody (call : KCall β) (L : Nat → Option (KLoop β)) (R : Nat) (fn : AFn) (args : List KV) (h : KHeap) (k : KV → KHeap → Option β) : Option β := kBodyY call noYK L R fn args h k

end

/-- A contract: what the abstract machine answers, and what this one does. -/
structure KT where
  a : List AV → AHeap → Option (AV × AHeap)
  k : (β : Type) → List KV → KHeap → (KV → KHeap → Option β) → Option β
  sim : ∀ (β : Type) (args : List KV) (h : KHeap) (kk : KV → KHeap → Option β) (r : β), k β args h kk = some r → ∃ v h', a (ers args) (erh h) = some (erv v, erh h') ∧ kk v h' = some r

noncomputable def kFn {β : Type} (F : FuncId → Option AFn) (T : FuncId → Option KT) (R : Nat) (n : Nat) : KCall β :=
  Nat.rec (motive := fun _ => KCall β) (fun _ _ _ _ _ => none)
    (fun _ ih Y f args h k => match T f with
      | some t => t.k β args h k
      | none => match F f with
        | none => none
        | some fn => kBodyY ih Y (fun _ => none) R fn args h k) n
theorem kFn_zero {β : Type} (F : FuncId → Option AFn) (T : FuncId → Option KT) (R : Nat) (Y : KYs β) (f : FuncId) (args : List KV) (h : KHeap) (k : KV → KHeap → Option β) : kFn F T R 0 Y f args h k = none := rfl
theorem kFn_succ {β : Type} (F : FuncId → Option AFn) (T : FuncId → Option KT) (R n : Nat) (Y : KYs β) (f : FuncId) (args : List KV) (h : KHeap) (k : KV → KHeap → Option β) : kFn F T R (n + 1) Y f args h k = match T f with
      | some t => t.k β args h k
      | none => match F f with
        | none => none
        | some fn => kBodyY (kFn F T R n) Y (fun _ => none) R fn args h k := rfl

def KT.tab (T : FuncId → Option KT) (f : FuncId) : Option (List AV → AHeap → Option (AV × AHeap)) := (T f).map KT.a

end Go.Ax

namespace Go.Ax
set_option linter.unusedVariables false
set_option linter.unusedSimpArgs false

section
variable {α β : Type}
theorem selK_some {c : Bool} {a b : Option β} {r : β} (h : selK c a b = some r) : (c = true ∧ a = some r) ∨ (c = false ∧ b = some r) := by
  cases c with
  | true => exact .inl ⟨rfl, h⟩
  | false => exact .inr ⟨rfl, h⟩
theorem selK_t {c : Bool} {a : Option β} {r : β} (h : selK c a none = some r) : c = true ∧ a = some r := by
  rcases selK_some h with h | ⟨_, h⟩
  · exact h
  · cases h
theorem map_some {γ : Type} {f : α → γ} {o : Option α} {r : γ} (h : o.map f = some r) : ∃ a, o = some a ∧ f a = r := by
  cases o with
  | none => cases h
  | some a => exact ⟨a, rfl, Option.some.inj h⟩
theorem optK_some {o : Option α} {k : α → Option β} {r : β} (h : optK o k = some r) : ∃ a, o = some a ∧ k a = some r := by
  cases o with
  | none => cases h
  | some a => exact ⟨a, rfl, h⟩
end

/-! ### Erasure -/

theorem ers_length : ∀ l : List KV, (ers l).length = l.length
  | [] => by simp [ers]
  | v :: l => by simp [ers, ers_length l]
theorem ers_get : ∀ (l : List KV) (i : Nat), (ers l)[i]? = (l[i]?).map erv
  | [], i => by simp [ers]
  | v :: l, 0 => by simp [ers]
  | v :: l, i + 1 => by simp [ers, ers_get l i]
theorem ers_getD (l : List KV) (i : Nat) : (ers l).getD i .junk = erv (l.getD i .junk) := by
  rw [List.getD_eq_getElem?_getD, List.getD_eq_getElem?_getD, ers_get]
  cases l[i]? <;> simp [erv]
theorem ers_append : ∀ a b : List KV, ers (a ++ b) = ers a ++ ers b
  | [], b => by simp [ers]
  | v :: a, b => by simp [ers, ers_append a b]
theorem ers_set : ∀ (l : List KV) (i : Nat) (v : KV), ers (l.set i v) = (ers l).set i (erv v)
  | [], i, v => by simp [ers]
  | u :: l, 0, v => by simp [ers]
  | u :: l, i + 1, v => by simp [ers, ers_set l i v]
theorem ers_take : ∀ (l : List KV) (n : Nat), ers (l.take n) = (ers l).take n
  | [], n => by simp [ers]
  | v :: l, 0 => by simp [ers]
  | v :: l, n + 1 => by simp [ers, ers_take l n]
theorem ers_drop : ∀ (l : List KV) (n : Nat), ers (l.drop n) = (ers l).drop n
  | [], n => by simp [ers]
  | v :: l, 0 => by simp [ers]
  | v :: l, n + 1 => by simp [ers, ers_drop l n]
theorem ers_map {γ : Type} (f : γ → KV) : ∀ l : List γ, ers (l.map f) = l.map fun x => erv (f x)
  | [] => by simp [ers]
  | v :: l => by simp [ers, ers_map f l]
theorem ers_replicate (n : Nat) (v : KV) : ers (List.replicate n v) = List.replicate n (erv v) := by
  induction n with
  | zero => simp [ers]
  | succ n ih => simp [List.replicate_succ, ers, ih]
theorem ers_flatten : ∀ l : List (List KV), ers l.flatten = (l.map ers).flatten
  | [] => by simp [ers]
  | v :: l => by simp [ers_append, ers_flatten l]

mutual
theorem erv_inj : ∀ v : AV, erv (inj v) = v
  | .junk | .bool _ | .int _ _ | .str _ | .nilptr | .ptr _ _ | .nilslice | .slice _ _ _ _ | .nilFunc | .yld _ => by simp [inj, erv]
  | .func fn a b => by simp [inj, erv, ers_inj a, ers_inj b]
  | .agg l => by simp [inj, erv, ers_inj l]
  | .tuple l => by simp [inj, erv, ers_inj l]
theorem ers_inj : ∀ l : List AV, ers (injs l) = l
  | [] => by simp [injs, ers]
  | v :: l => by simp [injs, ers, erv_inj v, ers_inj l]
end

theorem ev_erv (fr : List KV) (x : AOpd) : x.ev (ers fr) = erv (x.evK fr) := by
  cases x with
  | t n => exact (ers_getD fr n).trans (congrArg erv (getK_eq fr n).symm)
  | c v => exact ((congrArg erv (injF_eq v)).trans (erv_inj v)).symm

theorem erh_get (h : KHeap) (i : Nat) : (erh h)[i]? = (h[i]?).map ero := by simp [erh]
theorem erh_length (h : KHeap) : (erh h).length = h.length := by simp [erh]
theorem erh_push (h : KHeap) (o : KObj) : erh (h ++ [o]) = erh h ++ [ero o] := by simp [erh]
theorem erh_set (h : KHeap) (i : Nat) (o : KObj) : erh (h.set i o) = (erh h).set i (ero o) := by simp [erh, List.map_set]

theorem subK_sim (l : List KV) (o n : Nat) : sub? (ers l) o n = (subK l o n).map ers := by
  unfold sub? subK
  rw [ers_length]
  split
  · simp [ers_take, ers_drop]
  · rfl

theorem cells_sim (v : KV) : (erv v).cells = v.cells.map ers := by
  cases v <;> simp [erv, AV.cells, KV.cells, ers]

theorem one_sim (v : KV) : (erv v).one = v.one := by
  cases v <;> simp [erv, AV.one, KV.one]
theorem ones_sim : ∀ l : List KV, (ers l).all AV.one = l.all KV.one
  | [] => rfl
  | v :: l => by simp [ers, one_sim, ones_sim l]

theorem splice_sim : ∀ (l : List KV) (o : Nat) (xs : List KV), ers (spliceK l o xs) = splice (ers l) o (ers xs)
  | [], 0, [] => by simp [spliceK, splice, ers]
  | _ :: _, 0, [] => by simp [spliceK, splice, ers]
  | [], _ + 1, [] => by simp [spliceK, splice, ers]
  | [], 0, _ :: _ => by simp [spliceK, splice, ers]
  | [], _ + 1, _ :: _ => by simp [spliceK, splice, ers]
  | y :: l, 0, x :: xs => by simp [spliceK, splice, ers, splice_sim l 0 xs]
  | y :: l, o + 1, [] => by simp [spliceK, splice, ers, splice_sim l o []]
  | y :: l, o + 1, x :: xs => by
    have := splice_sim l o (x :: xs)
    simp only [ers] at this
    simp [spliceK, splice, ers, this]

theorem fill_sim (fr : List KV) : ∀ (ps : List (Nat × Nat × AOpd)) (cells : List KV), aFill (ers fr) (ers cells) ps = (fillK fr cells ps).map ers
  | [], cells => by simp [aFill, fillK]
  | (off, size, x) :: ps, cells => by
    simp only [aFill, fillK, ev_erv, cells_sim]
    cases (x.evK fr).cells with
    | none => simp
    | some cs =>
      simp only [Option.map_some, ers_length]
      split
      · rw [← splice_sim]; exact fill_sim fr ps _
      · rfl

/-! ### Rows -/

theorem ers_rowKV : ∀ (cs : List CK) (r : Row cs), ers (rowKV cs r) = rowAV cs r
  | [], _ => by simp [rowKV, rowAV, ers]
  | .bool :: cs, r => by simp [rowKV, rowAV, ers, erv, ers_rowKV cs r.2]
  | .int _ :: cs, r => by simp [rowKV, rowAV, ers, erv, ers_rowKV cs r.2]
  | .str :: cs, r => by simp [rowKV, rowAV, ers, erv, ers_rowKV cs r.2]
theorem rowAV_length : ∀ (cs : List CK) (r : Row cs), (rowAV cs r).length = cs.length
  | [], _ => by simp [rowAV]
  | .bool :: cs, r => by simp [rowAV, rowAV_length cs r.2]
  | .int _ :: cs, r => by simp [rowAV, rowAV_length cs r.2]
  | .str :: cs, r => by simp [rowAV, rowAV_length cs r.2]
theorem rowAV_one : ∀ (cs : List CK) (r : Row cs), (rowAV cs r).all AV.one = true
  | [], _ => by simp [rowAV]
  | .bool :: cs, r => by simp [rowAV, AV.one, rowAV_one cs r.2]
  | .int _ :: cs, r => by simp [rowAV, AV.one, rowAV_one cs r.2]
  | .str :: cs, r => by simp [rowAV, AV.one, rowAV_one cs r.2]
theorem rowAV_ids : ∀ (cs : List CK) (r : Row cs), AV.idss (rowAV cs r) = []
  | [], _ => by simp [rowAV, AV.idss]
  | .bool :: cs, r => by simp [rowAV, AV.idss, AV.ids, rowAV_ids cs r.2]
  | .int _ :: cs, r => by simp [rowAV, AV.idss, AV.ids, rowAV_ids cs r.2]
  | .str :: cs, r => by simp [rowAV, AV.idss, AV.ids, rowAV_ids cs r.2]
theorem rowAV_ren (ρ : Nat → Option Nat) : ∀ (cs : List CK) (r : Row cs), AV.rens ρ (rowAV cs r) = rowAV cs r
  | [], _ => by simp [rowAV, AV.rens]
  | .bool :: cs, r => by simp [rowAV, AV.rens, AV.ren, rowAV_ren ρ cs r.2]
  | .int _ :: cs, r => by simp [rowAV, AV.rens, AV.ren, rowAV_ren ρ cs r.2]
  | .str :: cs, r => by simp [rowAV, AV.rens, AV.ren, rowAV_ren ρ cs r.2]

theorem idss_append : ∀ a b : List AV, AV.idss (a ++ b) = AV.idss a ++ AV.idss b
  | [], b => by simp [AV.idss]
  | v :: a, b => by simp [AV.idss, idss_append a b]
theorem rens_append (ρ : Nat → Option Nat) : ∀ a b : List AV, AV.rens ρ (a ++ b) = AV.rens ρ a ++ AV.rens ρ b
  | [], b => by simp [AV.rens]
  | v :: a, b => by simp [AV.rens, rens_append ρ a b]

section
variable {cs : List CK}
theorem flat_nil : flat cs [] = [] := rfl
theorem flat_cons (r : Row cs) (l : List (Row cs)) : flat cs (r :: l) = rowAV cs r ++ flat cs l := by simp [flat]
theorem flat_append (a b : List (Row cs)) : flat cs (a ++ b) = flat cs a ++ flat cs b := by simp [flat]
theorem flat_length : ∀ l : List (Row cs), (flat cs l).length = l.length * cs.length
  | [] => by simp [flat]
  | r :: l => by rw [flat_cons, List.length_append, rowAV_length, flat_length l, List.length_cons, Nat.succ_mul]; omega
theorem flat_one : ∀ l : List (Row cs), (flat cs l).all AV.one = true
  | [] => by simp [flat]
  | r :: l => by rw [flat_cons, List.all_append, rowAV_one, flat_one l]; rfl
theorem flat_ids : ∀ l : List (Row cs), AV.idss (flat cs l) = []
  | [] => by simp [flat, AV.idss]
  | r :: l => by rw [flat_cons, idss_append, rowAV_ids, flat_ids l]; rfl
theorem flat_ren (ρ : Nat → Option Nat) : ∀ l : List (Row cs), AV.rens ρ (flat cs l) = flat cs l
  | [] => by simp [flat, AV.rens]
  | r :: l => by rw [flat_cons, rens_append, rowAV_ren, flat_ren ρ l]
theorem flat_drop : ∀ (l : List (Row cs)) (r : Nat), (flat cs l).drop (r * cs.length) = flat cs (l.drop r)
  | l, 0 => by simp
  | [], r + 1 => by simp [flat]
  | x :: l, r + 1 => by
    rw [flat_cons, Nat.succ_mul, Nat.add_comm, ← List.drop_drop, List.drop_left' (rowAV_length cs x), flat_drop l r]
    rfl
theorem flat_take : ∀ (l : List (Row cs)) (r : Nat), (flat cs l).take (r * cs.length) = flat cs (l.take r)
  | l, 0 => by simp [flat]
  | [], r + 1 => by simp [flat]
  | x :: l, r + 1 => by
    rw [flat_cons, Nat.succ_mul, Nat.add_comm, List.take_succ_cons, flat_cons, ← flat_take l r]
    have e := List.take_length_add_append (l₁ := rowAV cs x) (l₂ := flat cs l) (r * cs.length)
    rw [rowAV_length] at e
    exact e
theorem flat_sub (l : List (Row cs)) (r n : Nat) (h : r + n ≤ l.length) : sub? (flat cs l) (r * cs.length) (n * cs.length) = some (flat cs ((l.drop r).take n)) := by
  unfold sub?
  rw [flat_drop, flat_take, if_pos]
  rw [flat_length, ← Nat.add_mul]
  exact Nat.mul_le_mul_right _ h
theorem flat_at {l : List (Row cs)} {r : Nat} {row : Row cs} (h : l[r]? = some row) : ∃ rest, (flat cs l).drop (r * cs.length) = rowAV cs row ++ rest := by
  rw [flat_drop]
  have hl : r < l.length := by
    rcases Nat.lt_or_ge r l.length with h' | h'
    · exact h'
    · rw [List.getElem?_eq_none h'] at h; cases h
  rw [List.drop_eq_getElem_cons hl]
  rw [List.getElem?_eq_getElem hl] at h
  cases h
  exact ⟨_, flat_cons _ _⟩
theorem flat_get {l : List (Row cs)} {r : Nat} {row : Row cs} (h : l[r]? = some row) (j : Nat) (hj : j < cs.length) : (flat cs l)[r * cs.length + j]? = (rowAV cs row)[j]? := by
  obtain ⟨rest, hr⟩ := flat_at h
  rw [← List.getElem?_drop, hr, List.getElem?_append_left (by rw [rowAV_length]; exact hj)]
theorem flat_sub1 {l : List (Row cs)} {r : Nat} {row : Row cs} (h : l[r]? = some row) (j n : Nat) (hj : j + n ≤ cs.length) : sub? (flat cs l) (r * cs.length + j) n = some (((rowAV cs row).drop j).take n) := by
  obtain ⟨rest, hr⟩ := flat_at h
  unfold sub?
  have hl : r < l.length := by
    rcases Nat.lt_or_ge r l.length with h' | h'
    · exact h'
    · rw [List.getElem?_eq_none h'] at h; cases h
  have h2 : r * cs.length + cs.length ≤ (flat cs l).length := by
    rw [flat_length, ← Nat.succ_mul]
    exact Nat.mul_le_mul_right _ hl
  rw [if_pos (by omega), ← List.drop_drop, hr]
  have hlr := rowAV_length cs row
  rw [List.drop_append_of_le_length (by omega), List.take_append_of_le_length (by rw [List.length_drop]; omega)]
end

theorem splice_nil : ∀ (l : List AV) (o : Nat), splice l o [] = l
  | [], 0 => rfl
  | [], _ + 1 => rfl
  | _ :: _, 0 => rfl
  | y :: l, o + 1 => by simp [splice, splice_nil l o]
theorem splice_append : ∀ (a b : List AV) (o : Nat) (xs : List AV), splice (a ++ b) (a.length + o) xs = a ++ splice b o xs
  | [], b, o, xs => by simp
  | y :: a, b, o, xs => by
    rw [List.cons_append, List.length_cons, show a.length + 1 + o = (a.length + o) + 1 by omega]
    simp only [splice]
    rw [splice_append a b o xs]
    rfl
theorem splice_left : ∀ (a b : List AV) (o : Nat) (xs : List AV), o + xs.length ≤ a.length → splice (a ++ b) o xs = splice a o xs ++ b
  | a, b, o, [], h => by rw [splice_nil, splice_nil]
  | [], b, o, x :: xs, h => by simp at h
  | y :: a, b, 0, x :: xs, h => by
    simp only [List.cons_append, splice]
    rw [splice_left a b 0 xs (by simp at h ⊢; omega)]
  | y :: a, b, o + 1, x :: xs, h => by
    simp only [List.cons_append, splice]
    rw [splice_left a b o (x :: xs) (by simp at h ⊢; omega)]

theorem rowSet_spec : ∀ (cs : List CK) (row row' : Row cs) (j : Nat) (vs : List KV), rowSet cs row j vs = some row' → rowAV cs row' = splice (rowAV cs row) j (ers vs) ∧ j + vs.length ≤ cs.length ∧ vs.all KV.one = true
  | [], row, row', 0, [], h => by simp [ers, splice, rowAV]
  | [], row, row', 0, _ :: _, h => by simp [rowSet] at h
  | [], row, row', _ + 1, vs, h => by cases vs <;> simp [rowSet] at h
  | c :: cs, row, row', 0, [], h => by
    have : row' = row := by cases c <;> simp only [rowSet, Option.some.injEq] at h <;> exact h.symm
    subst this
    simp [ers, splice_nil]
  | .bool :: cs, row, row', 0, v :: vs, h => by
    cases v <;> simp only [rowSet, reduceCtorEq] at h
    obtain ⟨q, hq, rfl⟩ := map_some h
    obtain ⟨h1, h2, h3⟩ := rowSet_spec cs row.2 q 0 vs hq
    refine ⟨by simp [rowAV, ers, erv, splice, h1], by simp at h2 ⊢; omega, by simp only [List.all_cons, h3, KV.one]; rfl⟩
  | .int k :: cs, row, row', 0, v :: vs, h => by
    cases v <;> simp only [rowSet, reduceCtorEq] at h
    split at h
    · rename_i hk
      subst hk
      obtain ⟨q, hq, rfl⟩ := map_some h
      obtain ⟨h1, h2, h3⟩ := rowSet_spec cs row.2 q 0 vs hq
      refine ⟨by simp [rowAV, ers, erv, splice, h1], by simp at h2 ⊢; omega, by simp only [List.all_cons, h3, KV.one]; rfl⟩
    · cases h
  | .str :: cs, row, row', 0, v :: vs, h => by
    cases v <;> simp only [rowSet, reduceCtorEq] at h
    obtain ⟨q, hq, rfl⟩ := map_some h
    obtain ⟨h1, h2, h3⟩ := rowSet_spec cs row.2 q 0 vs hq
    refine ⟨by simp [rowAV, ers, erv, splice, h1], by simp at h2 ⊢; omega, by simp only [List.all_cons, h3, KV.one]; rfl⟩
  | .bool :: cs, row, row', j + 1, vs, h => by
    cases vs <;> simp only [rowSet] at h <;>
    · obtain ⟨q, hq, rfl⟩ := map_some h
      obtain ⟨h1, h2, h3⟩ := rowSet_spec cs row.2 q j _ hq
      refine ⟨?_, by simp at h2 ⊢; omega, h3⟩
      simp only [rowAV, h1]
      simp [ers, splice]
  | .int k :: cs, row, row', j + 1, vs, h => by
    cases vs <;> simp only [rowSet] at h <;>
    · obtain ⟨q, hq, rfl⟩ := map_some h
      obtain ⟨h1, h2, h3⟩ := rowSet_spec cs row.2 q j _ hq
      refine ⟨?_, by simp at h2 ⊢; omega, h3⟩
      simp only [rowAV, h1]
      simp [ers, splice]
  | .str :: cs, row, row', j + 1, vs, h => by
    cases vs <;> simp only [rowSet] at h <;>
    · obtain ⟨q, hq, rfl⟩ := map_some h
      obtain ⟨h1, h2, h3⟩ := rowSet_spec cs row.2 q j _ hq
      refine ⟨?_, by simp at h2 ⊢; omega, h3⟩
      simp only [rowAV, h1]
      simp [ers, splice]

theorem flat_splice {cs : List CK} : ∀ {l : List (Row cs)} {r : Nat} {row row' : Row cs} {j : Nat} {vs : List KV}, l[r]? = some row → rowSet cs row j vs = some row' → splice (flat cs l) (r * cs.length + j) (ers vs) = flat cs (l.set r row')
  | [], r, row, row', j, vs, h, hs => by simp at h
  | x :: l, 0, row, row', j, vs, h, hs => by
    simp at h
    subst h
    obtain ⟨h1, h2, h3⟩ := rowSet_spec cs x row' j vs hs
    rw [flat_cons, Nat.zero_mul, Nat.zero_add, splice_left _ _ _ _ (by rw [ers_length, rowAV_length]; exact h2), ← h1, List.set_cons_zero, flat_cons]
  | x :: l, r + 1, row, row', j, vs, h, hs => by
    rw [flat_cons, Nat.succ_mul, show r * cs.length + cs.length + j = (rowAV cs x).length + (r * cs.length + j) by rw [rowAV_length]; omega, splice_append, flat_splice (by simpa using h) hs, List.set_cons_succ, flat_cons]

theorem rowOf_spec : ∀ (cs : List CK) (vs : List KV) (r : Row cs) (rest : List KV), rowOf cs vs = some (r, rest) → ers vs = rowAV cs r ++ ers rest
  | [], vs, r, rest, h => by simp only [rowOf, Option.some.injEq, Prod.mk.injEq] at h; obtain ⟨_, rfl⟩ := h; simp [rowAV]
  | c :: cs, [], r, rest, h => by cases c <;> simp [rowOf] at h
  | .bool :: cs, v :: vs, r, rest, h => by
    cases v <;> simp only [rowOf, reduceCtorEq] at h
    obtain ⟨⟨q, s⟩, hq, h2⟩ := map_some h
    cases h2
    simp [ers, erv, rowAV, rowOf_spec cs vs q s hq]
  | .int k :: cs, v :: vs, r, rest, h => by
    cases v <;> simp only [rowOf, reduceCtorEq] at h
    split at h
    · rename_i hk
      subst hk
      obtain ⟨⟨q, s⟩, hq, h2⟩ := map_some h
      cases h2
      simp [ers, erv, rowAV, rowOf_spec cs vs q s hq]
    · cases h
  | .str :: cs, v :: vs, r, rest, h => by
    cases v <;> simp only [rowOf, reduceCtorEq] at h
    obtain ⟨⟨q, s⟩, hq, h2⟩ := map_some h
    cases h2
    simp [ers, erv, rowAV, rowOf_spec cs vs q s hq]

theorem rowsOf_spec {cs : List CK} : ∀ (n : Nat) (vs : List KV) (l : List (Row cs)), rowsOf cs n vs = some l → ers vs = flat cs l ∧ l.length = n
  | 0, [], l, h => by simp only [rowsOf, Option.some.injEq] at h; subst h; simp [ers, flat]
  | 0, _ :: _, l, h => by simp [rowsOf] at h
  | n + 1, vs, l, h => by
    simp only [rowsOf] at h
    split at h
    · rename_i r rest hr
      obtain ⟨q, hq, rfl⟩ := map_some h
      obtain ⟨h1, h2⟩ := rowsOf_spec n rest q hq
      rw [rowOf_spec cs vs r rest hr, h1, flat_cons]
      exact ⟨rfl, by simp [h2]⟩
    · cases h

theorem u8R_flat : ∀ s : List UInt8, flat [.int .u8] (u8R s) = u8s s
  | [] => rfl
  | b :: s => by
    exact (flat_cons (cs := [.int .u8]) ((b.toNat : Int), ()) (u8R s)).trans (by rw [u8R_flat s]; rfl)
theorem u8R_length (s : List UInt8) : (u8R s).length = s.length := List.length_map _
theorem bytesOfK_sim : ∀ (l : List KV) (s : List UInt8), bytesOfK l = some s → bytesOf (ers l) = some s
  | [], s, h => by simpa [bytesOfK, ers, bytesOf] using h
  | v :: l, s, h => by
    cases v <;> try (simp [bytesOfK] at h; done)
    rename_i k n
    cases k <;> simp only [bytesOfK, reduceCtorEq] at h
    obtain ⟨q, hq, rfl⟩ := map_some h
    simp [ers, erv, bytesOf, bytesOfK_sim l q hq]
theorem bytesR_sim : ∀ l : List (Row [.int .u8]), bytesOf (flat [.int .u8] l) = some (bytesR l)
  | [] => rfl
  | r :: l => by
    rw [flat_cons]
    show bytesOf (.int .u8 r.1 :: flat [.int .u8] l) = _
    simp [bytesOf, bytesR_sim l, bytesR]
theorem flat_replicate {cs : List CK} (n : Nat) (row : Row cs) : flat cs (List.replicate n row) = (List.replicate n (rowAV cs row)).flatten := by
  induction n with
  | zero => simp [flat]
  | succ n ih => simp [List.replicate_succ, flat_cons, ih]

theorem other_sim (i : Nat) (v : KV) : (erv v).other i = v.other i := by cases v <;> simp [erv, AV.other, KV.other]

end Go.Ax

namespace Go.Ax
set_option linter.unusedVariables false
set_option linter.unusedSimpArgs false

/-- What an operation comes to. -/
def OpRes (fr : List KV) (h : KHeap) (op : AOp) (v : KV) (h' : KHeap) : Prop :=
  aOp (ers fr) (erh h) op = some (.val (erv v) (erh h')) ∨ (aOp (ers fr) (erh h) op = some (.skip (erh h')) ∧ v = .undef)

section
variable {β : Type} {fr : List KV} {h : KHeap}

theorem kBound_sim {x : Option AOpd} {y d : Nat} {k : Nat → Option β} {r : β} (e : kBound fr x y d k = some r) : ∃ n, boundD (ers fr) x y d = some n ∧ k n = some r := by
  unfold kBound at e
  cases x with
  | none => exact ⟨d, rfl, e⟩
  | some x =>
    simp only at e
    split at e
    · rename_i kd n hx
      obtain ⟨hc, hk⟩ := selK_t e
      have hc' : 0 ≤ n ∧ n ≤ (y : Int) := of_decide_eq_true hc
      refine ⟨n.toNat, ?_, hk⟩
      simp only [boundD, ev_erv, hx, erv, bound, if_pos hc']
    · cases e

theorem kIntBin_sim {op : BinOp} {kd : IntKind} {a b : Int} {k : KV → Option β} {r : β} (e : kIntBin op kd a b k = some r) : ∃ v, aIntBin op kd a b = some (erv v) ∧ k v = some r := by
  have z : ∀ {b : Int}, eqI b 0 = false → b ≠ 0 := fun {b} hb h0 => by subst h0; cases hb
  have z2 : ∀ {b : Int}, ltI b 0 = false → ¬ b < 0 := fun {b} hb h0 => by simp [ltI, h0] at hb
  unfold kIntBin at e
  cases op <;> simp only at e <;> first
    | exact ⟨_, rfl, e⟩
    | (rcases selK_some e with ⟨_, e⟩ | ⟨hb, e⟩
       · cases e
       · first
          | exact ⟨_, by simp only [aIntBin, if_neg (z hb)]; rfl, e⟩
          | exact ⟨_, by simp only [aIntBin, if_neg (z2 hb)]; rfl, e⟩)

theorem kStrBin_sim {op : BinOp} {a b : List UInt8} {k : KV → Option β} {r : β} (e : kStrBin op a b k = some r) : ∃ v, aStrBin op a b = some (erv v) ∧ k v = some r := by
  unfold kStrBin at e
  cases op <;> simp only at e <;> first
    | (cases e; done)
    | exact ⟨_, rfl, e⟩
    | (obtain ⟨hc, e⟩ := selK_t e
       have hc' := of_decide_eq_true hc
       exact ⟨_, by simp only [aStrBin, if_pos hc']; rfl, e⟩)

theorem kEqCells_sim : ∀ (ks : List CK) (xs ys : List KV) (b : Bool), kEqCells ks xs ys = some b → eqCells ks (ers xs) (ers ys) = some b
  | [], [], [], b, e => by simpa [kEqCells, eqCells, ers] using e
  | [], _ :: _, _, b, e => by simp [kEqCells] at e
  | [], [], _ :: _, b, e => by simp [kEqCells] at e
  | c :: ks, [], ys, b, e => by cases c <;> simp [kEqCells] at e
  | c :: ks, x :: xs, [], b, e => by cases c <;> cases x <;> simp [kEqCells] at e
  | c :: ks, x :: xs, y :: ys, b, e => by
    cases c <;> cases x <;> try (simp [kEqCells] at e; done)
    all_goals cases y <;> try (simp [kEqCells] at e; done)
    · simp only [kEqCells] at e
      obtain ⟨q, hq, rfl⟩ := map_some e
      simp [ers, erv, eqCells, eqCell, kEqCells_sim ks xs ys q hq, eqB]
    · simp only [kEqCells] at e
      split at e
      · rename_i hk
        obtain ⟨q, hq, rfl⟩ := map_some e
        simp only [ers, erv, eqCells, eqCell, kEqCells_sim ks xs ys q hq, if_pos hk, eqI]
      · cases e
    · simp only [kEqCells] at e
      obtain ⟨q, hq, rfl⟩ := map_some e
      simp [ers, erv, eqCells, eqCell, kEqCells_sim ks xs ys q hq, eqS]

theorem kEq_sim (ek : EqK) (x y : KV) (b : Bool) (e : kEq ek x y = some b) : aEq ek (erv x) (erv y) = some b := by
  unfold kEq at e
  split at e <;> first
    | (cases e; done)
    | (cases e; rfl)
    | exact kEqCells_sim _ _ _ b e

theorem aBin_other (op : BinOp) (ek : EqK) {x y : KV} (h1 : ∀ kd a kd' b, x = .int kd a → y = .int kd' b → False) (h2 : ∀ a b, x = .str a → y = .str b → False) :
    aBin op ek (erv x) (erv y) = match op with
      | .eql => (aEq ek (erv x) (erv y)).map .bool
      | .neq => (aEq ek (erv x) (erv y)).map fun b => .bool (!b)
      | _ => none := by
  cases x <;> cases y <;> first
    | exact (h1 _ _ _ _ rfl rfl).elim
    | exact (h2 _ _ rfl rfl).elim
    | rfl

theorem kBin_sim {op : BinOp} {ek : EqK} {x y : KV} {k : KV → Option β} {r : β} (e : kBin op ek x y k = some r) : ∃ v, aBin op ek (erv x) (erv y) = some (erv v) ∧ k v = some r := by
  unfold kBin at e
  split at e
  · obtain ⟨hc, e⟩ := selK_t e
    obtain ⟨v, h1, h2⟩ := kIntBin_sim e
    refine ⟨v, ?_, h2⟩
    rename_i kd a kd' b _
    have hc' : kd = kd' ∨ isShift op = true := by
      rw [Bool.or_eq_true, decide_eq_true_iff] at hc; exact hc
    simp only [erv, aBin, if_pos hc', h1]
  · obtain ⟨v, h1, h2⟩ := kStrBin_sim e
    exact ⟨v, by simp only [erv, aBin, h1], h2⟩
  · rename_i h1 h2
    have key := aBin_other op ek h1 h2
    split at e
    · obtain ⟨b, hb, e⟩ := optK_some e
      refine ⟨_, ?_, e⟩
      rw [key]
      simp only [kEq_sim ek x y b hb, Option.map_some, erv]
    · obtain ⟨b, hb, e⟩ := optK_some e
      refine ⟨_, ?_, e⟩
      rw [key]
      simp only [kEq_sim ek x y b hb, Option.map_some, erv]
    · cases e

theorem rowK_sim {i : Nat} {k : List KV → Option β} {r : β} (e : rowK h i k = some r) : ∃ vs, (erh h).row i = some (ers vs) ∧ k vs = some r := by
  unfold rowK at e
  split at e
  · rename_i vs hi
    exact ⟨vs, by simp [AHeap.row, hi, ero], e⟩
  · rename_i vs hi
    exact ⟨vs, by simp [AHeap.row, hi, ero], e⟩
  · cases e

theorem recs_row {i : Nat} {b : Bool} {cs : List CK} {l : List (Row cs)} (hi : h[i]? = some (.recs b cs l)) : (erh h).row i = some (flat cs l) := by
  cases b <;> simp [AHeap.row, hi, ero]

/-- What is appended. -/
theorem srcK_sim {es : Nat} {y : KV} {k0 : Option β} {kc : Nat → List KV → Option β} {kr : Nat → (cs : List CK) → List (Row cs) → Option β} {r : β} (e : srcK h es y k0 kc kr = some r) :
    (cellsOf (erh h) es (erv y) = some (0, []) ∧ k0 = some r) ∨ (∃ n l, cellsOf (erh h) es (erv y) = some (n, ers l) ∧ kc n l = some r) ∨
    (∃ n cs l, cellsOf (erh h) es (erv y) = some (n, flat cs l) ∧ l.length = n ∧ es = cs.length ∧ kr n cs l = some r) := by
  unfold srcK at e
  split at e
  · exact .inl ⟨rfl, e⟩
  · rename_i i o n es'
    obtain ⟨hc, e⟩ := selK_t e
    have hc' : es' = es := by simpa using hc
    obtain ⟨vs, h1, e⟩ := rowK_sim e
    obtain ⟨l, h2, e⟩ := optK_some e
    refine .inr (.inl ⟨n, l, ?_, e⟩)
    simp only [erv, cellsOf, if_pos hc', h1, subK_sim, h2, Option.map_some]
  · rename_i i r' n es'
    split at e
    · rename_i b cs l hi
      obtain ⟨hc, e2⟩ := selK_t e
      simp only [Bool.and_eq_true, beq_iff_eq, decide_eq_true_eq] at hc
      obtain ⟨⟨rfl, rfl⟩, hb⟩ := hc
      refine .inr (.inr ⟨n, cs, _, ?_, ?_, rfl, e2⟩)
      · simp only [erv, cellsOf, if_true, recs_row hi, flat_sub l r' n hb, Option.map_some]
      · rw [List.length_take, List.length_drop]; omega
    · cases e
  · rename_i s
    obtain ⟨hc, e⟩ := selK_t e
    have hc' : es = 1 := by simpa using hc
    refine .inr (.inr ⟨s.length, _, u8R s, ?_, u8R_length s, hc', e⟩)
    simp only [erv, cellsOf, if_pos hc', u8R_flat]
  · cases e

theorem sameK_sim {γ : Type} {cs ds : List CK} {l : List (Row ds)} {k : List (Row cs) → Option γ} {r : γ} (e : sameK cs ds l k = some r) : ds = cs ∧ ∃ l', k l' = some r ∧ flat cs l' = flat ds l ∧ l'.length = l.length := by
  unfold sameK at e
  split at e
  · rename_i hd
    subst hd
    exact ⟨rfl, l, e, rfl, rfl⟩
  · cases e

/-- What `append` makes of a nil slice. -/
theorem append_nil {es bytes n : Nat} {ys : List AV} {x y : AOpd} (hx : (x.ev (ers fr)) = .nilslice) (hy : cellsOf (erh h) es (y.ev (ers fr)) = some (n, ys)) (hc : capOk n bytes = true) :
    aOp (ers fr) (erh h) (.append es bytes x y) = if n = 0 then some (.val .nilslice (erh h)) else some (.val (.slice (erh h).length 0 n es) (erh h ++ [.cells ys])) := by
  have hc' := of_decide_eq_true hc
  simp only [aOp, hx, hy, if_pos hc']

theorem append_same {es bytes i o k es' : Nat} {ys : List AV} {x y : AOpd} (hx : (x.ev (ers fr)) = .slice i o k es') (hy : cellsOf (erh h) es (y.ev (ers fr)) = some (0, ys)) :
    aOp (ers fr) (erh h) (.append es bytes x y) = some (.val (.slice i o k es') (erh h)) := by
  simp only [aOp, hx, hy, if_true]

theorem append_more {es bytes i o k n : Nat} {vs xs ys : List AV} {x y : AOpd} (hx : (x.ev (ers fr)) = .slice i o k es) (hy : cellsOf (erh h) es (y.ev (ers fr)) = some (n, ys)) (hn : n ≠ 0)
    (hi : (erh h)[i]? = some (.cells vs)) (hs : sub? vs o (k * es) = some xs) (hc : capOk (k + n) bytes = true) (ho : (y.ev (ers fr)).other i = true) (h1 : ys.all AV.one = true) :
    aOp (ers fr) (erh h) (.append es bytes x y) = some (.val (.slice (erh h).length 0 (k + n) es) ((erh h).set i .dead ++ [.cells (xs ++ ys)])) := by
  have hc' := of_decide_eq_true hc
  simp only [aOp, hx, hy, if_neg hn, hi, hs]
  rw [if_pos ⟨trivial, hc', ho, h1⟩]

theorem kAppend_sim {es bytes : Nat} {x y : AOpd} {k : KV → KHeap → Option β} {r : β} (e : kAppend h es bytes (x.evK fr) (y.evK fr) k = some r) :
    ∃ v h', aOp (ers fr) (erh h) (.append es bytes x y) = some (.val (erv v) (erh h')) ∧ k v h' = some r := by
  unfold kAppend at e
  simp only [newRows, forceC_eq, forceVs_eq, pushK_eq, setHK_eq] at e
  have hyy := ev_erv fr y
  split at e
  · rename_i hx
    have hx' : x.ev (ers fr) = .nilslice := by rw [ev_erv, hx]; rfl
    rcases srcK_sim e with ⟨hy, e⟩ | ⟨n, l, hy, e⟩ | ⟨n, cs, l, hy, hl, hes, e⟩ <;> rw [← hyy] at hy <;> obtain ⟨hc, e⟩ := selK_t e <;> have ha := append_nil hx' hy hc
    · exact ⟨_, _, by rw [ha]; rfl, e⟩
    · rcases selK_some e with ⟨hn, e⟩ | ⟨hn, e⟩
      · exact ⟨_, _, by rw [ha, if_pos (by simpa using hn)]; rfl, e⟩
      · have hn' : ¬ n = 0 := by simpa using hn
        rw [if_neg hn'] at ha
        have hcells : k (.slice h.length 0 n es) (h ++ [.cells l]) = some r → ∃ v h', aOp (ers fr) (erh h) (.append es bytes x y) = some (.val (erv v) (erh h')) ∧ k v h' = some r := fun e =>
          ⟨_, _, by rw [ha, erh_push, erh_length]; rfl, e⟩
        split at e
        · rename_i cs hcs
          split at e
          · rename_i rl hrl
            obtain ⟨he, e⟩ := selK_t e
            have he' : es = cs.length := by simpa using he
            obtain ⟨h1, h2⟩ := rowsOf_spec n l rl hrl
            refine ⟨_, _, ?_, e⟩
            rw [ha, erh_push, erh_length, h1]; simp [erv, ero]
          · exact hcells e
        · exact hcells e
    · rcases selK_some e with ⟨hn, e⟩ | ⟨hn, e⟩
      · exact ⟨_, _, by rw [ha, if_pos (by simpa using hn)]; rfl, e⟩
      · have hn' : ¬ n = 0 := by simpa using hn
        refine ⟨_, _, ?_, e⟩
        rw [ha, if_neg hn', erh_push, erh_length]; simp [erv, ero]
  · rename_i i o m es' hx
    have hx' : x.ev (ers fr) = .slice i o m es' := by rw [ev_erv, hx]; rfl
    rcases srcK_sim e with ⟨hy, e⟩ | ⟨n, l, hy, e⟩ | ⟨n, cs, l, hy, hl, hes, e⟩ <;> rw [← hyy] at hy
    · exact ⟨_, _, by rw [append_same hx' hy]; rfl, e⟩
    · rcases selK_some e with ⟨hn, e⟩ | ⟨hn, e⟩
      · have hn' : n = 0 := by simpa using hn
        subst hn'
        exact ⟨_, _, by rw [append_same hx' hy]; rfl, e⟩
      · have hn' : ¬ n = 0 := by simpa using hn
        split at e
        · rename_i vs hi
          obtain ⟨xs, hs, e⟩ := optK_some e
          obtain ⟨hc, e2⟩ := selK_t e
          simp only [Bool.and_eq_true, beq_iff_eq] at hc
          obtain ⟨⟨⟨rfl, hc⟩, ho⟩, h1⟩ := hc
          refine ⟨_, _, ?_, e2⟩
          rw [append_more hx' hy hn' (vs := ers vs) (xs := ers xs) (by rw [erh_get, hi]; rfl) (by rw [subK_sim, hs]; rfl) hc (by rw [hyy, other_sim]; exact ho) (by rw [ones_sim]; exact h1),
            erh_push, erh_set, erh_length]
          simp [erv, ero, ers_append]
        · cases e
    · rcases selK_some e with ⟨hn, e⟩ | ⟨hn, e⟩
      · have hn' : n = 0 := by simpa using hn
        subst hn'
        exact ⟨_, _, by rw [append_same hx' hy]; rfl, e⟩
      · have hn' : ¬ n = 0 := by simpa using hn
        split at e
        · rename_i vs hi
          obtain ⟨xs, hs, e⟩ := optK_some e
          obtain ⟨xl, hxl, e⟩ := optK_some e
          obtain ⟨hc, e2⟩ := selK_t e
          simp only [Bool.and_eq_true, beq_iff_eq] at hc
          obtain ⟨⟨⟨rfl, he⟩, hc⟩, ho⟩ := hc
          obtain ⟨h1, h2⟩ := rowsOf_spec m xs xl hxl
          refine ⟨_, _, ?_, e2⟩
          rw [append_more hx' hy hn' (vs := ers vs) (xs := ers xs) (by rw [erh_get, hi]; rfl) (by rw [subK_sim, hs]; rfl) hc (by rw [hyy, other_sim]; exact ho) (flat_one l),
            erh_push, erh_set, erh_length, h1, List.length_set]
          simp [erv, ero, flat_append]
        · cases e
  · rename_i i r' m es' hx
    have hx' : x.ev (ers fr) = .slice i (r' * es') m es' := by rw [ev_erv, hx]; rfl
    rcases srcK_sim e with ⟨hy, e⟩ | ⟨n, l, hy, e⟩ | ⟨n, cs, l, hy, hl, hes, e⟩ <;> rw [← hyy] at hy
    · exact ⟨_, _, by rw [append_same hx' hy]; rfl, e⟩
    · rcases selK_some e with ⟨hn, e⟩ | ⟨hn, e⟩
      · have hn' : n = 0 := by simpa using hn
        subst hn'
        exact ⟨_, _, by rw [append_same hx' hy]; rfl, e⟩
      · have hn' : ¬ n = 0 := by simpa using hn
        split at e
        · rename_i cs xl hi
          obtain ⟨rl, hrl, e⟩ := optK_some e
          obtain ⟨hc, e2⟩ := selK_t e
          simp only [Bool.and_eq_true, beq_iff_eq, decide_eq_true_eq] at hc
          obtain ⟨⟨⟨⟨rfl, rfl⟩, hb⟩, hc⟩, ho⟩ := hc
          obtain ⟨h1, h2⟩ := rowsOf_spec n l rl hrl
          refine ⟨_, _, ?_, e2⟩
          rw [append_more hx' hy hn' (vs := flat cs xl) (xs := flat cs ((xl.drop r').take m)) (by rw [erh_get, hi]; rfl) (flat_sub xl r' m hb) hc (by rw [hyy, other_sim]; exact ho) (by rw [h1]; exact flat_one rl),
            erh_push, erh_set, erh_length, h1, List.length_set]
          simp [erv, ero, flat_append]
        · cases e
    · rcases selK_some e with ⟨hn, e⟩ | ⟨hn, e⟩
      · have hn' : n = 0 := by simpa using hn
        subst hn'
        exact ⟨_, _, by rw [append_same hx' hy]; rfl, e⟩
      · have hn' : ¬ n = 0 := by simpa using hn
        split at e
        · rename_i ds xl hi
          obtain ⟨hd, l', e, hfl, hll⟩ := sameK_sim e
          obtain ⟨hc, e2⟩ := selK_t e
          simp only [Bool.and_eq_true, beq_iff_eq, decide_eq_true_eq] at hc
          obtain ⟨⟨⟨⟨rfl, he⟩, hb⟩, hc⟩, ho⟩ := hc
          subst he
          refine ⟨_, _, ?_, e2⟩
          rw [append_more hx' hy hn' (vs := flat ds xl) (xs := flat ds ((xl.drop r').take m)) (by rw [erh_get, hi]; rfl) (flat_sub xl r' m hb) hc (by rw [hyy, other_sim]; exact ho) (by rw [← hfl]; exact flat_one l'),
            erh_push, erh_set, erh_length, List.length_set, ← hfl]
          simp [erv, ero, flat_append]
        · cases e
  · cases e

end
end Go.Ax
