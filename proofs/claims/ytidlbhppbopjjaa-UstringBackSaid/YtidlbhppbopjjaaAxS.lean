/-
Words for running the abstract machine on open values: blocks of numbers, of strings; renaming that changes nothing.
-/
import Derived.Test.YtidlbhppbopjjaaAxD
namespace Go.Ax
set_option linter.unusedVariables false
set_option linter.unusedSimpArgs false

/-! ### The machine's steps as equations in which what comes behind waits for what comes first -/

def obind {α β : Type} (x : Option α) (k : α → Option β) : Option β :=
  match x with
  | some a => k a
  | none => none
@[congr] theorem obind_congr {α β : Type} {x y : Option α} {k : α → Option β} (h : x = y) : obind x k = obind y k := by rw [h]
theorem obind_some {α β : Type} (a : α) (k : α → Option β) : obind (some a) k = k a := _root_.id rfl
theorem obind_none {α β : Type} (k : α → Option β) : obind none k = none := _root_.id rfl

def sel {β : Type} (t : Bool) (a b : β) : β := if t then a else b
@[congr] theorem sel_congr {β : Type} {t u : Bool} {a b : β} (h : t = u) : sel t a b = sel u a b := by rw [h]
theorem sel_true {β : Type} (a b : β) : sel true a b = a := _root_.id rfl
theorem sel_false {β : Type} (a b : β) : sel false a b = b := _root_.id rfl

/-- What is done with an operation's outcome. -/
def outK {β : Type} (call : ACall) (h : AHeap) (o : AOut) (k : AV → AHeap → Option β) : Option β :=
  match o with
  | .val v h' => k v h'
  | .skip h' => k .undef h'
  | .call f args => obind (call f args h) fun r => k r.1 r.2
@[congr] theorem outK_congr {β : Type} {call : ACall} {h : AHeap} {o p : AOut} {k : AV → AHeap → Option β} (e : o = p) : outK call h o k = outK call h p k := by rw [e]
theorem outK_val {β : Type} (call : ACall) (h h' : AHeap) (v : AV) (k : AV → AHeap → Option β) : outK call h (.val v h') k = k v h' := _root_.id rfl
theorem outK_skip {β : Type} (call : ACall) (h h' : AHeap) (k : AV → AHeap → Option β) : outK call h (.skip h') k = k (.tuple []) h' := _root_.id rfl
theorem outK_call {β : Type} (call : ACall) (h : AHeap) (f : FuncId) (args : List AV) (k : AV → AHeap → Option β) : outK call h (.call f args) k = obind (call f args h) fun r => k r.1 r.2 := _root_.id rfl

theorem aOps_nil (call : ACall) (fr : List AV) (h : AHeap) : aOps call [] fr h = some (fr, h) := _root_.id rfl
theorem aOps_cons (call : ACall) (dst : Option Nat) (op : AOp) (g : Option (Nat × Bool)) (l : List AI) (fr : List AV) (h : AHeap) :
    aOps call (⟨dst, op, g⟩ :: l) fr h = obind (wantedA fr g) fun b => sel b (obind (aOp fr h op) fun o => outK call h o fun v h' => aOps call l (put fr dst v) h') (aOps call l (put fr dst (.tuple [])) h) := by
  simp only [aOps]
  cases wantedA fr g with
  | none => rfl
  | some b =>
    cases b with
    | false => rfl
    | true =>
      simp only [obind_some, sel_true]
      cases aOp fr h op with
      | none => rfl
      | some o =>
        cases o with
        | val v h' => rfl
        | skip h' => rfl
        | call f args =>
          simp only [obind_some, outK_call]
          cases call f args h with
          | none => rfl
          | some r => rfl

def quietK {β : Type} (call : ACall) (h : AHeap) (op : AOp) (o : AOut) (k : AV → Option β) : Option β :=
  match o with
  | .val v _ => sel (v.det || op.free) (k v) none
  | .call f args => obind (callR call f args h) k
  | .skip _ => none
@[congr] theorem quietK_congr {β : Type} {call : ACall} {h : AHeap} {op : AOp} {o p : AOut} {k : AV → Option β} (e : o = p) : quietK call h op o k = quietK call h op p k := by rw [e]
theorem quietK_val {β : Type} (call : ACall) (h h' : AHeap) (op : AOp) (v : AV) (k : AV → Option β) : quietK call h op (.val v h') k = sel (v.det || op.free) (k v) none := _root_.id rfl
theorem quietK_call {β : Type} (call : ACall) (h : AHeap) (op : AOp) (f : FuncId) (args : List AV) (k : AV → Option β) : quietK call h op (.call f args) k = obind (callR call f args h) k := _root_.id rfl

theorem aQuiet_nil (call : ACall) (fr : List AV) (h : AHeap) : aQuiet call [] fr h = some fr := _root_.id rfl
theorem aQuiet_cons (call : ACall) (dst : Option Nat) (op : AOp) (g : Option (Nat × Bool)) (l : List AI) (fr : List AV) (h : AHeap) :
    aQuiet call (⟨dst, op, g⟩ :: l) fr h = obind (wantedA fr g) fun b => sel b (sel op.still (obind (aOp fr h op) fun o => quietK call h op o fun v => aQuiet call l (put fr dst v) h) none) (aQuiet call l (put fr dst (.tuple [])) h) := by
  simp only [aQuiet]
  cases wantedA fr g with
  | none => rfl
  | some b =>
    cases b with
    | false => rfl
    | true =>
      simp only [obind_some, sel_true]
      cases hs : op.still with
      | false => simp [sel]
      | true =>
        simp only [sel_true, Bool.true_eq_false, if_false]
        cases aOp fr h op with
        | none => rfl
        | some o =>
          cases o with
          | val v h' => rfl
          | skip h' => rfl
          | call f args =>
            simp only [obind_some, quietK_call]
            cases callR call f args h with
            | none => rfl
            | some r => rfl

theorem callR_eq (call : ACall) (f : FuncId) (args : List AV) (h : AHeap) : callR call f args h = obind (call f args (h.map AObj.toRo)) fun r => sel r.1.scalar (some r.1) none := by
  unfold callR
  cases call f args (h.map AObj.toRo) with
  | none => rfl
  | some r => rfl

def condK {β : Type} (v : AV) (k : Bool → Option β) : Option β :=
  match v with
  | .bool t => k t
  | _ => none
@[congr] theorem condK_congr {β : Type} {v u : AV} {k : Bool → Option β} (h : v = u) : condK v k = condK u k := by rw [h]
theorem condK_bool {β : Type} (t : Bool) (k : Bool → Option β) : condK (.bool t) k = k t := _root_.id rfl

def normK (r : AExit × List AV × AHeap) (k : List AV → AHeap → Option (AExit × List AV × AHeap)) : Option (AExit × List AV × AHeap) :=
  match r with
  | (.normal, fr, h) => k fr h
  | r => some r
@[congr] theorem normK_congr {r q : AExit × List AV × AHeap} {k : List AV → AHeap → Option (AExit × List AV × AHeap)} (e : r = q) : normK r k = normK q k := by rw [e]
theorem normK_normal (fr : List AV) (h : AHeap) (k : List AV → AHeap → Option (AExit × List AV × AHeap)) : normK (.normal, fr, h) k = k fr h := _root_.id rfl
theorem normK_exit (i : Nat) (fr : List AV) (h : AHeap) (k : List AV → AHeap → Option (AExit × List AV × AHeap)) : normK (.exit i, fr, h) k = some (.exit i, fr, h) := _root_.id rfl
theorem normK_ret (fr : List AV) (h : AHeap) (k : List AV → AHeap → Option (AExit × List AV × AHeap)) : normK (.ret, fr, h) k = some (.ret, fr, h) := _root_.id rfl

def blockK (id : Nat) (r : AExit × List AV × AHeap) : AExit × List AV × AHeap :=
  match r with
  | (.exit i, fr, h) => if i = id then (.normal, fr, h) else (.exit i, fr, h)
  | r => r
theorem blockK_normal (id : Nat) (fr : List AV) (h : AHeap) : blockK id (.normal, fr, h) = (.normal, fr, h) := _root_.id rfl
theorem blockK_ret (id : Nat) (fr : List AV) (h : AHeap) : blockK id (.ret, fr, h) = (.ret, fr, h) := _root_.id rfl
theorem blockK_exit (id i : Nat) (fr : List AV) (h : AHeap) : blockK id (.exit i, fr, h) = if i = id then (.normal, fr, h) else (.exit i, fr, h) := _root_.id rfl

section
variable (call : ACall) (R n0 : Nat) (fr : List AV) (h : AHeap)
theorem aCode_skip : aCode call R n0 .skip fr h = some (.normal, fr, h) := _root_.id rfl
theorem aCode_ret : aCode call R n0 .ret fr h = some (.ret, fr, h) := _root_.id rfl
theorem aCode_exit (id : Nat) : aCode call R n0 (.exit id) fr h = some (.exit id, fr, h) := _root_.id rfl
theorem aCode_ops (l : List AI) : aCode call R n0 (.ops l) fr h = obind (aOps call l fr h) fun r => some (.normal, r.1, r.2) := by
  simp only [aCode]; cases aOps call l fr h <;> rfl
theorem aCode_quiet (l : List AI) : aCode call R n0 (.quiet l) fr h = obind (aQuiet call l fr h) fun r => some (.normal, r, h) := by
  simp only [aCode]; cases aQuiet call l fr h <;> rfl
theorem aCode_seq (a b : AC) : aCode call R n0 (.seq a b) fr h = obind (aCode call R n0 a fr h) fun r => normK r fun fr h => aCode call R n0 b fr h := by
  simp only [aCode]
  cases aCode call R n0 a fr h with
  | none => rfl
  | some r =>
    obtain ⟨e, fr1, h1⟩ := r
    cases e <;> rfl
theorem aCode_cond (c : AOpd) (a b : AC) : aCode call R n0 (.cond c a b) fr h = condK (c.ev fr) fun t => sel t (aCode call R n0 a fr h) (aCode call R n0 b fr h) := by
  simp only [aCode]
  cases c.ev fr <;> rfl
theorem aCode_block (id : Nat) (a : AC) : aCode call R n0 (.block id a) fr h = obind (aCode call R n0 a fr h) fun r => some (blockK id r) := by
  simp only [aCode]
  cases aCode call R n0 a fr h with
  | none => rfl
  | some r =>
    obtain ⟨e, fr1, h1⟩ := r
    cases e with
    | normal => rfl
    | ret => rfl
    | exit i =>
      simp only [obind_some, blockK]
      split <;> rfl
theorem aCode_loop (live : List Bool) (a : AC) : aCode call R n0 (.loop live a) fr h = aLoop n0 live (fun fr h => aCode call R n0 a fr h) R fr h := _root_.id rfl
end

def endK (r : AExit × List AV × AHeap) (k : List AV → AHeap → Option (AV × AHeap)) : Option (AV × AHeap) :=
  match r with
  | (.exit _, _, _) => none
  | (_, fr, h) => k fr h
@[congr] theorem endK_congr {r q : AExit × List AV × AHeap} {k : List AV → AHeap → Option (AV × AHeap)} (e : r = q) : endK r k = endK q k := by rw [e]
theorem endK_normal (fr : List AV) (h : AHeap) (k : List AV → AHeap → Option (AV × AHeap)) : endK (.normal, fr, h) k = k fr h := _root_.id rfl
theorem endK_ret (fr : List AV) (h : AHeap) (k : List AV → AHeap → Option (AV × AHeap)) : endK (.ret, fr, h) k = k fr h := _root_.id rfl

/-- A function that is run. -/
theorem aFn_run {F : FuncId → Option AFn} {T : FuncId → Option (List AV → AHeap → Option (AV × AHeap))} {R n : Nat} {f : FuncId} {fn : AFn} (hT : T f = none) (hF : F f = some fn) (args : List AV) (h : AHeap) :
    aFn F T R (n + 1) f args h = obind (aCode (aFn F T R n) R h.length fn.code (args ++ List.replicate (fn.ntmps - args.length) (.tuple [])) h) fun r => endK r fun fr h' =>
      obind (resAll fr h' fn.res) fun vs => obind (renorm h.length vs h') fun q => some (tup q.1, q.2) := by
  simp only [aFn, hT, hF]
  cases aCode (aFn F T R n) R h.length fn.code (args ++ List.replicate (fn.ntmps - args.length) (.tuple [])) h with
  | none => rfl
  | some r =>
    obtain ⟨e, fr, h'⟩ := r
    cases e with
    | exit i => rfl
    | normal =>
      simp only [obind_some, endK_normal]
      cases resAll fr h' fn.res with
      | none => rfl
      | some vs =>
        simp only [obind_some]
        cases renorm h.length vs h' with
        | none => rfl
        | some q => rfl
    | ret =>
      simp only [obind_some, endK_ret]
      cases resAll fr h' fn.res with
      | none => rfl
      | some vs =>
        simp only [obind_some]
        cases renorm h.length vs h' with
        | none => rfl
        | some q => rfl

/-- A function of the table. -/
theorem aFn_tab {F : FuncId → Option AFn} {T : FuncId → Option (List AV → AHeap → Option (AV × AHeap))} {R n : Nat} {f : FuncId} {g : List AV → AHeap → Option (AV × AHeap)} (hT : T f = some g) (args : List AV) (h : AHeap) :
    aFn F T R (n + 1) f args h = g args h := by
  simp only [aFn, hT]

section
variable (fr : List AV) (h : AHeap)
theorem getD_0 {α : Type} (a0 : α) (l : List α) (x : α) : (a0 :: l).getD 0 x = a0 := _root_.id rfl
theorem set_0 {α : Type} (a0 : α) (l : List α) (x : α) : (a0 :: l).set 0 x = x :: l := _root_.id rfl
theorem getD_1 {α : Type} (a0 a1 : α) (l : List α) (x : α) : (a0 :: a1 :: l).getD 1 x = a1 := _root_.id rfl
theorem set_1 {α : Type} (a0 a1 : α) (l : List α) (x : α) : (a0 :: a1 :: l).set 1 x = a0 :: x :: l := _root_.id rfl
theorem getD_2 {α : Type} (a0 a1 a2 : α) (l : List α) (x : α) : (a0 :: a1 :: a2 :: l).getD 2 x = a2 := _root_.id rfl
theorem set_2 {α : Type} (a0 a1 a2 : α) (l : List α) (x : α) : (a0 :: a1 :: a2 :: l).set 2 x = a0 :: a1 :: x :: l := _root_.id rfl
theorem getD_3 {α : Type} (a0 a1 a2 a3 : α) (l : List α) (x : α) : (a0 :: a1 :: a2 :: a3 :: l).getD 3 x = a3 := _root_.id rfl
theorem set_3 {α : Type} (a0 a1 a2 a3 : α) (l : List α) (x : α) : (a0 :: a1 :: a2 :: a3 :: l).set 3 x = a0 :: a1 :: a2 :: x :: l := _root_.id rfl
theorem getD_4 {α : Type} (a0 a1 a2 a3 a4 : α) (l : List α) (x : α) : (a0 :: a1 :: a2 :: a3 :: a4 :: l).getD 4 x = a4 := _root_.id rfl
theorem set_4 {α : Type} (a0 a1 a2 a3 a4 : α) (l : List α) (x : α) : (a0 :: a1 :: a2 :: a3 :: a4 :: l).set 4 x = a0 :: a1 :: a2 :: a3 :: x :: l := _root_.id rfl
theorem getD_5 {α : Type} (a0 a1 a2 a3 a4 a5 : α) (l : List α) (x : α) : (a0 :: a1 :: a2 :: a3 :: a4 :: a5 :: l).getD 5 x = a5 := _root_.id rfl
theorem set_5 {α : Type} (a0 a1 a2 a3 a4 a5 : α) (l : List α) (x : α) : (a0 :: a1 :: a2 :: a3 :: a4 :: a5 :: l).set 5 x = a0 :: a1 :: a2 :: a3 :: a4 :: x :: l := _root_.id rfl
theorem getD_6 {α : Type} (a0 a1 a2 a3 a4 a5 a6 : α) (l : List α) (x : α) : (a0 :: a1 :: a2 :: a3 :: a4 :: a5 :: a6 :: l).getD 6 x = a6 := _root_.id rfl
theorem set_6 {α : Type} (a0 a1 a2 a3 a4 a5 a6 : α) (l : List α) (x : α) : (a0 :: a1 :: a2 :: a3 :: a4 :: a5 :: a6 :: l).set 6 x = a0 :: a1 :: a2 :: a3 :: a4 :: a5 :: x :: l := _root_.id rfl
theorem getD_7 {α : Type} (a0 a1 a2 a3 a4 a5 a6 a7 : α) (l : List α) (x : α) : (a0 :: a1 :: a2 :: a3 :: a4 :: a5 :: a6 :: a7 :: l).getD 7 x = a7 := _root_.id rfl
theorem set_7 {α : Type} (a0 a1 a2 a3 a4 a5 a6 a7 : α) (l : List α) (x : α) : (a0 :: a1 :: a2 :: a3 :: a4 :: a5 :: a6 :: a7 :: l).set 7 x = a0 :: a1 :: a2 :: a3 :: a4 :: a5 :: a6 :: x :: l := _root_.id rfl
theorem getD_8 {α : Type} (a0 a1 a2 a3 a4 a5 a6 a7 a8 : α) (l : List α) (x : α) : (a0 :: a1 :: a2 :: a3 :: a4 :: a5 :: a6 :: a7 :: a8 :: l).getD 8 x = a8 := _root_.id rfl
theorem set_8 {α : Type} (a0 a1 a2 a3 a4 a5 a6 a7 a8 : α) (l : List α) (x : α) : (a0 :: a1 :: a2 :: a3 :: a4 :: a5 :: a6 :: a7 :: a8 :: l).set 8 x = a0 :: a1 :: a2 :: a3 :: a4 :: a5 :: a6 :: a7 :: x :: l := _root_.id rfl
theorem getD_9 {α : Type} (a0 a1 a2 a3 a4 a5 a6 a7 a8 a9 : α) (l : List α) (x : α) : (a0 :: a1 :: a2 :: a3 :: a4 :: a5 :: a6 :: a7 :: a8 :: a9 :: l).getD 9 x = a9 := _root_.id rfl
theorem set_9 {α : Type} (a0 a1 a2 a3 a4 a5 a6 a7 a8 a9 : α) (l : List α) (x : α) : (a0 :: a1 :: a2 :: a3 :: a4 :: a5 :: a6 :: a7 :: a8 :: a9 :: l).set 9 x = a0 :: a1 :: a2 :: a3 :: a4 :: a5 :: a6 :: a7 :: a8 :: x :: l := _root_.id rfl
theorem getD_10 {α : Type} (a0 a1 a2 a3 a4 a5 a6 a7 a8 a9 a10 : α) (l : List α) (x : α) : (a0 :: a1 :: a2 :: a3 :: a4 :: a5 :: a6 :: a7 :: a8 :: a9 :: a10 :: l).getD 10 x = a10 := _root_.id rfl
theorem set_10 {α : Type} (a0 a1 a2 a3 a4 a5 a6 a7 a8 a9 a10 : α) (l : List α) (x : α) : (a0 :: a1 :: a2 :: a3 :: a4 :: a5 :: a6 :: a7 :: a8 :: a9 :: a10 :: l).set 10 x = a0 :: a1 :: a2 :: a3 :: a4 :: a5 :: a6 :: a7 :: a8 :: a9 :: x :: l := _root_.id rfl
theorem getD_11 {α : Type} (a0 a1 a2 a3 a4 a5 a6 a7 a8 a9 a10 a11 : α) (l : List α) (x : α) : (a0 :: a1 :: a2 :: a3 :: a4 :: a5 :: a6 :: a7 :: a8 :: a9 :: a10 :: a11 :: l).getD 11 x = a11 := _root_.id rfl
theorem set_11 {α : Type} (a0 a1 a2 a3 a4 a5 a6 a7 a8 a9 a10 a11 : α) (l : List α) (x : α) : (a0 :: a1 :: a2 :: a3 :: a4 :: a5 :: a6 :: a7 :: a8 :: a9 :: a10 :: a11 :: l).set 11 x = a0 :: a1 :: a2 :: a3 :: a4 :: a5 :: a6 :: a7 :: a8 :: a9 :: a10 :: x :: l := _root_.id rfl
theorem getD_12 {α : Type} (a0 a1 a2 a3 a4 a5 a6 a7 a8 a9 a10 a11 a12 : α) (l : List α) (x : α) : (a0 :: a1 :: a2 :: a3 :: a4 :: a5 :: a6 :: a7 :: a8 :: a9 :: a10 :: a11 :: a12 :: l).getD 12 x = a12 := _root_.id rfl
theorem set_12 {α : Type} (a0 a1 a2 a3 a4 a5 a6 a7 a8 a9 a10 a11 a12 : α) (l : List α) (x : α) : (a0 :: a1 :: a2 :: a3 :: a4 :: a5 :: a6 :: a7 :: a8 :: a9 :: a10 :: a11 :: a12 :: l).set 12 x = a0 :: a1 :: a2 :: a3 :: a4 :: a5 :: a6 :: a7 :: a8 :: a9 :: a10 :: a11 :: x :: l := _root_.id rfl
theorem getD_13 {α : Type} (a0 a1 a2 a3 a4 a5 a6 a7 a8 a9 a10 a11 a12 a13 : α) (l : List α) (x : α) : (a0 :: a1 :: a2 :: a3 :: a4 :: a5 :: a6 :: a7 :: a8 :: a9 :: a10 :: a11 :: a12 :: a13 :: l).getD 13 x = a13 := _root_.id rfl
theorem set_13 {α : Type} (a0 a1 a2 a3 a4 a5 a6 a7 a8 a9 a10 a11 a12 a13 : α) (l : List α) (x : α) : (a0 :: a1 :: a2 :: a3 :: a4 :: a5 :: a6 :: a7 :: a8 :: a9 :: a10 :: a11 :: a12 :: a13 :: l).set 13 x = a0 :: a1 :: a2 :: a3 :: a4 :: a5 :: a6 :: a7 :: a8 :: a9 :: a10 :: a11 :: a12 :: x :: l := _root_.id rfl
theorem getD_14 {α : Type} (a0 a1 a2 a3 a4 a5 a6 a7 a8 a9 a10 a11 a12 a13 a14 : α) (l : List α) (x : α) : (a0 :: a1 :: a2 :: a3 :: a4 :: a5 :: a6 :: a7 :: a8 :: a9 :: a10 :: a11 :: a12 :: a13 :: a14 :: l).getD 14 x = a14 := _root_.id rfl
theorem set_14 {α : Type} (a0 a1 a2 a3 a4 a5 a6 a7 a8 a9 a10 a11 a12 a13 a14 : α) (l : List α) (x : α) : (a0 :: a1 :: a2 :: a3 :: a4 :: a5 :: a6 :: a7 :: a8 :: a9 :: a10 :: a11 :: a12 :: a13 :: a14 :: l).set 14 x = a0 :: a1 :: a2 :: a3 :: a4 :: a5 :: a6 :: a7 :: a8 :: a9 :: a10 :: a11 :: a12 :: a13 :: x :: l := _root_.id rfl
theorem getD_15 {α : Type} (a0 a1 a2 a3 a4 a5 a6 a7 a8 a9 a10 a11 a12 a13 a14 a15 : α) (l : List α) (x : α) : (a0 :: a1 :: a2 :: a3 :: a4 :: a5 :: a6 :: a7 :: a8 :: a9 :: a10 :: a11 :: a12 :: a13 :: a14 :: a15 :: l).getD 15 x = a15 := _root_.id rfl
theorem set_15 {α : Type} (a0 a1 a2 a3 a4 a5 a6 a7 a8 a9 a10 a11 a12 a13 a14 a15 : α) (l : List α) (x : α) : (a0 :: a1 :: a2 :: a3 :: a4 :: a5 :: a6 :: a7 :: a8 :: a9 :: a10 :: a11 :: a12 :: a13 :: a14 :: a15 :: l).set 15 x = a0 :: a1 :: a2 :: a3 :: a4 :: a5 :: a6 :: a7 :: a8 :: a9 :: a10 :: a11 :: a12 :: a13 :: a14 :: x :: l := _root_.id rfl
theorem getD_16 {α : Type} (a0 a1 a2 a3 a4 a5 a6 a7 a8 a9 a10 a11 a12 a13 a14 a15 : α) (l : List α) (n : Nat) (x : α) : (a0 :: a1 :: a2 :: a3 :: a4 :: a5 :: a6 :: a7 :: a8 :: a9 :: a10 :: a11 :: a12 :: a13 :: a14 :: a15 :: l).getD (n + 16) x = l.getD n x := _root_.id rfl
theorem set_16 {α : Type} (a0 a1 a2 a3 a4 a5 a6 a7 a8 a9 a10 a11 a12 a13 a14 a15 : α) (l : List α) (n : Nat) (x : α) : (a0 :: a1 :: a2 :: a3 :: a4 :: a5 :: a6 :: a7 :: a8 :: a9 :: a10 :: a11 :: a12 :: a13 :: a14 :: a15 :: l).set (n + 16) x = a0 :: a1 :: a2 :: a3 :: a4 :: a5 :: a6 :: a7 :: a8 :: a9 :: a10 :: a11 :: a12 :: a13 :: a14 :: a15 :: l.set n x := _root_.id rfl
theorem ev_t (n : Nat) : (AOpd.t n).ev fr = fr.getD n .junk := _root_.id rfl
theorem ev_c (v : AV) : (AOpd.c v).ev fr = v := _root_.id rfl
theorem put_some (d : Nat) (v : AV) : put fr (some d) v = fr.set d v := _root_.id rfl
theorem put_none (v : AV) : put fr none v = fr := _root_.id rfl
def wantK (v : AV) (w : Bool) : Option Bool :=
  match v with
  | .bool b => some (b == w)
  | .tuple [] => some false
  | _ => none
theorem wantK_t (b : Bool) : wantK (.bool b) true = some b := by cases b <;> rfl
theorem wantK_f (b : Bool) : wantK (.bool b) false = some (!b) := by cases b <;> rfl
theorem wantK_undef (w : Bool) : wantK (.tuple []) w = some false := _root_.id rfl
theorem wantedA_none : wantedA fr none = some true := _root_.id rfl
theorem wantedA_some (s : Nat) (w : Bool) : wantedA fr (some (s, w)) = wantK (fr.getD s .junk) w := _root_.id rfl

def ptrK {β : Type} (v : AV) (k : Nat → Nat → Option β) : Option β :=
  match v with
  | .ptr i o => k i o
  | _ => none
@[congr] theorem ptrK_congr {β : Type} {v u : AV} {k : Nat → Nat → Option β} (h : v = u) : ptrK v k = ptrK u k := by rw [h]
theorem ptrK_ptr {β : Type} (i o : Nat) (k : Nat → Nat → Option β) : ptrK (.ptr i o) k = k i o := _root_.id rfl
def strK {β : Type} (v : AV) (k : List UInt8 → Option β) : Option β :=
  match v with
  | .str s => k s
  | _ => none
@[congr] theorem strK_congr {β : Type} {v u : AV} {k : List UInt8 → Option β} (h : v = u) : strK v k = strK u k := by rw [h]
theorem strK_str {β : Type} (s : List UInt8) (k : List UInt8 → Option β) : strK (.str s) k = k s := _root_.id rfl
def intK {β : Type} (v : AV) (k : IntKind → Int → Option β) : Option β :=
  match v with
  | .int i n => k i n
  | _ => none
@[congr] theorem intK_congr {β : Type} {v u : AV} {k : IntKind → Int → Option β} (h : v = u) : intK v k = intK u k := by rw [h]
theorem intK_int {β : Type} (i : IntKind) (n : Int) (k : IntKind → Int → Option β) : intK (.int i n) k = k i n := _root_.id rfl
def aggK {β : Type} (v : AV) (k : List AV → Option β) : Option β :=
  match v with
  | .agg l => k l
  | _ => none
@[congr] theorem aggK_congr {β : Type} {v u : AV} {k : List AV → Option β} (h : v = u) : aggK v k = aggK u k := by rw [h]
theorem aggK_agg {β : Type} (l : List AV) (k : List AV → Option β) : aggK (.agg l) k = k l := _root_.id rfl
def tupK {β : Type} (v : AV) (k : List AV → Option β) : Option β :=
  match v with
  | .tuple l => k l
  | _ => none
@[congr] theorem tupK_congr {β : Type} {v u : AV} {k : List AV → Option β} (h : v = u) : tupK v k = tupK u k := by rw [h]
theorem tupK_tuple {β : Type} (l : List AV) (k : List AV → Option β) : tupK (.tuple l) k = k l := _root_.id rfl
def funK {β : Type} (v : AV) (k : FuncId → List AV → List AV → Option β) : Option β :=
  match v with
  | .func (.func g) a b => k g a b
  | _ => none
@[congr] theorem funK_congr {β : Type} {v u : AV} {k : FuncId → List AV → List AV → Option β} (h : v = u) : funK v k = funK u k := by rw [h]
theorem funK_func {β : Type} (g : FuncId) (a b : List AV) (k : FuncId → List AV → List AV → Option β) : funK (.func (.func g) a b) k = k g a b := _root_.id rfl
def cellsK {β : Type} (o : Option AObj) (k : List AV → Option β) : Option β :=
  match o with
  | some (.cells vs) => k vs
  | _ => none
@[congr] theorem cellsK_congr {β : Type} {v u : Option AObj} {k : List AV → Option β} (h : v = u) : cellsK v k = cellsK u k := by rw [h]
theorem cellsK_some {β : Type} (vs : List AV) (k : List AV → Option β) : cellsK (some (.cells vs)) k = k vs := _root_.id rfl
def iterK {β : Type} (o : Option AObj) (k : List UInt8 → Nat → Option β) : Option β :=
  match o with
  | some (.iter s p) => k s p
  | _ => none
@[congr] theorem iterK_congr {β : Type} {v u : Option AObj} {k : List UInt8 → Nat → Option β} (h : v = u) : iterK v k = iterK u k := by rw [h]
theorem iterK_some {β : Type} (s : List UInt8) (p : Nat) (k : List UInt8 → Nat → Option β) : iterK (some (.iter s p)) k = k s p := _root_.id rfl

def sliceK {β : Type} (v : AV) (k0 : Option β) (k : Nat → Nat → Nat → Nat → Option β) : Option β :=
  match v with
  | .slice i o n es => k i o n es
  | .nilslice => k0
  | _ => none
@[congr] theorem sliceK_congr {β : Type} {v u : AV} {k0 : Option β} {k : Nat → Nat → Nat → Nat → Option β} (h : v = u) : sliceK v k0 k = sliceK u k0 k := by rw [h]
theorem sliceK_slice {β : Type} (i o n es : Nat) (k0 : Option β) (k : Nat → Nat → Nat → Nat → Option β) : sliceK (.slice i o n es) k0 k = k i o n es := _root_.id rfl
theorem sliceK_nil {β : Type} (k0 : Option β) (k : Nat → Nat → Nat → Nat → Option β) : sliceK .nilslice k0 k = k0 := _root_.id rfl

def rowO : Option AObj → Option (List AV)
  | some (.cells vs) => some vs
  | some (.ro vs) => some vs
  | _ => none
theorem row_eq (i : Nat) : AHeap.row h i = rowO h[i]? := by
  unfold AHeap.row rowO
  rfl
theorem rowO_cells (vs : List AV) : rowO (some (.cells vs)) = some vs := _root_.id rfl
theorem rowO_ro (vs : List AV) : rowO (some (.ro vs)) = some vs := _root_.id rfl
theorem rowO_dead : rowO (some .dead) = none := _root_.id rfl
theorem rowO_iter (s : List UInt8) (p : Nat) : rowO (some (.iter s p)) = none := _root_.id rfl

theorem aOp_mov (x : AOpd) : aOp fr h (.mov x) = some (.val (x.ev fr) h) := _root_.id rfl
theorem aOp_pick (c a b : AOpd) : aOp fr h (.pick c a b) = condK (c.ev fr) fun t => some (.val (sel t (a.ev fr) (b.ev fr)) h) := by simp only [aOp]; cases c.ev fr <;> rfl
theorem aOp_new (cs : List AV) : aOp fr h (.new cs) = some (.val (.ptr h.length 0) (h ++ [.cells cs])) := _root_.id rfl
theorem aOp_box (x : AOpd) : aOp fr h (.box x) = obind (x.ev fr).cells fun cs => some (.val (.ptr h.length 0) (h ++ [.cells cs])) := by simp only [aOp]; cases (x.ev fr).cells <;> rfl
theorem aOp_build (z : List AV) (ps : List (Nat × Nat × AOpd)) : aOp fr h (.build z ps) = obind (aFill fr z ps) fun cs => some (.val (.agg cs) h) := by simp only [aOp]; cases aFill fr z ps <;> rfl
theorem aOp_buildSlice (es n : Nat) (z : List AV) (ps : List (Nat × Nat × AOpd)) : aOp fr h (.buildSlice es n z ps) = obind (aFill fr z ps) fun cs => some (.val (.slice h.length 0 n es) (h ++ [.cells cs])) := by simp only [aOp]; cases aFill fr z ps <;> rfl
theorem aOp_load1 (a : AOpd) : aOp fr h (.load1 a) = ptrK (a.ev fr) fun i o => obind (rowO h[i]?) fun vs => obind vs[o]? fun v => some (.val v h) := by
  simp only [aOp]
  cases a.ev fr <;> try rfl
  simp only [ptrK, row_eq]
  rename_i i o
  cases rowO h[i]? with
  | none => rfl
  | some vs => simp only [obind_some]; cases vs[o]? <;> rfl
theorem aOp_loadN (n : Nat) (a : AOpd) : aOp fr h (.loadN n a) = ptrK (a.ev fr) fun i o => obind (rowO h[i]?) fun vs => obind (sub? vs o n) fun l => some (.val (.agg l) h) := by
  simp only [aOp]
  cases a.ev fr <;> try rfl
  simp only [ptrK, row_eq]
  rename_i i o
  cases rowO h[i]? with
  | none => rfl
  | some vs => simp only [obind_some]; cases sub? vs o n <;> rfl
theorem aOp_store (n : Nat) (a v : AOpd) : aOp fr h (.store n a v) = ptrK (a.ev fr) fun i o => cellsK h[i]? fun vs => obind (v.ev fr).cells fun cs =>
    if cs.length = n ∧ o + n ≤ vs.length ∧ cs.all AV.one = true then some (.skip (h.set i (.cells (splice vs o cs)))) else none := by
  simp only [aOp]
  cases a.ev fr <;> try rfl
  simp only [ptrK]
  rename_i i o
  cases h[i]? with
  | none => rfl
  | some ob =>
    cases ob <;> try rfl
    simp only [cellsK]
    cases (v.ev fr).cells <;> rfl
theorem aOp_nilCheck (x : AOpd) : aOp fr h (.nilCheck x) = ptrK (x.ev fr) fun i o => some (.val (.ptr i o) h) := by simp only [aOp]; cases x.ev fr <;> rfl
theorem aOp_bin (op : BinOp) (k : EqK) (x y : AOpd) : aOp fr h (.bin op k x y) = obind (aBin op k (x.ev fr) (y.ev fr)) fun v => some (.val v h) := by simp only [aOp]; cases aBin op k (x.ev fr) (y.ev fr) <;> rfl
theorem aOp_not (x : AOpd) : aOp fr h (.not x) = condK (x.ev fr) fun b => some (.val (.bool (!b)) h) := by simp only [aOp]; cases x.ev fr <;> rfl
theorem aOp_conv (k : IntKind) (x : AOpd) : aOp fr h (.conv k x) = intK (x.ev fr) fun _ n => some (.val (.int k (k.wrap n)) h) := by simp only [aOp]; cases x.ev fr <;> rfl
def notStr : AV → Bool
  | .str _ => false
  | _ => true
theorem notStr_slice (i o n es : Nat) : notStr (.slice i o n es) = true := _root_.id rfl
theorem notStr_nil : notStr .nilslice = true := _root_.id rfl
theorem aOp_b2s (x : AOpd) : aOp fr h (.b2s x) = obind (cellsOf h 1 (x.ev fr)) fun r => if notStr (x.ev fr) = true then obind (bytesOf r.2) fun s => some (.val (.str s) h) else none := by
  simp only [aOp]
  cases cellsOf h 1 (x.ev fr) with
  | none => rfl
  | some r =>
    obtain ⟨k, l⟩ := r
    simp only [obind_some]
    cases x.ev fr <;> simp only [notStr, if_true, Bool.false_eq_true, if_false] <;> cases bytesOf l <;> rfl
theorem aOp_i2s (x : AOpd) : aOp fr h (.i2s x) = intK (x.ev fr) fun _ n => some (.val (.str (Utf8.encode n).data.toList) h) := by simp only [aOp]; cases x.ev fr <;> rfl
theorem aOp_mkfunc (fn : Fn) (a b : List AOpd) : aOp fr h (.mkfunc fn a b) = some (.val (.func fn (a.map (·.ev fr)) (b.map (·.ev fr))) h) := _root_.id rfl
def i64K {β : Type} (v : AV) (k : Int → Option β) : Option β :=
  match v with
  | .int .i64 n => k n
  | _ => none
@[congr] theorem i64K_congr {β : Type} {v u : AV} {k : Int → Option β} (h : v = u) : i64K v k = i64K u k := by rw [h]
theorem i64K_int {β : Type} (n : Int) (k : Int → Option β) : i64K (.int .i64 n) k = k n := _root_.id rfl
theorem aOp_mkslice (es bytes : Nat) (z : List AV) (l c : AOpd) : aOp fr h (.mkslice es bytes z l c) = i64K (l.ev fr) fun a => i64K (c.ev fr) fun b =>
    if 0 ≤ a ∧ a ≤ b ∧ (bytes : Int) * b ≤ 281474976710656 ∧ b ≤ 9223372036854775807 ∧ z.length = es then some (.val (.slice h.length 0 a.toNat es) (h ++ [.cells ((List.replicate b.toNat z).flatten)])) else none := by
  simp only [aOp]
  cases l.ev fr <;> try rfl
  rename_i k a
  cases k <;> try rfl
  cases c.ev fr <;> try rfl
  rename_i k b
  cases k <;> rfl
theorem aOp_substr (x : AOpd) (lo hi : Option AOpd) : aOp fr h (.substr x lo hi) = strK (x.ev fr) fun s => obind (boundD fr hi s.length s.length) fun b => obind (boundD fr lo b 0) fun a => some (.val (.str ((s.drop a).take (b - a))) h) := by
  simp only [aOp]
  cases x.ev fr <;> try rfl
  simp only [strK]
  rename_i s
  cases boundD fr hi s.length s.length with
  | none => rfl
  | some b => simp only [obind_some]; cases boundD fr lo b 0 <;> rfl
theorem aOp_subslice (es : Nat) (x : AOpd) (lo hi mx : Option AOpd) : aOp fr h (.subslice es x lo hi mx) =
    sliceK (x.ev fr) (obind (boundD fr mx 0 0) fun _ => obind (boundD fr hi 0 0) fun _ => obind (boundD fr lo 0 0) fun _ => some (.val .nilslice h)) fun i o n es' =>
    obind (boundD fr mx n n) fun m => obind (boundD fr hi m n) fun b => obind (boundD fr lo b 0) fun a => if es' = es then some (.val (.slice i (o + a * es) (b - a) es) h) else none := by
  simp only [aOp]
  cases x.ev fr with
  | nilslice =>
    simp only [sliceK]
    cases boundD fr mx 0 0 <;> cases boundD fr hi 0 0 <;> cases boundD fr lo 0 0 <;> rfl
  | slice i o n es' =>
    simp only [sliceK]
    cases boundD fr mx n n with
    | none => rfl
    | some m =>
      simp only [obind_some]
      cases boundD fr hi m n with
      | none => rfl
      | some b => simp only [obind_some]; cases boundD fr lo b 0 <;> rfl
  | _ => rfl
theorem aOp_fieldAddr (off : Nat) (x : AOpd) : aOp fr h (.fieldAddr off x) = ptrK (x.ev fr) fun i o => some (.val (.ptr i (o + off)) h) := by simp only [aOp]; cases x.ev fr <;> rfl
theorem aOp_field1 (off : Nat) (x : AOpd) : aOp fr h (.field1 off x) = aggK (x.ev fr) fun cs => obind cs[off]? fun v => some (.val v h) := by
  simp only [aOp]
  cases x.ev fr <;> rfl
theorem aOp_fieldN (off n : Nat) (x : AOpd) : aOp fr h (.fieldN off n x) = aggK (x.ev fr) fun cs => obind (sub? cs off n) fun l => some (.val (.agg l) h) := by
  simp only [aOp]
  cases x.ev fr <;> rfl
theorem aOp_indexAddr (es : Nat) (x i : AOpd) : aOp fr h (.indexAddr es x i) = sliceK (x.ev fr) none fun b o n es' => intK (i.ev fr) fun _ j =>
    if 0 ≤ j ∧ j < (n : Int) ∧ es' = es then some (.val (.ptr b (o + j.toNat * es)) h) else none := by
  simp only [aOp]
  cases x.ev fr <;> try rfl
  cases i.ev fr <;> rfl
theorem aOp_indexStr (x i : AOpd) : aOp fr h (.indexStr x i) = strK (x.ev fr) fun s => intK (i.ev fr) fun _ j => if 0 ≤ j then obind s[j.toNat]? fun b => some (.val (.int .u8 b.toNat) h) else none := by
  simp only [aOp]
  cases x.ev fr <;> try rfl
  rename_i s
  simp only [strK]
  cases i.ev fr <;> rfl
theorem aOp_range (x : AOpd) : aOp fr h (.range x) = strK (x.ev fr) fun s => some (.val (.ptr h.length 0) (h ++ [.iter s 0])) := by simp only [aOp]; cases x.ev fr <;> rfl
theorem aOp_next (x : AOpd) : aOp fr h (.next x) = ptrK (x.ev fr) fun i o => if o = 0 then iterK h[i]? fun s pos => if pos < s.length then
      some (.val (.tuple [.bool true, .int .i64 pos, .int .i32 (Utf8.decode ⟨s.toArray⟩ pos).1]) (h.set i (.iter s (pos + (Utf8.decode ⟨s.toArray⟩ pos).2)))) else some (.val (.tuple [.bool false]) h) else none := by
  simp only [aOp]
  cases x.ev fr <;> try rfl
  rename_i i o
  cases o <;> rfl
theorem aOp_extract (x : AOpd) (i : Nat) : aOp fr h (.extract x i) = tupK (x.ev fr) fun vs => obind vs[i]? fun v => some (.val v h) := by
  simp only [aOp]
  cases x.ev fr <;> rfl
theorem aOp_call (f : AOpd) (args : List AOpd) : aOp fr h (.call f args) = funK (f.ev fr) fun g fs cs => some (.call g (fs ++ args.map (·.ev fr) ++ cs)) := by
  simp only [aOp]
  cases f.ev fr <;> rfl
theorem aOp_lenS (x : AOpd) : aOp fr h (.lenS x) = strK (x.ev fr) fun s => some (.val (.int .i64 s.length) h) := by simp only [aOp]; cases x.ev fr <;> rfl
def lenK : AV → Option Int
  | .slice _ _ n _ => some n
  | .nilslice => some 0
  | _ => none
theorem lenK_slice (i o n es : Nat) : lenK (.slice i o n es) = some (n : Int) := _root_.id rfl
theorem lenK_nil : lenK .nilslice = some 0 := _root_.id rfl
theorem aOp_len (x : AOpd) : aOp fr h (.len x) = obind (lenK (x.ev fr)) fun n => some (.val (.int .i64 n) h) := by simp only [aOp]; cases x.ev fr <;> rfl
theorem aOp_append (es bytes : Nat) (x y : AOpd) : aOp fr h (.append es bytes x y) = obind (cellsOf h es (y.ev fr)) fun r => sliceK (x.ev fr)
    (if (4 * r.1 + 1000) * bytes ≤ 281474976710656 then if r.1 = 0 then some (.val .nilslice h) else some (.val (.slice h.length 0 r.1 es) (h ++ [.cells r.2])) else none) fun i o k es' =>
    if r.1 = 0 then some (.val (.slice i o k es') h) else cellsK h[i]? fun vs => obind (sub? vs o (k * es)) fun xs =>
      if es' = es ∧ (4 * (k + r.1) + 1000) * bytes ≤ 281474976710656 ∧ (y.ev fr).other i = true ∧ r.2.all AV.one = true then
        some (.val (.slice h.length 0 (k + r.1) es) (h.set i .dead ++ [.cells (xs ++ r.2)])) else none := by
  simp only [aOp]
  cases cellsOf h es (y.ev fr) with
  | none => rfl
  | some r =>
    obtain ⟨n, ys⟩ := r
    simp only [obind_some]
    cases x.ev fr <;> try rfl
    rename_i i o k es'
    simp only [sliceK]
    split
    · rfl
    · cases h[i]? with
      | none => rfl
      | some ob =>
        cases ob <;> try rfl
        rename_i vs
        simp only [cellsK]
        cases sub? vs o (k * es) <;> rfl
theorem aOp_min (x y : AOpd) : aOp fr h (.min x y) = obind (aMin (x.ev fr) (y.ev fr)) fun v => some (.val v h) := by simp only [aOp]; cases aMin (x.ev fr) (y.ev fr) <;> rfl
theorem aOp_max (x y : AOpd) : aOp fr h (.max x y) = obind (aMax (x.ev fr) (y.ev fr)) fun v => some (.val v h) := by simp only [aOp]; cases aMax (x.ev fr) (y.ev fr) <;> rfl
end

theorem aMin_int (k k' : IntKind) (a b : Int) : aMin (.int k a) (.int k' b) = if k = k' then some (.int k (if b < a then b else a)) else none := _root_.id rfl
theorem aMax_int (k k' : IntKind) (a b : Int) : aMax (.int k a) (.int k' b) = if k = k' then some (.int k (if a < b then b else a)) else none := _root_.id rfl

section
variable (k k' : IntKind) (a b : Int) (ek : EqK)
theorem bin_add : aBin .add ek (.int k a) (.int k b) = some (.int k (k.wrap (a + b))) := by simp [aBin, aIntBin]
theorem bin_sub : aBin .sub ek (.int k a) (.int k b) = some (.int k (k.wrap (a - b))) := by simp [aBin, aIntBin]
theorem bin_mul : aBin .mul ek (.int k a) (.int k b) = some (.int k (k.wrap (a * b))) := by simp [aBin, aIntBin]
theorem bin_quo : aBin .quo ek (.int k a) (.int k b) = if b = 0 then none else some (.int k (k.wrap (a.tdiv b))) := by simp [aBin, aIntBin]
theorem bin_rem : aBin .rem ek (.int k a) (.int k b) = if b = 0 then none else some (.int k (a.tmod b)) := by simp [aBin, aIntBin]
theorem bin_eql : aBin .eql ek (.int k a) (.int k b) = some (.bool (a == b)) := by simp [aBin, aIntBin]
theorem bin_neq : aBin .neq ek (.int k a) (.int k b) = some (.bool (!(a == b))) := by simp [aBin, aIntBin, bne]
theorem bin_lss : aBin .lss ek (.int k a) (.int k b) = some (.bool (decide (a < b))) := by simp [aBin, aIntBin]
theorem bin_leq : aBin .leq ek (.int k a) (.int k b) = some (.bool (decide (a ≤ b))) := by simp [aBin, aIntBin]
theorem bin_gtr : aBin .gtr ek (.int k a) (.int k b) = some (.bool (decide (b < a))) := by simp [aBin, aIntBin]
theorem bin_geq : aBin .geq ek (.int k a) (.int k b) = some (.bool (decide (b ≤ a))) := by simp [aBin, aIntBin]
theorem bin_shl : aBin .shl ek (.int k a) (.int k' b) = if b < 0 then none else some (.int k (k.wrap (a * 2 ^ (Nat.min b.toNat k.bits)))) := by simp [aBin, aIntBin, isShift]
theorem bin_shr : aBin .shr ek (.int k a) (.int k' b) = if b < 0 then none else some (.int k (a.fdiv (2 ^ (Nat.min b.toNat k.bits)))) := by simp [aBin, aIntBin, isShift]
theorem bin_and : aBin .and ek (.int k a) (.int k b) = some (.int k (bitsA .and k a b)) := by simp [aBin, aIntBin]
theorem bin_or : aBin .or ek (.int k a) (.int k b) = some (.int k (bitsA .or k a b)) := by simp [aBin, aIntBin]
theorem bin_xor : aBin .xor ek (.int k a) (.int k b) = some (.int k (bitsA .xor k a b)) := by simp [aBin, aIntBin]
theorem bin_andNot : aBin .andNot ek (.int k a) (.int k b) = some (.int k (bitsA .andNot k a b)) := by simp [aBin, aIntBin]
variable (s t : List UInt8)
theorem bin_sadd : aBin .add ek (.str s) (.str t) = if ((s.length + t.length : Nat) : Int) ≤ 9223372036854775807 then some (.str (s ++ t)) else none := _root_.id rfl
theorem bin_seql : aBin .eql ek (.str s) (.str t) = some (.bool (s == t)) := _root_.id rfl
theorem bin_sneq : aBin .neq ek (.str s) (.str t) = some (.bool (!(s == t))) := _root_.id rfl
theorem bin_slss : aBin .lss ek (.str s) (.str t) = some (.bool (bytesLt s t)) := _root_.id rfl
variable (p q : Bool)
theorem bin_beql : aBin .eql .bool (.bool p) (.bool q) = some (.bool (p == q)) := _root_.id rfl
theorem bin_bneq : aBin .neq .bool (.bool p) (.bool q) = some (.bool (!(p == q))) := _root_.id rfl
theorem bin_peql0 : aBin .eql .ptr .nilptr .nilptr = some (.bool true) := _root_.id rfl
theorem bin_pneq0 : aBin .neq .ptr .nilptr .nilptr = some (.bool false) := _root_.id rfl
variable (i o n es : Nat)
theorem bin_peql1 : aBin .eql .ptr (.ptr i o) .nilptr = some (.bool false) := _root_.id rfl
theorem bin_pneq1 : aBin .neq .ptr (.ptr i o) .nilptr = some (.bool true) := _root_.id rfl
theorem bin_peql2 : aBin .eql .ptr .nilptr (.ptr i o) = some (.bool false) := _root_.id rfl
theorem bin_pneq2 : aBin .neq .ptr .nilptr (.ptr i o) = some (.bool true) := _root_.id rfl
theorem bin_agg_eql (ks : List CK) (x y : List AV) : aBin .eql (.agg ks) (.agg x) (.agg y) = obind (eqCells ks x y) fun b => some (.bool b) := by simp only [aBin, aEq]; cases eqCells ks x y <;> rfl
theorem bin_agg_neq (ks : List CK) (x y : List AV) : aBin .neq (.agg ks) (.agg x) (.agg y) = obind (eqCells ks x y) fun b => some (.bool (!b)) := by simp only [aBin, aEq]; cases eqCells ks x y <;> rfl
end
section
variable (fr : List AV) (y d : Nat)
theorem boundD_none : boundD fr none y d = some d := _root_.id rfl
theorem boundD_some (x : AOpd) : boundD fr (some x) y d = intK (x.ev fr) fun _ n => if 0 ≤ n ∧ n ≤ (y : Int) then some n.toNat else none := by
  simp only [boundD, bound]; cases x.ev fr <;> rfl
end
section
variable (i n : Nat) (k : IntKind) (m : Int) (s : List UInt8) (b : Bool) (l x y : List AV) (o es : Nat) (f : Fn)
theorem cells_bool : (AV.bool b).cells = some [.bool b] := _root_.id rfl
theorem cells_int : (AV.int k m).cells = some [.int k m] := _root_.id rfl
theorem cells_str : (AV.str s).cells = some [.str s] := _root_.id rfl
theorem cells_agg : (AV.agg l).cells = some l := _root_.id rfl
theorem cells_ptr : (AV.ptr i o).cells = some [.ptr i o] := _root_.id rfl
theorem cells_slice : (AV.slice i o n es).cells = some [.slice i o n es] := _root_.id rfl
theorem cells_func : (AV.func f x y).cells = some [.func f x y] := _root_.id rfl
theorem cells_nilptr : AV.nilptr.cells = some [.nilptr] := _root_.id rfl
theorem cells_nilslice : AV.nilslice.cells = some [.nilslice] := _root_.id rfl
theorem cells_nilFunc : AV.nilFunc.cells = some [.nilFunc] := _root_.id rfl
end

/-! ### Statement after statement -/

section
variable {call : ACall} {R n0 : Nat} {a b : AC} {fr fr1 : List AV} {h h1 : AHeap} {r : Option (AExit × List AV × AHeap)}
theorem seq_step (ha : aCode call R n0 a fr h = some (.normal, fr1, h1)) (hb : aCode call R n0 b fr1 h1 = r) : aCode call R n0 (.seq a b) fr h = r := by
  rw [aCode_seq, ha]; exact hb
theorem seq_eval {r0 : AExit × List AV × AHeap} (ha : aCode call R n0 a fr h = some r0) (hb : normK r0 (fun fr h => aCode call R n0 b fr h) = r) : aCode call R n0 (.seq a b) fr h = r := by
  rw [aCode_seq, ha]; exact hb
theorem seq_ret (ha : aCode call R n0 a fr h = some (.ret, fr1, h1)) : aCode call R n0 (.seq a b) fr h = some (.ret, fr1, h1) := by
  rw [aCode_seq, ha]; rfl
theorem seq_exit {i : Nat} (ha : aCode call R n0 a fr h = some (.exit i, fr1, h1)) : aCode call R n0 (.seq a b) fr h = some (.exit i, fr1, h1) := by
  rw [aCode_seq, ha]; rfl
theorem cond_true {c : AOpd} (hc : c.ev fr = .bool true) (ha : aCode call R n0 a fr h = r) : aCode call R n0 (.cond c a b) fr h = r := by
  rw [aCode_cond, hc]; exact ha
theorem cond_false {c : AOpd} (hc : c.ev fr = .bool false) (ha : aCode call R n0 b fr h = r) : aCode call R n0 (.cond c a b) fr h = r := by
  rw [aCode_cond, hc]; exact ha
theorem block_step {i : Nat} {e e' : AExit} {fr' : List AV} {h' : AHeap} (ha : aCode call R n0 a fr h = some (e, fr1, h1)) (hr : blockK i (e, fr1, h1) = (e', fr', h')) : aCode call R n0 (.block i a) fr h = some (e', fr', h') := by
  rw [aCode_block, ha, ← hr]; rfl
end
theorem fn_step {F : FuncId → Option AFn} {T : FuncId → Option (List AV → AHeap → Option (AV × AHeap))} {R n : Nat} {f : FuncId} {fn : AFn} {args fr0 fr : List AV} {h h' : AHeap} {r : AV × AHeap} (hT : T f = none) (hF : F f = some fn)
    (hfr : args ++ List.replicate (fn.ntmps - args.length) (.tuple []) = fr0) (hc : aCode (aFn F T R n) R h.length fn.code fr0 h = some (.ret, fr, h'))
    (he : (obind (resAll fr h' fn.res) fun vs => obind (renorm h.length vs h') fun q => some (tup q.1, q.2)) = some r) : aFn F T R (n + 1) f args h = some r := by
  rw [aFn_run hT hF, hfr, hc]; exact he

/-! ### Which operations are still, which values are determined -/

theorem still_mov (x : AOpd) : AOp.still (.mov x) = true := _root_.id rfl
theorem free_mov (x : AOpd) : AOp.free (.mov x) = true := _root_.id rfl
theorem still_pick (x y z : AOpd) : AOp.still (.pick x y z) = true := _root_.id rfl
theorem free_pick (x y z : AOpd) : AOp.free (.pick x y z) = true := _root_.id rfl
theorem still_build (l : List AV) (p : List (Nat × Nat × AOpd)) : AOp.still (.build l p) = true := _root_.id rfl
theorem free_build (l : List AV) (p : List (Nat × Nat × AOpd)) : AOp.free (.build l p) = false := _root_.id rfl
theorem still_load1 (x : AOpd) : AOp.still (.load1 x) = true := _root_.id rfl
theorem free_load1 (x : AOpd) : AOp.free (.load1 x) = true := _root_.id rfl
theorem still_loadN (n : Nat) (x : AOpd) : AOp.still (.loadN n x) = true := _root_.id rfl
theorem free_loadN (n : Nat) (x : AOpd) : AOp.free (.loadN n x) = true := _root_.id rfl
theorem still_nilCheck (x : AOpd) : AOp.still (.nilCheck x) = true := _root_.id rfl
theorem free_nilCheck (x : AOpd) : AOp.free (.nilCheck x) = true := _root_.id rfl
theorem still_bin (o : BinOp) (k : EqK) (x y : AOpd) : AOp.still (.bin o k x y) = true := _root_.id rfl
theorem free_bin (o : BinOp) (k : EqK) (x y : AOpd) : AOp.free (.bin o k x y) = false := _root_.id rfl
theorem still_not (x : AOpd) : AOp.still (.not x) = true := _root_.id rfl
theorem free_not (x : AOpd) : AOp.free (.not x) = false := _root_.id rfl
theorem still_conv (k : IntKind) (x : AOpd) : AOp.still (.conv k x) = true := _root_.id rfl
theorem free_conv (k : IntKind) (x : AOpd) : AOp.free (.conv k x) = false := _root_.id rfl
theorem still_b2s (x : AOpd) : AOp.still (.b2s x) = true := _root_.id rfl
theorem free_b2s (x : AOpd) : AOp.free (.b2s x) = false := _root_.id rfl
theorem still_i2s (x : AOpd) : AOp.still (.i2s x) = true := _root_.id rfl
theorem free_i2s (x : AOpd) : AOp.free (.i2s x) = false := _root_.id rfl
theorem still_mkfunc (f : Fn) (a b : List AOpd) : AOp.still (.mkfunc f a b) = true := _root_.id rfl
theorem free_mkfunc (f : Fn) (a b : List AOpd) : AOp.free (.mkfunc f a b) = false := _root_.id rfl
theorem still_substr (x : AOpd) (a b : Option AOpd) : AOp.still (.substr x a b) = true := _root_.id rfl
theorem free_substr (x : AOpd) (a b : Option AOpd) : AOp.free (.substr x a b) = false := _root_.id rfl
theorem still_subslice (n : Nat) (x : AOpd) (a b c : Option AOpd) : AOp.still (.subslice n x a b c) = true := _root_.id rfl
theorem free_subslice (n : Nat) (x : AOpd) (a b c : Option AOpd) : AOp.free (.subslice n x a b c) = false := _root_.id rfl
theorem still_fieldAddr (n : Nat) (x : AOpd) : AOp.still (.fieldAddr n x) = true := _root_.id rfl
theorem free_fieldAddr (n : Nat) (x : AOpd) : AOp.free (.fieldAddr n x) = false := _root_.id rfl
theorem still_field1 (n : Nat) (x : AOpd) : AOp.still (.field1 n x) = true := _root_.id rfl
theorem free_field1 (n : Nat) (x : AOpd) : AOp.free (.field1 n x) = false := _root_.id rfl
theorem still_fieldN (n m : Nat) (x : AOpd) : AOp.still (.fieldN n m x) = true := _root_.id rfl
theorem free_fieldN (n m : Nat) (x : AOpd) : AOp.free (.fieldN n m x) = false := _root_.id rfl
theorem still_indexAddr (n : Nat) (x y : AOpd) : AOp.still (.indexAddr n x y) = true := _root_.id rfl
theorem free_indexAddr (n : Nat) (x y : AOpd) : AOp.free (.indexAddr n x y) = false := _root_.id rfl
theorem still_indexStr (x y : AOpd) : AOp.still (.indexStr x y) = true := _root_.id rfl
theorem free_indexStr (x y : AOpd) : AOp.free (.indexStr x y) = false := _root_.id rfl
theorem still_extract (x : AOpd) (n : Nat) : AOp.still (.extract x n) = true := _root_.id rfl
theorem free_extract (x : AOpd) (n : Nat) : AOp.free (.extract x n) = true := _root_.id rfl
theorem still_call (x : AOpd) (a : List AOpd) : AOp.still (.call x a) = true := _root_.id rfl
theorem free_call (x : AOpd) (a : List AOpd) : AOp.free (.call x a) = false := _root_.id rfl
theorem still_lenS (x : AOpd) : AOp.still (.lenS x) = true := _root_.id rfl
theorem free_lenS (x : AOpd) : AOp.free (.lenS x) = false := _root_.id rfl
theorem still_len (x : AOpd) : AOp.still (.len x) = true := _root_.id rfl
theorem free_len (x : AOpd) : AOp.free (.len x) = false := _root_.id rfl
theorem still_min (x y : AOpd) : AOp.still (.min x y) = true := _root_.id rfl
theorem free_min (x y : AOpd) : AOp.free (.min x y) = false := _root_.id rfl
theorem still_max (x y : AOpd) : AOp.still (.max x y) = true := _root_.id rfl
theorem free_max (x y : AOpd) : AOp.free (.max x y) = false := _root_.id rfl
theorem det_bool (b : Bool) : AV.det (.bool b) = true := _root_.id (by simp only [AV.det])
theorem det_int (k : IntKind) (n : Int) : AV.det (.int k n) = true := _root_.id (by simp only [AV.det])
theorem det_str (s : List UInt8) : AV.det (.str s) = true := _root_.id (by simp only [AV.det])
theorem det_nilptr  : AV.det (.nilptr) = true := _root_.id (by simp only [AV.det])
theorem det_ptr (i o : Nat) : AV.det (.ptr i o) = true := _root_.id (by simp only [AV.det])
theorem det_nilslice  : AV.det (.nilslice) = true := _root_.id (by simp only [AV.det])
theorem det_nilFunc  : AV.det (.nilFunc) = true := _root_.id (by simp only [AV.det])
theorem det_slice (i o n e : Nat) : AV.det (.slice i o n e) = false := _root_.id (by simp only [AV.det])
theorem det_agg (l : List AV) : AV.det (.agg l) = AV.dets l := _root_.id (by simp only [AV.det])
theorem det_tuple (l : List AV) : AV.det (.tuple l) = AV.dets l := _root_.id (by simp only [AV.det])
theorem dets_nil : AV.dets [] = true := _root_.id (by simp only [AV.dets])
theorem dets_cons (v : AV) (l : List AV) : AV.dets (v :: l) = (v.det && AV.dets l) := _root_.id (by simp only [AV.dets])
theorem scalar_bool (b : Bool) : AV.scalar (.bool b) = true := _root_.id (by simp only [AV.scalar])
theorem scalar_int (k : IntKind) (n : Int) : AV.scalar (.int k n) = true := _root_.id (by simp only [AV.scalar])
theorem scalar_str (s : List UInt8) : AV.scalar (.str s) = true := _root_.id (by simp only [AV.scalar])
theorem scalar_nilptr  : AV.scalar (.nilptr) = true := _root_.id (by simp only [AV.scalar])
theorem scalar_ptr (i o : Nat) : AV.scalar (.ptr i o) = false := _root_.id (by simp only [AV.scalar])
theorem scalar_nilslice  : AV.scalar (.nilslice) = true := _root_.id (by simp only [AV.scalar])
theorem scalar_nilFunc  : AV.scalar (.nilFunc) = true := _root_.id (by simp only [AV.scalar])
theorem scalar_slice (i o n e : Nat) : AV.scalar (.slice i o n e) = false := _root_.id (by simp only [AV.scalar])
theorem scalar_agg (l : List AV) : AV.scalar (.agg l) = AV.scalars l := _root_.id (by simp only [AV.scalar])
theorem scalar_tuple (l : List AV) : AV.scalar (.tuple l) = AV.scalars l := _root_.id (by simp only [AV.scalar])
theorem scalars_nil : AV.scalars [] = true := _root_.id (by simp only [AV.scalars])
theorem scalars_cons (v : AV) (l : List AV) : AV.scalars (v :: l) = (v.scalar && AV.scalars l) := _root_.id (by simp only [AV.scalars])
theorem or_t (b : Bool) : (true || b) = true := _root_.id rfl
theorem or_f (b : Bool) : (false || b) = b := _root_.id rfl
theorem and_t (b : Bool) : (true && b) = b := _root_.id rfl
theorem and_f (b : Bool) : (false && b) = false := _root_.id rfl
theorem not_t : (!true) = false := _root_.id rfl
theorem not_f : (!false) = true := _root_.id rfl
theorem toRo_cells (vs : List AV) : AObj.toRo (.cells vs) = .ro vs := _root_.id rfl
theorem toRo_ro (vs : List AV) : AObj.toRo (.ro vs) = .ro vs := _root_.id rfl
theorem toRo_iter (s : List UInt8) (p : Nat) : AObj.toRo (.iter s p) = .dead := _root_.id rfl
theorem toRo_dead : AObj.toRo .dead = .dead := _root_.id rfl
theorem cellsK_nil (h : AHeap) (es : Nat) : cellsOf h es .nilslice = some (0, []) := _root_.id rfl
theorem cellsK_slice (h : AHeap) (es i o n es' : Nat) : cellsOf h es (.slice i o n es') = if es' = es then obind (rowO h[i]?) fun vs => obind (sub? vs o (n * es)) fun l => some (n, l) else none := by
  simp only [cellsOf, row_eq]
  split
  · cases rowO h[i]? with
    | none => rfl
    | some vs => simp only [obind_some]; cases sub? vs o (n * es) <;> rfl
  · rfl
theorem cellsK_str (h : AHeap) (s : List UInt8) : cellsOf h 1 (.str s) = some (s.length, u8s s) := _root_.id rfl


def ints (k : IntKind) (l : List Int) : List AV := l.map (AV.int k)
def strs (l : List (List UInt8)) : List AV := l.map AV.str

theorem ints_length (k : IntKind) (l : List Int) : (ints k l).length = l.length := by simp [ints]
theorem strs_length (l : List (List UInt8)) : (strs l).length = l.length := by simp [strs]
theorem ints_get (k : IntKind) (l : List Int) (i : Nat) : (ints k l)[i]? = (l[i]?).map (AV.int k) := by simp [ints]
theorem strs_get (l : List (List UInt8)) (i : Nat) : (strs l)[i]? = (l[i]?).map AV.str := by simp [strs]

theorem idss_ints (k : IntKind) : ∀ (l : List Int), AV.idss (ints k l) = []
  | [] => rfl
  | _ :: l => by simp [ints, AV.idss, AV.ids]; exact idss_ints k l
theorem idss_strs : ∀ (l : List (List UInt8)), AV.idss (strs l) = []
  | [] => rfl
  | _ :: l => by simp [strs, AV.idss, AV.ids]; exact idss_strs l
theorem rens_ints (ρ : Nat → Option Nat) (k : IntKind) : ∀ (l : List Int), AV.rens ρ (ints k l) = ints k l
  | [] => rfl
  | _ :: l => by simp [ints, AV.rens, AV.ren]; exact rens_ints ρ k l
theorem rens_strs (ρ : Nat → Option Nat) : ∀ (l : List (List UInt8)), AV.rens ρ (strs l) = strs l
  | [] => rfl
  | _ :: l => by simp [strs, AV.rens, AV.ren]; exact rens_strs ρ l
theorem all_one_ints (k : IntKind) (l : List Int) : (ints k l).all AV.one = true := by simp [ints, AV.one]
theorem all_one_strs (l : List (List UInt8)) : (strs l).all AV.one = true := by simp [strs, AV.one]

theorem splice_ints (k : IntKind) (v : Int) : ∀ (l : List Int) (j : Nat), splice (ints k l) j [.int k v] = ints k (l.set j v)
  | [], 0 => rfl
  | [], _ + 1 => rfl
  | _ :: _, 0 => by simp [ints, splice]
  | x :: l, j + 1 => by simp only [ints, List.map_cons, splice, List.set_cons_succ]; exact congrArg _ (splice_ints k v l j)

theorem sub?_all (l : List AV) : sub? l 0 l.length = some l := by simp [sub?]
theorem sub?_ints (k : IntKind) (l : List Int) (o n : Nat) (h : o + n ≤ l.length) : sub? (ints k l) o n = some (ints k ((l.drop o).take n)) := by
  simp [sub?, ints, h]
theorem sub?_strs (l : List (List UInt8)) (o n : Nat) (h : o + n ≤ l.length) : sub? (strs l) o n = some (strs ((l.drop o).take n)) := by
  simp [sub?, strs, h]

theorem bytesOf_ints : ∀ (l : List Int), bytesOf (ints .u8 l) = some (l.map fun n => UInt8.ofNat n.toNat)
  | [] => rfl
  | n :: l => by
    show (bytesOf (ints .u8 l)).map _ = _
    rw [bytesOf_ints l]
    rfl

theorem replicate_ints (k : IntKind) (v : Int) (n : Nat) : List.replicate n (AV.int k v) = ints k (List.replicate n v) := by simp [ints]
theorem flatten_ints (k : IntKind) (v : Int) (n : Nat) : (List.replicate n [AV.int k v]).flatten = ints k (List.replicate n v) := by
  induction n with
  | zero => rfl
  | succ n ih => rw [List.replicate_succ, List.flatten_cons, ih]; rfl

theorem renorm_small (n0 : Nat) (fr : List AV) (h : AHeap) (hl : h.length ≤ n0) : renorm n0 fr h = some (fr, h) := by
  simp [renorm, hl]

theorem aLoop_succ (n0 : Nat) (live : List Bool) (step : List AV → AHeap → Option (AExit × List AV × AHeap)) (k : Nat) (fr : List AV) (h : AHeap) {fr' : List AV} {h' : AHeap} (hr : renorm n0 (mask live fr) h = some (fr', h')) :
    aLoop n0 live step (k + 1) fr h = match step fr' h' with
      | some (.normal, fr, h) => aLoop n0 live step k fr h
      | r => r := by
  simp only [aLoop, hr]
  rfl

theorem choose2 {α β : Type} [Inhabited β] {p : α → Prop} {q : α → β → Prop} (h : ∀ x, p x → ∃ y, q x y) : ∃ f : α → β, ∀ x, p x → q x (f x) := by
  have : ∀ x, ∃ y, p x → q x y := fun x => by
    by_cases hx : p x
    · obtain ⟨y, hy⟩ := h x hx
      exact ⟨y, fun _ => hy⟩
    · exact ⟨default, fun h => absurd h hx⟩
  exact Classical.skolem.1 this

/-! ### Numbers -/

theorem w64 (x : Int) (h1 : -9223372036854775808 ≤ x) (h2 : x ≤ 9223372036854775807) : IntKind.i64.wrap x = x := by
  simp only [IntKind.wrap, IntKind.bits, IntKind.signed]
  simp
  omega
theorem wu64 (x : Int) (h1 : 0 ≤ x) (h2 : x ≤ 18446744073709551615) : IntKind.u64.wrap x = x := by
  simp only [IntKind.wrap, IntKind.bits, IntKind.signed]
  simp
  omega
theorem wu8 (x : Int) : IntKind.u8.wrap x = x % 256 := by
  simp only [IntKind.wrap, IntKind.bits, IntKind.signed]
  simp
theorem wu8_id (x : Int) (h1 : 0 ≤ x) (h2 : x ≤ 255) : IntKind.u8.wrap x = x := by rw [wu8]; omega

theorem wf_range {k : IntKind} {a : Int} (w : (Lit.int k a).wf = true) : k.min ≤ a ∧ a ≤ k.max := by
  simp only [Lit.wf, Bool.and_eq_true, decide_eq_true_eq] at w
  exact w
theorem wf_u64 {a : Int} (w : (Lit.int .u64 a).wf = true) : 0 ≤ a ∧ a < 18446744073709551616 := by
  have h := wf_range w
  have h1 : IntKind.u64.min = 0 := by decide
  have h2 : IntKind.u64.max = 18446744073709551615 := by decide
  omega
theorem wf_i64 {a : Int} (w : (Lit.int .i64 a).wf = true) : -9223372036854775808 ≤ a ∧ a ≤ 9223372036854775807 := by
  have h := wf_range w
  have h1 : IntKind.i64.min = -9223372036854775808 := by decide
  have h2 : IntKind.i64.max = 9223372036854775807 := by decide
  omega

/-! ### Contracts of functions that hand back what they are told, and nothing else -/

/-- A function's answer to plain values, out of a run in empty memory: the same in every memory. -/
theorem pure_sound {P : Program} {f : FuncId} {args : List AV} {v : AV} {h0 : AHeap} (hs : SoundCall P f args [] v h0) (ha : AV.scalars args = true) (hv : v.scalar = true) (h : AHeap) : SoundCall P f args h v h := by
  refine ⟨hs.1, fun ι xs w hxs H => ?_⟩
  refine (hs.2 [] xs w (scalars_any args ha xs.toList hxs) (HRel.nil w)).mono ?_
  rintro e w' ⟨ι', x, rfl, hx, hA⟩
  have hb := hA.step.to_below (fun _ => Own.nil)
  exact ⟨ι, x, rfl, scalar_any v hv x hx, H.world hb.block, Step.below hb, Agree.refl _ _, Nat.le_refl _⟩

/-- A table's row: a function of plain values. -/
def pureT (g : List AV → Option AV) (args : List AV) (h : AHeap) : Option (AV × AHeap) :=
  match g args with
  | some v => some (v, h)
  | none => none

theorem pureT_some (g : List AV → Option AV) (a : List AV) (v : AV) (h : AHeap) (e : g a = some v) : pureT g a h = some (v, h) := by
  unfold pureT
  rw [e]

theorem pureT_ok {P : Program} {f : FuncId} {g : List AV → Option AV} (hg : ∀ args v, g args = some v → AV.scalars args = true ∧ v.scalar = true ∧ ∃ h0, SoundCall P f args [] v h0) :
    ∀ args h v h', pureT g args h = some (v, h') → SoundCall P f args h v h' := by
  intro args h v h' hr
  unfold pureT at hr
  split at hr
  · rename_i v' hv
    cases hr
    obtain ⟨h1, h2, h0, hs⟩ := hg args v hv
    exact pure_sound hs h1 h2 h
  · cases hr

end Go.Ax
