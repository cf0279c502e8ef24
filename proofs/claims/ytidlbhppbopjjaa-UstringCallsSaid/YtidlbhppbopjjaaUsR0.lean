/-
Chapter 3: the iterator Runes, met by the law's loop over it.
-/
import Derived.Test.YtidlbhppbopjjaaUsC1
import Derived.Test.YtidlbhppbopjjaaKxD
namespace Go.Proofs.Ytidlbhppbopjjaa.Ax
open Go.Ax
set_option linter.unusedVariables false

/-- Kinds of a Rune's cells. -/
abbrev RK : List CK := [.int .i64, .int .i32]

/-- The frame ahead of the loop, the memory. -/
def runesFR : List KV := [.junk, .ptr 0 0, .ptr 1 0, .ptr 2 0, .junk, .ptr 4 0, .tuple [], .tuple [], .junk, .junk, .junk, .junk, .func (.func 60) [] [.ptr 3 0], .tuple [], .tuple [], .tuple [], .tuple [], .tuple [], .tuple [], .tuple [], .tuple [], .tuple [], .tuple [], .tuple [], .tuple [], .tuple [], .tuple []]
def runesH (s : List UInt8) (out : KV) : KHeap := [.cells [.str s], .cells [.nilslice], .cells [.bool false], .cells [.str s], .cells [out]]

section
variable {β : Type}
/-- The law's rounds. -/
noncomputable def runesHand (q : Nat) : KHand β := kRound 5 f20_P0 runesFR (fun n fr h k => kCode (kFn F TNm q DD) noYK (fun _ => none) q true n f20_X0 fr h k) (fun n fr h k => kCode (kFn F TNm q DD) noYK (fun _ => none) q true n f20_Y0 fr h k)
noncomputable def runesY (q : Nat) : KYs β := fun j => if Nat.beq j 5 = true then some (runesHand q) else noYK j
/-- The iterator's loop, among them. -/
noncomputable def runesKL (q : Nat) : KLoop β := fun fr h k => kLoop 6 f60_M0 (fun fr h k => kCode (kFn F TNm q 98) (runesY q) (fun _ => none) q false 6 f60_L0 fr h k) q fr h (fun e fr h => forceC (maskK f60_O0 fr) fun fr => k e fr h)
end

/-- Rows of places and code points. -/
def runesR : Nat → List (List UInt8 × Nat) → List (Row RK)
  | _, [] => []
  | p, u :: us => ((p : Int), (u.2 : Int), ()) :: runesR (p + u.1.length) us
def runesQ (s : List UInt8) : List (Row RK) := runesR 0 (pts s)

end Go.Proofs.Ytidlbhppbopjjaa.Ax
