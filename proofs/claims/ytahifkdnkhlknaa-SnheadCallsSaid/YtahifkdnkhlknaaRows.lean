/-
  No cell of these rows narrows 'for every input' (looked for: loops, veiled, ifaces, maps, wideKeys, modest, calm, conditions, laid).
  DERIVED. THE GIVEN ROWS OF THIS SEAT. 4 by the template 'for every input the law returns true; each argument reads behind the call as it read before'; 0 by the template 'total and deterministic' (their statements: YtahifkdnkhlknaaTotals.lean).
  GIVEN WITH THE SEED: the statements are not yours to turn. If you find one false, say at which input.
  Laid BY PROGRAM, IN A SANDBOX (cutbox-rows.mjs): the forced cells as the released guide's own fill.sh prints them over the translation b607774839957042… (all of the seat's roots in one cut). By AI agents, Wed Nov 11 2026. No macro, syntax, notation, axiom, sorry.
-/
import Derived.Test.YtahifkdnkhlknaaChecked
import GoSem.Claim
import GoSem.ClaimJoined
import GoSem.ClaimMapViews
import Derived.JoinedTies
import Derived.KernelRfl
namespace Go.Proofs.Ytahifkdnkhlknaa
/- THE CELL 'sum', in the pinned program and in every row, IS THE sha256 OF THE DUMP (.gsa) THAT YtahifkdnkhlknaaProg.lean LOADS. Nothing in Lean hashes anything: it is a label: what it is worth is what the hold of that sum in a sandbox is worth. -/
noncomputable def Try.pinned : Pinned := { name := "ytahifkdnkhlknaa", sum := "b6077748399570422b77608029ab59366dfeb3141385a16db4fc12f03c41cde3", checked := Try.checked }
namespace Rows
def none {H : Type} : Left H := { results := [], args := [] }

/-- 'polyglotlaw21.SnheadLengths': WHATEVER THE INPUT: true; the input reads as it did. -/
def snheadLengthsSpec : ChangeSpec := { name := "snheadLengths", fn := fun _ => fun
  | [d1, d2] => { results := [.lit (.bool true)], args := [d1, d2] }
  | _ => none }
def snheadLengthsRow : OpenClaim := { program := "ytahifkdnkhlknaa", sum := "b6077748399570422b77608029ab59366dfeb3141385a16db4fc12f03c41cde3", func := "polyglot/polyglotlaw21.SnheadLengths", spec := "snheadLengths", apart := false }
def SnheadLengthsSaid : Prop := snheadLengthsRow.holds Try.pinned (OpenSpec.ofChange snheadLengthsSpec)

/-- ITS FALSE NEIGHBOUR: 'it returns false'. Refute it at one input. -/
def snheadLengthsWrong : ChangeSpec := { name := "snheadLengths", fn := fun _ => fun
  | [d1, d2] => { results := [.lit (.bool false)], args := [d1, d2] }
  | _ => none }
def SnheadLengthsWrongFalsely : Prop := snheadLengthsRow.holds Try.pinned (OpenSpec.ofChange snheadLengthsWrong)

/-- 'polyglotlaw21.SnheadFlags': WHATEVER THE INPUT: true; the input reads as it did. -/
def snheadFlagsSpec : ChangeSpec := { name := "snheadFlags", fn := fun _ => fun
  | [d1, d2, d3] => { results := [.lit (.bool true)], args := [d1, d2, d3] }
  | _ => none }
def snheadFlagsRow : OpenClaim := { program := "ytahifkdnkhlknaa", sum := "b6077748399570422b77608029ab59366dfeb3141385a16db4fc12f03c41cde3", func := "polyglot/polyglotlaw21.SnheadFlags", spec := "snheadFlags", unfollowed := true, recurses := true, apart := false }
def SnheadFlagsSaid : Prop := snheadFlagsRow.holds Try.pinned (OpenSpec.ofChange snheadFlagsSpec)

/-- ITS FALSE NEIGHBOUR: 'it returns false'. Refute it at one input. -/
def snheadFlagsWrong : ChangeSpec := { name := "snheadFlags", fn := fun _ => fun
  | [d1, d2, d3] => { results := [.lit (.bool false)], args := [d1, d2, d3] }
  | _ => none }
def SnheadFlagsWrongFalsely : Prop := snheadFlagsRow.holds Try.pinned (OpenSpec.ofChange snheadFlagsWrong)

/-- 'polyglotlaw21.SnheadNames': WHATEVER THE INPUT: true; the input reads as it did. -/
def snheadNamesSpec : ChangeSpec := { name := "snheadNames", fn := fun _ => fun
  | [] => { results := [.lit (.bool true)], args := [] }
  | _ => none }
def snheadNamesRow : OpenClaim := { program := "ytahifkdnkhlknaa", sum := "b6077748399570422b77608029ab59366dfeb3141385a16db4fc12f03c41cde3", func := "polyglot/polyglotlaw21.SnheadNames", spec := "snheadNames", unfollowed := true, recurses := true, apart := false }
def SnheadNamesSaid : Prop := snheadNamesRow.holds Try.pinned (OpenSpec.ofChange snheadNamesSpec)

/-- ITS FALSE NEIGHBOUR: 'it returns false'. Refute it at one input. -/
def snheadNamesWrong : ChangeSpec := { name := "snheadNames", fn := fun _ => fun
  | [] => { results := [.lit (.bool false)], args := [] }
  | _ => none }
def SnheadNamesWrongFalsely : Prop := snheadNamesRow.holds Try.pinned (OpenSpec.ofChange snheadNamesWrong)

/-- 'polyglotlaw21.SnheadCalls': WHATEVER THE INPUT: true; the input reads as it did. -/
def snheadCallsSpec : ChangeSpec := { name := "snheadCalls", fn := fun _ => fun
  | [d1, d2, d3, d4] => { results := [.lit (.bool true)], args := [d1, d2, d3, d4] }
  | _ => none }
def snheadCallsRow : OpenClaim := { program := "ytahifkdnkhlknaa", sum := "b6077748399570422b77608029ab59366dfeb3141385a16db4fc12f03c41cde3", func := "polyglot/polyglotlaw21.SnheadCalls", spec := "snheadCalls", unfollowed := true, recurses := true, apart := false }
def SnheadCallsSaid : Prop := snheadCallsRow.holds Try.pinned (OpenSpec.ofChange snheadCallsSpec)

/-- ITS FALSE NEIGHBOUR: 'it returns false'. Refute it at one input. -/
def snheadCallsWrong : ChangeSpec := { name := "snheadCalls", fn := fun _ => fun
  | [d1, d2, d3, d4] => { results := [.lit (.bool false)], args := [d1, d2, d3, d4] }
  | _ => none }
def SnheadCallsWrongFalsely : Prop := snheadCallsRow.holds Try.pinned (OpenSpec.ofChange snheadCallsWrong)

/- THE SECOND FORM. 'bulk': how many values and letters a reading holds, each counted each time it is reached (what is shared counts as often as it is met; a slice's spare places count too). A statement '..UptoSaid' is the law's where the arguments, and the package variables that the reading takes, are together of bulk at most 1048576: NARROWER than '..Said'. Prove '..Said' where nothing that the law and all that it calls make is longer than what came in: it says more and counts as full. Else prove '..UptoSaid'. A law counts once. -/
mutual
def uptoBulk {H : Type} : DataW H → Nat
  | .lit (.string bytes) => bytes.length + 1
  | .lit _ => 1
  | .nil => 1
  | .ptr d => uptoBulk d + 1
  | .slice elems spare => uptoBulkAll elems + uptoBulkAll spare + 1
  | .agg parts => uptoBulkAll parts + 1
  | .iface _ d => uptoBulk d + 1
  | .map entries => uptoBulkEntries entries + 1
  | .held _ => 1
def uptoBulkAll {H : Type} : List (DataW H) → Nat
  | [] => 0
  | d :: r => uptoBulk d + uptoBulkAll r
def uptoBulkEntries {H : Type} : List (Lit × DataW H) → Nat
  | [] => 0
  | x :: r => uptoBulkEntry x + uptoBulkEntries r
def uptoBulkEntry {H : Type} : Lit × DataW H → Nat
  | (.string bytes, d) => bytes.length + uptoBulk d + 1
  | (_, d) => uptoBulk d + 1
 end
def uptoSmall : (H : Type) → List (DataW H) → Bool := fun _ ds => decide (uptoBulkAll ds ≤ 1048576)
def OpenSpec.upto (s : _root_.Go.ChangeSpec) : _root_.Go.OpenSpec := { _root_.Go.OpenSpec.ofChange s with cond := some uptoSmall }

/-- 'polyglotlaw21.SnheadLengths', WHERE WHAT IT READS IS OF BULK AT MOST 1048576: true; the input reads as it did. -/
def snheadLengthsUptoRow : OpenClaim := { program := "ytahifkdnkhlknaa", sum := "b6077748399570422b77608029ab59366dfeb3141385a16db4fc12f03c41cde3", func := "polyglot/polyglotlaw21.SnheadLengths", spec := "snheadLengths", apart := false, narrowed := true }
def SnheadLengthsUptoSaid : Prop := snheadLengthsUptoRow.holds Try.pinned (OpenSpec.upto snheadLengthsSpec)

/-- 'polyglotlaw21.SnheadFlags', WHERE WHAT IT READS IS OF BULK AT MOST 1048576: true; the input reads as it did. -/
def snheadFlagsUptoRow : OpenClaim := { program := "ytahifkdnkhlknaa", sum := "b6077748399570422b77608029ab59366dfeb3141385a16db4fc12f03c41cde3", func := "polyglot/polyglotlaw21.SnheadFlags", spec := "snheadFlags", unfollowed := true, recurses := true, apart := false, narrowed := true }
def SnheadFlagsUptoSaid : Prop := snheadFlagsUptoRow.holds Try.pinned (OpenSpec.upto snheadFlagsSpec)

/-- 'polyglotlaw21.SnheadNames', WHERE WHAT IT READS IS OF BULK AT MOST 1048576: true; the input reads as it did. -/
def snheadNamesUptoRow : OpenClaim := { program := "ytahifkdnkhlknaa", sum := "b6077748399570422b77608029ab59366dfeb3141385a16db4fc12f03c41cde3", func := "polyglot/polyglotlaw21.SnheadNames", spec := "snheadNames", unfollowed := true, recurses := true, apart := false, narrowed := true }
def SnheadNamesUptoSaid : Prop := snheadNamesUptoRow.holds Try.pinned (OpenSpec.upto snheadNamesSpec)

/-- 'polyglotlaw21.SnheadCalls', WHERE WHAT IT READS IS OF BULK AT MOST 1048576: true; the input reads as it did. -/
def snheadCallsUptoRow : OpenClaim := { program := "ytahifkdnkhlknaa", sum := "b6077748399570422b77608029ab59366dfeb3141385a16db4fc12f03c41cde3", func := "polyglot/polyglotlaw21.SnheadCalls", spec := "snheadCalls", unfollowed := true, recurses := true, apart := false, narrowed := true }
def SnheadCallsUptoSaid : Prop := snheadCallsUptoRow.holds Try.pinned (OpenSpec.upto snheadCallsSpec)

end Rows
end Go.Proofs.Ytahifkdnkhlknaa
