/-
  No cell of these rows narrows 'for every input' (looked for: loops, veiled, ifaces, maps, wideKeys, modest, calm, conditions, laid).
  DERIVED. THE GIVEN ROWS OF THIS SEAT. 6 by the template 'for every input the law returns true; each argument reads behind the call as it read before'; 0 by the template 'total and deterministic' (their statements: YtahcfnjgllpkdaaTotals.lean).
  GIVEN WITH THE SEED: the statements are not yours to turn. If you find one false, say at which input.
  Laid BY PROGRAM, IN A SANDBOX (cutbox-rows.mjs): the forced cells as the released guide's own fill.sh prints them over the translation 24ae6d0fd46751d2… (all of the seat's roots in one cut). By AI agents, Wed Nov 11 2026. No macro, syntax, notation, axiom, sorry.
-/
import Derived.Test.YtahcfnjgllpkdaaChecked
import GoSem.Claim
import GoSem.ClaimJoined
import GoSem.ClaimMapViews
import Derived.JoinedTies
import Derived.KernelRfl
namespace Go.Proofs.Ytahcfnjgllpkdaa
/- THE CELL 'sum', in the pinned program and in every row, IS THE sha256 OF THE DUMP (.gsa) THAT YtahcfnjgllpkdaaProg.lean LOADS. Nothing in Lean hashes anything: it is a label: what it is worth is what the hold of that sum in a sandbox is worth. -/
noncomputable def Try.pinned : Pinned := { name := "ytahcfnjgllpkdaa", sum := "24ae6d0fd46751d20235984c64c740bca541f1b63ab538855279356c3be763a8", checked := Try.checked }
namespace Rows
def none {H : Type} : Left H := { results := [], args := [] }

/-- 'laws.FnExactSmallHeaps': WHATEVER THE INPUT: true; the input reads as it did. -/
def fnExactSmallHeapsSpec : ChangeSpec := { name := "fnExactSmallHeaps", fn := fun _ => fun
  | [d1, d2] => { results := [.lit (.bool true)], args := [d1, d2] }
  | _ => none }
def fnExactSmallHeapsRow : OpenClaim := { program := "ytahcfnjgllpkdaa", sum := "24ae6d0fd46751d20235984c64c740bca541f1b63ab538855279356c3be763a8", func := "loop.example/g00590/laws.FnExactSmallHeaps", spec := "fnExactSmallHeaps", unfollowed := true, recurses := true, apart := false }
def FnExactSmallHeapsSaid : Prop := fnExactSmallHeapsRow.holds Try.pinned (OpenSpec.ofChange fnExactSmallHeapsSpec)

/-- ITS FALSE NEIGHBOUR: 'it returns false'. Refute it at one input. -/
def fnExactSmallHeapsWrong : ChangeSpec := { name := "fnExactSmallHeaps", fn := fun _ => fun
  | [d1, d2] => { results := [.lit (.bool false)], args := [d1, d2] }
  | _ => none }
def FnExactSmallHeapsWrongFalsely : Prop := fnExactSmallHeapsRow.holds Try.pinned (OpenSpec.ofChange fnExactSmallHeapsWrong)

/-- 'laws.FnExactEqualSession': WHATEVER THE INPUT: true; the input reads as it did. -/
def fnExactEqualSessionSpec : ChangeSpec := { name := "fnExactEqualSession", fn := fun _ => fun
  | [d1, d2] => { results := [.lit (.bool true)], args := [d1, d2] }
  | _ => none }
def fnExactEqualSessionRow : OpenClaim := { program := "ytahcfnjgllpkdaa", sum := "24ae6d0fd46751d20235984c64c740bca541f1b63ab538855279356c3be763a8", func := "loop.example/g00590/laws.FnExactEqualSession", spec := "fnExactEqualSession", unfollowed := true, recurses := true, apart := false }
def FnExactEqualSessionSaid : Prop := fnExactEqualSessionRow.holds Try.pinned (OpenSpec.ofChange fnExactEqualSessionSpec)

/-- ITS FALSE NEIGHBOUR: 'it returns false'. Refute it at one input. -/
def fnExactEqualSessionWrong : ChangeSpec := { name := "fnExactEqualSession", fn := fun _ => fun
  | [d1, d2] => { results := [.lit (.bool false)], args := [d1, d2] }
  | _ => none }
def FnExactEqualSessionWrongFalsely : Prop := fnExactEqualSessionRow.holds Try.pinned (OpenSpec.ofChange fnExactEqualSessionWrong)

/-- 'laws.FnExactFocusNext': WHATEVER THE INPUT: true; the input reads as it did. -/
def fnExactFocusNextSpec : ChangeSpec := { name := "fnExactFocusNext", fn := fun _ => fun
  | [d1, d2] => { results := [.lit (.bool true)], args := [d1, d2] }
  | _ => none }
def fnExactFocusNextRow : OpenClaim := { program := "ytahcfnjgllpkdaa", sum := "24ae6d0fd46751d20235984c64c740bca541f1b63ab538855279356c3be763a8", func := "loop.example/g00590/laws.FnExactFocusNext", spec := "fnExactFocusNext", unfollowed := true, recurses := true, apart := false }
def FnExactFocusNextSaid : Prop := fnExactFocusNextRow.holds Try.pinned (OpenSpec.ofChange fnExactFocusNextSpec)

/-- ITS FALSE NEIGHBOUR: 'it returns false'. Refute it at one input. -/
def fnExactFocusNextWrong : ChangeSpec := { name := "fnExactFocusNext", fn := fun _ => fun
  | [d1, d2] => { results := [.lit (.bool false)], args := [d1, d2] }
  | _ => none }
def FnExactFocusNextWrongFalsely : Prop := fnExactFocusNextRow.holds Try.pinned (OpenSpec.ofChange fnExactFocusNextWrong)

/-- 'laws.FnExactIsPrecise': WHATEVER THE INPUT: true; the input reads as it did. -/
def fnExactIsPreciseSpec : ChangeSpec := { name := "fnExactIsPrecise", fn := fun _ => fun
  | [d1, d2, d3] => { results := [.lit (.bool true)], args := [d1, d2, d3] }
  | _ => none }
def fnExactIsPreciseRow : OpenClaim := { program := "ytahcfnjgllpkdaa", sum := "24ae6d0fd46751d20235984c64c740bca541f1b63ab538855279356c3be763a8", func := "loop.example/g00590/laws.FnExactIsPrecise", spec := "fnExactIsPrecise", unfollowed := true, recurses := true, apart := false }
def FnExactIsPreciseSaid : Prop := fnExactIsPreciseRow.holds Try.pinned (OpenSpec.ofChange fnExactIsPreciseSpec)

/-- ITS FALSE NEIGHBOUR: 'it returns false'. Refute it at one input. -/
def fnExactIsPreciseWrong : ChangeSpec := { name := "fnExactIsPrecise", fn := fun _ => fun
  | [d1, d2, d3] => { results := [.lit (.bool false)], args := [d1, d2, d3] }
  | _ => none }
def FnExactIsPreciseWrongFalsely : Prop := fnExactIsPreciseRow.holds Try.pinned (OpenSpec.ofChange fnExactIsPreciseWrong)

/-- 'laws.FnExactCountDescribed': WHATEVER THE INPUT: true; the input reads as it did. -/
def fnExactCountDescribedSpec : ChangeSpec := { name := "fnExactCountDescribed", fn := fun _ => fun
  | [d1, d2, d3] => { results := [.lit (.bool true)], args := [d1, d2, d3] }
  | _ => none }
def fnExactCountDescribedRow : OpenClaim := { program := "ytahcfnjgllpkdaa", sum := "24ae6d0fd46751d20235984c64c740bca541f1b63ab538855279356c3be763a8", func := "loop.example/g00590/laws.FnExactCountDescribed", spec := "fnExactCountDescribed", unfollowed := true, recurses := true, apart := false }
def FnExactCountDescribedSaid : Prop := fnExactCountDescribedRow.holds Try.pinned (OpenSpec.ofChange fnExactCountDescribedSpec)

/-- ITS FALSE NEIGHBOUR: 'it returns false'. Refute it at one input. -/
def fnExactCountDescribedWrong : ChangeSpec := { name := "fnExactCountDescribed", fn := fun _ => fun
  | [d1, d2, d3] => { results := [.lit (.bool false)], args := [d1, d2, d3] }
  | _ => none }
def FnExactCountDescribedWrongFalsely : Prop := fnExactCountDescribedRow.holds Try.pinned (OpenSpec.ofChange fnExactCountDescribedWrong)

/-- 'laws.FnFocused': WHATEVER THE INPUT: true; the input reads as it did. -/
def fnFocusedSpec : ChangeSpec := { name := "fnFocused", fn := fun _ => fun
  | [d] => { results := [.lit (.bool true)], args := [d] }
  | _ => none }
def fnFocusedRow : OpenClaim := { program := "ytahcfnjgllpkdaa", sum := "24ae6d0fd46751d20235984c64c740bca541f1b63ab538855279356c3be763a8", func := "loop.example/g00590/laws.FnFocused", spec := "fnFocused", unfollowed := true, recurses := true, apart := false }
def FnFocusedSaid : Prop := fnFocusedRow.holds Try.pinned (OpenSpec.ofChange fnFocusedSpec)

/-- ITS FALSE NEIGHBOUR: 'it returns false'. Refute it at one input. -/
def fnFocusedWrong : ChangeSpec := { name := "fnFocused", fn := fun _ => fun
  | [d] => { results := [.lit (.bool false)], args := [d] }
  | _ => none }
def FnFocusedWrongFalsely : Prop := fnFocusedRow.holds Try.pinned (OpenSpec.ofChange fnFocusedWrong)

/- THE SECOND FORM. 'bulk': how many values and letters a reading holds, each counted each time it is reached (what is shared counts as often as it is met; a slice's spare places count too). A statement '..UptoSaid' is the law's where the arguments, and the package variables that the reading takes, are together of bulk at most 1048576: NARROWER than '..Said'. Prove '..Said' where nothing that the law and all that it calls make is longer than what came in: it says more and counts as full. Else prove '..UptoSaid'. A law counts once. -/
mutual
def uptoBulk {H : Type} : DataW H → Nat
  | .lit (.string bytes) => bytes.length + 1
  | .lit _ => 1
  | .nil => 1
  | .ptr d => uptoBulk d + 1
  | .slice elems spare => uptoBulkAll elems + uptoBulkAll spare + 1
  | .agg parts => uptoBulkAll parts + 1
  | .iface _ d => uptoBulk d + 1
  | .map entries => uptoBulkEntries entries + 1
  | .held _ => 1
def uptoBulkAll {H : Type} : List (DataW H) → Nat
  | [] => 0
  | d :: r => uptoBulk d + uptoBulkAll r
def uptoBulkEntries {H : Type} : List (Lit × DataW H) → Nat
  | [] => 0
  | x :: r => uptoBulkEntry x + uptoBulkEntries r
def uptoBulkEntry {H : Type} : Lit × DataW H → Nat
  | (.string bytes, d) => bytes.length + uptoBulk d + 1
  | (_, d) => uptoBulk d + 1
 end
def uptoSmall : (H : Type) → List (DataW H) → Bool := fun _ ds => decide (uptoBulkAll ds ≤ 1048576)
def OpenSpec.upto (s : _root_.Go.ChangeSpec) : _root_.Go.OpenSpec := { _root_.Go.OpenSpec.ofChange s with cond := some uptoSmall }

/-- 'laws.FnExactSmallHeaps', WHERE WHAT IT READS IS OF BULK AT MOST 1048576: true; the input reads as it did. -/
def fnExactSmallHeapsUptoRow : OpenClaim := { program := "ytahcfnjgllpkdaa", sum := "24ae6d0fd46751d20235984c64c740bca541f1b63ab538855279356c3be763a8", func := "loop.example/g00590/laws.FnExactSmallHeaps", spec := "fnExactSmallHeaps", unfollowed := true, recurses := true, apart := false, narrowed := true }
def FnExactSmallHeapsUptoSaid : Prop := fnExactSmallHeapsUptoRow.holds Try.pinned (OpenSpec.upto fnExactSmallHeapsSpec)

/-- 'laws.FnExactEqualSession', WHERE WHAT IT READS IS OF BULK AT MOST 1048576: true; the input reads as it did. -/
def fnExactEqualSessionUptoRow : OpenClaim := { program := "ytahcfnjgllpkdaa", sum := "24ae6d0fd46751d20235984c64c740bca541f1b63ab538855279356c3be763a8", func := "loop.example/g00590/laws.FnExactEqualSession", spec := "fnExactEqualSession", unfollowed := true, recurses := true, apart := false, narrowed := true }
def FnExactEqualSessionUptoSaid : Prop := fnExactEqualSessionUptoRow.holds Try.pinned (OpenSpec.upto fnExactEqualSessionSpec)

/-- 'laws.FnExactFocusNext', WHERE WHAT IT READS IS OF BULK AT MOST 1048576: true; the input reads as it did. -/
def fnExactFocusNextUptoRow : OpenClaim := { program := "ytahcfnjgllpkdaa", sum := "24ae6d0fd46751d20235984c64c740bca541f1b63ab538855279356c3be763a8", func := "loop.example/g00590/laws.FnExactFocusNext", spec := "fnExactFocusNext", unfollowed := true, recurses := true, apart := false, narrowed := true }
def FnExactFocusNextUptoSaid : Prop := fnExactFocusNextUptoRow.holds Try.pinned (OpenSpec.upto fnExactFocusNextSpec)

/-- 'laws.FnExactIsPrecise', WHERE WHAT IT READS IS OF BULK AT MOST 1048576: true; the input reads as it did. -/
def fnExactIsPreciseUptoRow : OpenClaim := { program := "ytahcfnjgllpkdaa", sum := "24ae6d0fd46751d20235984c64c740bca541f1b63ab538855279356c3be763a8", func := "loop.example/g00590/laws.FnExactIsPrecise", spec := "fnExactIsPrecise", unfollowed := true, recurses := true, apart := false, narrowed := true }
def FnExactIsPreciseUptoSaid : Prop := fnExactIsPreciseUptoRow.holds Try.pinned (OpenSpec.upto fnExactIsPreciseSpec)

/-- 'laws.FnExactCountDescribed', WHERE WHAT IT READS IS OF BULK AT MOST 1048576: true; the input reads as it did. -/
def fnExactCountDescribedUptoRow : OpenClaim := { program := "ytahcfnjgllpkdaa", sum := "24ae6d0fd46751d20235984c64c740bca541f1b63ab538855279356c3be763a8", func := "loop.example/g00590/laws.FnExactCountDescribed", spec := "fnExactCountDescribed", unfollowed := true, recurses := true, apart := false, narrowed := true }
def FnExactCountDescribedUptoSaid : Prop := fnExactCountDescribedUptoRow.holds Try.pinned (OpenSpec.upto fnExactCountDescribedSpec)

/-- 'laws.FnFocused', WHERE WHAT IT READS IS OF BULK AT MOST 1048576: true; the input reads as it did. -/
def fnFocusedUptoRow : OpenClaim := { program := "ytahcfnjgllpkdaa", sum := "24ae6d0fd46751d20235984c64c740bca541f1b63ab538855279356c3be763a8", func := "loop.example/g00590/laws.FnFocused", spec := "fnFocused", unfollowed := true, recurses := true, apart := false, narrowed := true }
def FnFocusedUptoSaid : Prop := fnFocusedUptoRow.holds Try.pinned (OpenSpec.upto fnFocusedSpec)

end Rows
end Go.Proofs.Ytahcfnjgllpkdaa
