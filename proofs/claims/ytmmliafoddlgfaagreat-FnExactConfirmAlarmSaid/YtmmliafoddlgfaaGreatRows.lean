/-
  No cell of these rows narrows 'for every input' (looked for: loops, veiled, ifaces, maps, wideKeys, modest, calm, conditions, laid).
  DERIVED. THE GIVEN ROWS OF THIS SEAT. 5 by the template 'for every input the law returns true; each argument reads behind the call as it read before'; 0 by the template 'total and deterministic' (their statements: YtmmliafoddlgfaaGreatTotals.lean).
  GIVEN WITH THE SEED: the statements are not yours to turn. If you find one false, say at which input.
  Laid BY PROGRAM, IN A SANDBOX (cutbox-rows.mjs): the forced cells as the released guide's own fill.sh prints them over the translation c097ce2e5552dd35… (all of the seat's roots in one cut). By AI agents, Wed Nov 11 2026. No macro, syntax, notation, axiom, sorry.
-/
import Derived.Test.YtmmliafoddlgfaaGreatChecked
import GoSem.Claim
import GoSem.ClaimJoined
import GoSem.ClaimMapViews
import Derived.JoinedTies
import Derived.KernelRfl
namespace Go.Proofs.YtmmliafoddlgfaaGreat
/- THE CELL 'sum', in the pinned program and in every row, IS THE sha256 OF THE DUMP (.gsa) THAT YtmmliafoddlgfaaGreatProg.lean LOADS. Nothing in Lean hashes anything: it is a label: what it is worth is what the hold of that sum in a sandbox is worth. -/
noncomputable def Tryz.pinned : Pinned := { name := "ytmmliafoddlgfaagreat", sum := "c097ce2e5552dd35a60656420d1ce914acf782b4df1244de96dba324e335a7a5", checked := Tryz.checked }
namespace Rows
def none {H : Type} : Left H := { results := [], args := [] }

/-- 'laws.FnExactFollow': WHATEVER THE INPUT: true; the input reads as it did. -/
def fnExactFollowSpec : ChangeSpec := { name := "fnExactFollow", fn := fun _ => fun
  | [d1, d2, d3] => { results := [.lit (.bool true)], args := [d1, d2, d3] }
  | _ => none }
def fnExactFollowRow : OpenClaim := { program := "ytmmliafoddlgfaagreat", sum := "c097ce2e5552dd35a60656420d1ce914acf782b4df1244de96dba324e335a7a5", func := "loop.example/g00590/laws.FnExactFollow", spec := "fnExactFollow", unfollowed := true, recurses := true, apart := false }
def FnExactFollowSaid : Prop := fnExactFollowRow.holds Tryz.pinned (OpenSpec.ofChange fnExactFollowSpec)

/-- ITS FALSE NEIGHBOUR: 'it returns false'. Refute it at one input. -/
def fnExactFollowWrong : ChangeSpec := { name := "fnExactFollow", fn := fun _ => fun
  | [d1, d2, d3] => { results := [.lit (.bool false)], args := [d1, d2, d3] }
  | _ => none }
def FnExactFollowWrongFalsely : Prop := fnExactFollowRow.holds Tryz.pinned (OpenSpec.ofChange fnExactFollowWrong)

/-- 'laws.FnExactCountFailures': WHATEVER THE INPUT: true; the input reads as it did. -/
def fnExactCountFailuresSpec : ChangeSpec := { name := "fnExactCountFailures", fn := fun _ => fun
  | [d1, d2] => { results := [.lit (.bool true)], args := [d1, d2] }
  | _ => none }
def fnExactCountFailuresRow : OpenClaim := { program := "ytmmliafoddlgfaagreat", sum := "c097ce2e5552dd35a60656420d1ce914acf782b4df1244de96dba324e335a7a5", func := "loop.example/g00590/laws.FnExactCountFailures", spec := "fnExactCountFailures", unfollowed := true, recurses := true, apart := false }
def FnExactCountFailuresSaid : Prop := fnExactCountFailuresRow.holds Tryz.pinned (OpenSpec.ofChange fnExactCountFailuresSpec)

/-- ITS FALSE NEIGHBOUR: 'it returns false'. Refute it at one input. -/
def fnExactCountFailuresWrong : ChangeSpec := { name := "fnExactCountFailures", fn := fun _ => fun
  | [d1, d2] => { results := [.lit (.bool false)], args := [d1, d2] }
  | _ => none }
def FnExactCountFailuresWrongFalsely : Prop := fnExactCountFailuresRow.holds Tryz.pinned (OpenSpec.ofChange fnExactCountFailuresWrong)

/-- 'laws.FnExactStatesFrom': WHATEVER THE INPUT: true; the input reads as it did. -/
def fnExactStatesFromSpec : ChangeSpec := { name := "fnExactStatesFrom", fn := fun _ => fun
  | [d1, d2] => { results := [.lit (.bool true)], args := [d1, d2] }
  | _ => none }
def fnExactStatesFromRow : OpenClaim := { program := "ytmmliafoddlgfaagreat", sum := "c097ce2e5552dd35a60656420d1ce914acf782b4df1244de96dba324e335a7a5", func := "loop.example/g00590/laws.FnExactStatesFrom", spec := "fnExactStatesFrom", unfollowed := true, recurses := true, apart := false }
def FnExactStatesFromSaid : Prop := fnExactStatesFromRow.holds Tryz.pinned (OpenSpec.ofChange fnExactStatesFromSpec)

/-- ITS FALSE NEIGHBOUR: 'it returns false'. Refute it at one input. -/
def fnExactStatesFromWrong : ChangeSpec := { name := "fnExactStatesFrom", fn := fun _ => fun
  | [d1, d2] => { results := [.lit (.bool false)], args := [d1, d2] }
  | _ => none }
def FnExactStatesFromWrongFalsely : Prop := fnExactStatesFromRow.holds Tryz.pinned (OpenSpec.ofChange fnExactStatesFromWrong)

/-- 'laws.FnExactFindFailure': WHATEVER THE INPUT: true; the input reads as it did. -/
def fnExactFindFailureSpec : ChangeSpec := { name := "fnExactFindFailure", fn := fun _ => fun
  | [d1, d2] => { results := [.lit (.bool true)], args := [d1, d2] }
  | _ => none }
def fnExactFindFailureRow : OpenClaim := { program := "ytmmliafoddlgfaagreat", sum := "c097ce2e5552dd35a60656420d1ce914acf782b4df1244de96dba324e335a7a5", func := "loop.example/g00590/laws.FnExactFindFailure", spec := "fnExactFindFailure", unfollowed := true, recurses := true, apart := false }
def FnExactFindFailureSaid : Prop := fnExactFindFailureRow.holds Tryz.pinned (OpenSpec.ofChange fnExactFindFailureSpec)

/-- ITS FALSE NEIGHBOUR: 'it returns false'. Refute it at one input. -/
def fnExactFindFailureWrong : ChangeSpec := { name := "fnExactFindFailure", fn := fun _ => fun
  | [d1, d2] => { results := [.lit (.bool false)], args := [d1, d2] }
  | _ => none }
def FnExactFindFailureWrongFalsely : Prop := fnExactFindFailureRow.holds Tryz.pinned (OpenSpec.ofChange fnExactFindFailureWrong)

/-- 'laws.FnExactConfirmAlarm': WHATEVER THE INPUT: true; the input reads as it did. -/
def fnExactConfirmAlarmSpec : ChangeSpec := { name := "fnExactConfirmAlarm", fn := fun _ => fun
  | [d1, d2, d3] => { results := [.lit (.bool true)], args := [d1, d2, d3] }
  | _ => none }
def fnExactConfirmAlarmRow : OpenClaim := { program := "ytmmliafoddlgfaagreat", sum := "c097ce2e5552dd35a60656420d1ce914acf782b4df1244de96dba324e335a7a5", func := "loop.example/g00590/laws.FnExactConfirmAlarm", spec := "fnExactConfirmAlarm", unfollowed := true, recurses := true, apart := false }
def FnExactConfirmAlarmSaid : Prop := fnExactConfirmAlarmRow.holds Tryz.pinned (OpenSpec.ofChange fnExactConfirmAlarmSpec)

/-- ITS FALSE NEIGHBOUR: 'it returns false'. Refute it at one input. -/
def fnExactConfirmAlarmWrong : ChangeSpec := { name := "fnExactConfirmAlarm", fn := fun _ => fun
  | [d1, d2, d3] => { results := [.lit (.bool false)], args := [d1, d2, d3] }
  | _ => none }
def FnExactConfirmAlarmWrongFalsely : Prop := fnExactConfirmAlarmRow.holds Tryz.pinned (OpenSpec.ofChange fnExactConfirmAlarmWrong)

/- THE SECOND FORM. 'bulk': how many values and letters a reading holds, each counted each time it is reached (what is shared counts as often as it is met; a slice's spare places count too). A statement '..UptoSaid' is the law's where the arguments, and the package variables that the reading takes, are together of bulk at most 1048576: NARROWER than '..Said'. Prove '..Said' where nothing that the law and all that it calls make is longer than what came in: it says more and counts as full. Else prove '..UptoSaid'. A law counts once. -/
mutual
def uptoBulk {H : Type} : DataW H → Nat
  | .lit (.string bytes) => bytes.length + 1
  | .lit _ => 1
  | .nil => 1
  | .ptr d => uptoBulk d + 1
  | .slice elems spare => uptoBulkAll elems + uptoBulkAll spare + 1
  | .agg parts => uptoBulkAll parts + 1
  | .iface _ d => uptoBulk d + 1
  | .map entries => uptoBulkEntries entries + 1
  | .held _ => 1
def uptoBulkAll {H : Type} : List (DataW H) → Nat
  | [] => 0
  | d :: r => uptoBulk d + uptoBulkAll r
def uptoBulkEntries {H : Type} : List (Lit × DataW H) → Nat
  | [] => 0
  | x :: r => uptoBulkEntry x + uptoBulkEntries r
def uptoBulkEntry {H : Type} : Lit × DataW H → Nat
  | (.string bytes, d) => bytes.length + uptoBulk d + 1
  | (_, d) => uptoBulk d + 1
 end
def uptoSmall : (H : Type) → List (DataW H) → Bool := fun _ ds => decide (uptoBulkAll ds ≤ 1048576)
def OpenSpec.upto (s : _root_.Go.ChangeSpec) : _root_.Go.OpenSpec := { _root_.Go.OpenSpec.ofChange s with cond := some uptoSmall }

/-- 'laws.FnExactFollow', WHERE WHAT IT READS IS OF BULK AT MOST 1048576: true; the input reads as it did. -/
def fnExactFollowUptoRow : OpenClaim := { program := "ytmmliafoddlgfaagreat", sum := "c097ce2e5552dd35a60656420d1ce914acf782b4df1244de96dba324e335a7a5", func := "loop.example/g00590/laws.FnExactFollow", spec := "fnExactFollow", unfollowed := true, recurses := true, apart := false, narrowed := true }
def FnExactFollowUptoSaid : Prop := fnExactFollowUptoRow.holds Tryz.pinned (OpenSpec.upto fnExactFollowSpec)

/-- 'laws.FnExactCountFailures', WHERE WHAT IT READS IS OF BULK AT MOST 1048576: true; the input reads as it did. -/
def fnExactCountFailuresUptoRow : OpenClaim := { program := "ytmmliafoddlgfaagreat", sum := "c097ce2e5552dd35a60656420d1ce914acf782b4df1244de96dba324e335a7a5", func := "loop.example/g00590/laws.FnExactCountFailures", spec := "fnExactCountFailures", unfollowed := true, recurses := true, apart := false, narrowed := true }
def FnExactCountFailuresUptoSaid : Prop := fnExactCountFailuresUptoRow.holds Tryz.pinned (OpenSpec.upto fnExactCountFailuresSpec)

/-- 'laws.FnExactStatesFrom', WHERE WHAT IT READS IS OF BULK AT MOST 1048576: true; the input reads as it did. -/
def fnExactStatesFromUptoRow : OpenClaim := { program := "ytmmliafoddlgfaagreat", sum := "c097ce2e5552dd35a60656420d1ce914acf782b4df1244de96dba324e335a7a5", func := "loop.example/g00590/laws.FnExactStatesFrom", spec := "fnExactStatesFrom", unfollowed := true, recurses := true, apart := false, narrowed := true }
def FnExactStatesFromUptoSaid : Prop := fnExactStatesFromUptoRow.holds Tryz.pinned (OpenSpec.upto fnExactStatesFromSpec)

/-- 'laws.FnExactFindFailure', WHERE WHAT IT READS IS OF BULK AT MOST 1048576: true; the input reads as it did. -/
def fnExactFindFailureUptoRow : OpenClaim := { program := "ytmmliafoddlgfaagreat", sum := "c097ce2e5552dd35a60656420d1ce914acf782b4df1244de96dba324e335a7a5", func := "loop.example/g00590/laws.FnExactFindFailure", spec := "fnExactFindFailure", unfollowed := true, recurses := true, apart := false, narrowed := true }
def FnExactFindFailureUptoSaid : Prop := fnExactFindFailureUptoRow.holds Tryz.pinned (OpenSpec.upto fnExactFindFailureSpec)

/-- 'laws.FnExactConfirmAlarm', WHERE WHAT IT READS IS OF BULK AT MOST 1048576: true; the input reads as it did. -/
def fnExactConfirmAlarmUptoRow : OpenClaim := { program := "ytmmliafoddlgfaagreat", sum := "c097ce2e5552dd35a60656420d1ce914acf782b4df1244de96dba324e335a7a5", func := "loop.example/g00590/laws.FnExactConfirmAlarm", spec := "fnExactConfirmAlarm", unfollowed := true, recurses := true, apart := false, narrowed := true }
def FnExactConfirmAlarmUptoSaid : Prop := fnExactConfirmAlarmUptoRow.holds Tryz.pinned (OpenSpec.upto fnExactConfirmAlarmSpec)

end Rows
end Go.Proofs.YtmmliafoddlgfaaGreat
