/-
  No cell of these rows narrows 'for every input' (looked for: loops, veiled, ifaces, maps, wideKeys, modest, calm, conditions, laid).
  DERIVED. THE GIVEN ROWS OF THIS SEAT. 6 by the template 'for every input the law returns true; each argument reads behind the call as it read before'; 0 by the template 'total and deterministic' (their statements: YtpfdhbomcoafdaaTotals.lean).
  GIVEN WITH THE SEED: the statements are not yours to turn. If you find one false, say at which input.
  Laid BY PROGRAM, IN A SANDBOX (cutbox-rows.mjs): the forced cells as the released guide's own fill.sh prints them over the translation e0912bdbeb20f63f… (all of the seat's roots in one cut). By AI agents, Wed Nov 11 2026. No macro, syntax, notation, axiom, sorry.
-/
import Derived.Test.YtpfdhbomcoafdaaChecked
import GoSem.Claim
import GoSem.ClaimJoined
import GoSem.ClaimMapViews
import Derived.JoinedTies
import Derived.KernelRfl
namespace Go.Proofs.Ytpfdhbomcoafdaa
/- THE CELL 'sum', in the pinned program and in every row, IS THE sha256 OF THE DUMP (.gsa) THAT YtpfdhbomcoafdaaProg.lean LOADS. Nothing in Lean hashes anything: it is a label: what it is worth is what the hold of that sum in a sandbox is worth. -/
noncomputable def Try.pinned : Pinned := { name := "ytpfdhbomcoafdaa", sum := "e0912bdbeb20f63f0e90784360a03f94c0f05572405d0297de66a5e995addad7", checked := Try.checked }
namespace Rows
def none {H : Type} : Left H := { results := [], args := [] }

/-- 'laws.FnExactJoinDiffs': WHATEVER THE INPUT: true; the input reads as it did. -/
def fnExactJoinDiffsSpec : ChangeSpec := { name := "fnExactJoinDiffs", fn := fun _ => fun
  | [d1, d2] => { results := [.lit (.bool true)], args := [d1, d2] }
  | _ => none }
def fnExactJoinDiffsRow : OpenClaim := { program := "ytpfdhbomcoafdaa", sum := "e0912bdbeb20f63f0e90784360a03f94c0f05572405d0297de66a5e995addad7", func := "loop.example/blockexecutor/laws.FnExactJoinDiffs", spec := "fnExactJoinDiffs", apart := false }
def FnExactJoinDiffsSaid : Prop := fnExactJoinDiffsRow.holds Try.pinned (OpenSpec.ofChange fnExactJoinDiffsSpec)

/-- ITS FALSE NEIGHBOUR: 'it returns false'. Refute it at one input. -/
def fnExactJoinDiffsWrong : ChangeSpec := { name := "fnExactJoinDiffs", fn := fun _ => fun
  | [d1, d2] => { results := [.lit (.bool false)], args := [d1, d2] }
  | _ => none }
def FnExactJoinDiffsWrongFalsely : Prop := fnExactJoinDiffsRow.holds Try.pinned (OpenSpec.ofChange fnExactJoinDiffsWrong)

/-- 'laws.FnExactDiffStores': WHATEVER THE INPUT: true; the input reads as it did. -/
def fnExactDiffStoresSpec : ChangeSpec := { name := "fnExactDiffStores", fn := fun _ => fun
  | [d1, d2] => { results := [.lit (.bool true)], args := [d1, d2] }
  | _ => none }
def fnExactDiffStoresRow : OpenClaim := { program := "ytpfdhbomcoafdaa", sum := "e0912bdbeb20f63f0e90784360a03f94c0f05572405d0297de66a5e995addad7", func := "loop.example/blockexecutor/laws.FnExactDiffStores", spec := "fnExactDiffStores", apart := false }
def FnExactDiffStoresSaid : Prop := fnExactDiffStoresRow.holds Try.pinned (OpenSpec.ofChange fnExactDiffStoresSpec)

/-- ITS FALSE NEIGHBOUR: 'it returns false'. Refute it at one input. -/
def fnExactDiffStoresWrong : ChangeSpec := { name := "fnExactDiffStores", fn := fun _ => fun
  | [d1, d2] => { results := [.lit (.bool false)], args := [d1, d2] }
  | _ => none }
def FnExactDiffStoresWrongFalsely : Prop := fnExactDiffStoresRow.holds Try.pinned (OpenSpec.ofChange fnExactDiffStoresWrong)

/-- 'laws.FnExactApplyDiff': WHATEVER THE INPUT: true; the input reads as it did. -/
def fnExactApplyDiffSpec : ChangeSpec := { name := "fnExactApplyDiff", fn := fun _ => fun
  | [d1, d2] => { results := [.lit (.bool true)], args := [d1, d2] }
  | _ => none }
def fnExactApplyDiffRow : OpenClaim := { program := "ytpfdhbomcoafdaa", sum := "e0912bdbeb20f63f0e90784360a03f94c0f05572405d0297de66a5e995addad7", func := "loop.example/blockexecutor/laws.FnExactApplyDiff", spec := "fnExactApplyDiff", apart := false }
def FnExactApplyDiffSaid : Prop := fnExactApplyDiffRow.holds Try.pinned (OpenSpec.ofChange fnExactApplyDiffSpec)

/-- ITS FALSE NEIGHBOUR: 'it returns false'. Refute it at one input. -/
def fnExactApplyDiffWrong : ChangeSpec := { name := "fnExactApplyDiff", fn := fun _ => fun
  | [d1, d2] => { results := [.lit (.bool false)], args := [d1, d2] }
  | _ => none }
def FnExactApplyDiffWrongFalsely : Prop := fnExactApplyDiffRow.holds Try.pinned (OpenSpec.ofChange fnExactApplyDiffWrong)

/-- 'laws.FnApplyDiff': WHATEVER THE INPUT: true; the input reads as it did. -/
def fnApplyDiffSpec : ChangeSpec := { name := "fnApplyDiff", fn := fun _ => fun
  | [d] => { results := [.lit (.bool true)], args := [d] }
  | _ => none }
def fnApplyDiffRow : OpenClaim := { program := "ytpfdhbomcoafdaa", sum := "e0912bdbeb20f63f0e90784360a03f94c0f05572405d0297de66a5e995addad7", func := "loop.example/blockexecutor/laws.FnApplyDiff", spec := "fnApplyDiff", unfollowed := true, recurses := true, apart := false }
def FnApplyDiffSaid : Prop := fnApplyDiffRow.holds Try.pinned (OpenSpec.ofChange fnApplyDiffSpec)

/-- ITS FALSE NEIGHBOUR: 'it returns false'. Refute it at one input. -/
def fnApplyDiffWrong : ChangeSpec := { name := "fnApplyDiff", fn := fun _ => fun
  | [d] => { results := [.lit (.bool false)], args := [d] }
  | _ => none }
def FnApplyDiffWrongFalsely : Prop := fnApplyDiffRow.holds Try.pinned (OpenSpec.ofChange fnApplyDiffWrong)

/-- 'laws.FnDiffStores': WHATEVER THE INPUT: true; the input reads as it did. -/
def fnDiffStoresSpec : ChangeSpec := { name := "fnDiffStores", fn := fun _ => fun
  | [d] => { results := [.lit (.bool true)], args := [d] }
  | _ => none }
def fnDiffStoresRow : OpenClaim := { program := "ytpfdhbomcoafdaa", sum := "e0912bdbeb20f63f0e90784360a03f94c0f05572405d0297de66a5e995addad7", func := "loop.example/blockexecutor/laws.FnDiffStores", spec := "fnDiffStores", unfollowed := true, recurses := true, apart := false }
def FnDiffStoresSaid : Prop := fnDiffStoresRow.holds Try.pinned (OpenSpec.ofChange fnDiffStoresSpec)

/-- ITS FALSE NEIGHBOUR: 'it returns false'. Refute it at one input. -/
def fnDiffStoresWrong : ChangeSpec := { name := "fnDiffStores", fn := fun _ => fun
  | [d] => { results := [.lit (.bool false)], args := [d] }
  | _ => none }
def FnDiffStoresWrongFalsely : Prop := fnDiffStoresRow.holds Try.pinned (OpenSpec.ofChange fnDiffStoresWrong)

/-- 'laws.FnJoinDiffs': WHATEVER THE INPUT: true; the input reads as it did. -/
def fnJoinDiffsSpec : ChangeSpec := { name := "fnJoinDiffs", fn := fun _ => fun
  | [d1, d2] => { results := [.lit (.bool true)], args := [d1, d2] }
  | _ => none }
def fnJoinDiffsRow : OpenClaim := { program := "ytpfdhbomcoafdaa", sum := "e0912bdbeb20f63f0e90784360a03f94c0f05572405d0297de66a5e995addad7", func := "loop.example/blockexecutor/laws.FnJoinDiffs", spec := "fnJoinDiffs", unfollowed := true, recurses := true, apart := false }
def FnJoinDiffsSaid : Prop := fnJoinDiffsRow.holds Try.pinned (OpenSpec.ofChange fnJoinDiffsSpec)

/-- ITS FALSE NEIGHBOUR: 'it returns false'. Refute it at one input. -/
def fnJoinDiffsWrong : ChangeSpec := { name := "fnJoinDiffs", fn := fun _ => fun
  | [d1, d2] => { results := [.lit (.bool false)], args := [d1, d2] }
  | _ => none }
def FnJoinDiffsWrongFalsely : Prop := fnJoinDiffsRow.holds Try.pinned (OpenSpec.ofChange fnJoinDiffsWrong)

/- THE SECOND FORM. 'bulk': how many values and letters a reading holds, each counted each time it is reached (what is shared counts as often as it is met; a slice's spare places count too). A statement '..UptoSaid' is the law's where the arguments, and the package variables that the reading takes, are together of bulk at most 1048576: NARROWER than '..Said'. Prove '..Said' where nothing that the law and all that it calls make is longer than what came in: it says more and counts as full. Else prove '..UptoSaid'. A law counts once. -/
mutual
def uptoBulk {H : Type} : DataW H → Nat
  | .lit (.string bytes) => bytes.length + 1
  | .lit _ => 1
  | .nil => 1
  | .ptr d => uptoBulk d + 1
  | .slice elems spare => uptoBulkAll elems + uptoBulkAll spare + 1
  | .agg parts => uptoBulkAll parts + 1
  | .iface _ d => uptoBulk d + 1
  | .map entries => uptoBulkEntries entries + 1
  | .held _ => 1
def uptoBulkAll {H : Type} : List (DataW H) → Nat
  | [] => 0
  | d :: r => uptoBulk d + uptoBulkAll r
def uptoBulkEntries {H : Type} : List (Lit × DataW H) → Nat
  | [] => 0
  | x :: r => uptoBulkEntry x + uptoBulkEntries r
def uptoBulkEntry {H : Type} : Lit × DataW H → Nat
  | (.string bytes, d) => bytes.length + uptoBulk d + 1
  | (_, d) => uptoBulk d + 1
 end
def uptoSmall : (H : Type) → List (DataW H) → Bool := fun _ ds => decide (uptoBulkAll ds ≤ 1048576)
def OpenSpec.upto (s : _root_.Go.ChangeSpec) : _root_.Go.OpenSpec := { _root_.Go.OpenSpec.ofChange s with cond := some uptoSmall }

/-- 'laws.FnExactJoinDiffs', WHERE WHAT IT READS IS OF BULK AT MOST 1048576: true; the input reads as it did. -/
def fnExactJoinDiffsUptoRow : OpenClaim := { program := "ytpfdhbomcoafdaa", sum := "e0912bdbeb20f63f0e90784360a03f94c0f05572405d0297de66a5e995addad7", func := "loop.example/blockexecutor/laws.FnExactJoinDiffs", spec := "fnExactJoinDiffs", apart := false, narrowed := true }
def FnExactJoinDiffsUptoSaid : Prop := fnExactJoinDiffsUptoRow.holds Try.pinned (OpenSpec.upto fnExactJoinDiffsSpec)

/-- 'laws.FnExactDiffStores', WHERE WHAT IT READS IS OF BULK AT MOST 1048576: true; the input reads as it did. -/
def fnExactDiffStoresUptoRow : OpenClaim := { program := "ytpfdhbomcoafdaa", sum := "e0912bdbeb20f63f0e90784360a03f94c0f05572405d0297de66a5e995addad7", func := "loop.example/blockexecutor/laws.FnExactDiffStores", spec := "fnExactDiffStores", apart := false, narrowed := true }
def FnExactDiffStoresUptoSaid : Prop := fnExactDiffStoresUptoRow.holds Try.pinned (OpenSpec.upto fnExactDiffStoresSpec)

/-- 'laws.FnExactApplyDiff', WHERE WHAT IT READS IS OF BULK AT MOST 1048576: true; the input reads as it did. -/
def fnExactApplyDiffUptoRow : OpenClaim := { program := "ytpfdhbomcoafdaa", sum := "e0912bdbeb20f63f0e90784360a03f94c0f05572405d0297de66a5e995addad7", func := "loop.example/blockexecutor/laws.FnExactApplyDiff", spec := "fnExactApplyDiff", apart := false, narrowed := true }
def FnExactApplyDiffUptoSaid : Prop := fnExactApplyDiffUptoRow.holds Try.pinned (OpenSpec.upto fnExactApplyDiffSpec)

/-- 'laws.FnApplyDiff', WHERE WHAT IT READS IS OF BULK AT MOST 1048576: true; the input reads as it did. -/
def fnApplyDiffUptoRow : OpenClaim := { program := "ytpfdhbomcoafdaa", sum := "e0912bdbeb20f63f0e90784360a03f94c0f05572405d0297de66a5e995addad7", func := "loop.example/blockexecutor/laws.FnApplyDiff", spec := "fnApplyDiff", unfollowed := true, recurses := true, apart := false, narrowed := true }
def FnApplyDiffUptoSaid : Prop := fnApplyDiffUptoRow.holds Try.pinned (OpenSpec.upto fnApplyDiffSpec)

/-- 'laws.FnDiffStores', WHERE WHAT IT READS IS OF BULK AT MOST 1048576: true; the input reads as it did. -/
def fnDiffStoresUptoRow : OpenClaim := { program := "ytpfdhbomcoafdaa", sum := "e0912bdbeb20f63f0e90784360a03f94c0f05572405d0297de66a5e995addad7", func := "loop.example/blockexecutor/laws.FnDiffStores", spec := "fnDiffStores", unfollowed := true, recurses := true, apart := false, narrowed := true }
def FnDiffStoresUptoSaid : Prop := fnDiffStoresUptoRow.holds Try.pinned (OpenSpec.upto fnDiffStoresSpec)

/-- 'laws.FnJoinDiffs', WHERE WHAT IT READS IS OF BULK AT MOST 1048576: true; the input reads as it did. -/
def fnJoinDiffsUptoRow : OpenClaim := { program := "ytpfdhbomcoafdaa", sum := "e0912bdbeb20f63f0e90784360a03f94c0f05572405d0297de66a5e995addad7", func := "loop.example/blockexecutor/laws.FnJoinDiffs", spec := "fnJoinDiffs", unfollowed := true, recurses := true, apart := false, narrowed := true }
def FnJoinDiffsUptoSaid : Prop := fnJoinDiffsUptoRow.holds Try.pinned (OpenSpec.upto fnJoinDiffsSpec)

end Rows
end Go.Proofs.Ytpfdhbomcoafdaa
