/-
  No cell of these rows narrows 'for every input' (looked for: loops, veiled, ifaces, maps, wideKeys, modest, calm, conditions, laid).
  DERIVED. THE GIVEN ROWS OF THIS SEAT. 7 by the template 'for every input the law returns true; each argument reads behind the call as it read before'; 0 by the template 'total and deterministic' (their statements: YtiaodcjocogkkaaTotals.lean).
  GIVEN WITH THE SEED: the statements are not yours to turn. If you find one false, say at which input.
  Laid BY PROGRAM, IN A SANDBOX (cutbox-rows.mjs): the forced cells as the released guide's own fill.sh prints them over the translation 6dfcf4b47214ca89… (all of the seat's roots in one cut). By AI agents, Wed Nov 11 2026. No macro, syntax, notation, axiom, sorry.
-/
import Derived.Test.YtiaodcjocogkkaaChecked
import GoSem.Claim
import GoSem.ClaimJoined
import GoSem.ClaimMapViews
import Derived.JoinedTies
import Derived.KernelRfl
namespace Go.Proofs.Ytiaodcjocogkkaa
/- THE CELL 'sum', in the pinned program and in every row, IS THE sha256 OF THE DUMP (.gsa) THAT YtiaodcjocogkkaaProg.lean LOADS. Nothing in Lean hashes anything: it is a label: what it is worth is what the hold of that sum in a sandbox is worth. -/
noncomputable def Try.pinned : Pinned := { name := "ytiaodcjocogkkaa", sum := "6dfcf4b47214ca89c6d28ce30cc2a8449b52a276dfc8bf30a07929aa676de894", checked := Try.checked }
namespace Rows
def none {H : Type} : Left H := { results := [], args := [] }

/-- 'laws.FnExactRightReads': WHATEVER THE INPUT: true; the input reads as it did. -/
def fnExactRightReadsSpec : ChangeSpec := { name := "fnExactRightReads", fn := fun _ => fun
  | [d1, d2] => { results := [.lit (.bool true)], args := [d1, d2] }
  | _ => none }
def fnExactRightReadsRow : OpenClaim := { program := "ytiaodcjocogkkaa", sum := "6dfcf4b47214ca89c6d28ce30cc2a8449b52a276dfc8bf30a07929aa676de894", func := "loop.example/blockexecutor/laws.FnExactRightReads", spec := "fnExactRightReads", apart := false }
def FnExactRightReadsSaid : Prop := fnExactRightReadsRow.holds Try.pinned (OpenSpec.ofChange fnExactRightReadsSpec)

/-- ITS FALSE NEIGHBOUR: 'it returns false'. Refute it at one input. -/
def fnExactRightReadsWrong : ChangeSpec := { name := "fnExactRightReads", fn := fun _ => fun
  | [d1, d2] => { results := [.lit (.bool false)], args := [d1, d2] }
  | _ => none }
def FnExactRightReadsWrongFalsely : Prop := fnExactRightReadsRow.holds Try.pinned (OpenSpec.ofChange fnExactRightReadsWrong)

/-- 'laws.FnExactEffectsStore': WHATEVER THE INPUT: true; the input reads as it did. -/
def fnExactEffectsStoreSpec : ChangeSpec := { name := "fnExactEffectsStore", fn := fun _ => fun
  | [d1, d2] => { results := [.lit (.bool true)], args := [d1, d2] }
  | _ => none }
def fnExactEffectsStoreRow : OpenClaim := { program := "ytiaodcjocogkkaa", sum := "6dfcf4b47214ca89c6d28ce30cc2a8449b52a276dfc8bf30a07929aa676de894", func := "loop.example/blockexecutor/laws.FnExactEffectsStore", spec := "fnExactEffectsStore", apart := false }
def FnExactEffectsStoreSaid : Prop := fnExactEffectsStoreRow.holds Try.pinned (OpenSpec.ofChange fnExactEffectsStoreSpec)

/-- ITS FALSE NEIGHBOUR: 'it returns false'. Refute it at one input. -/
def fnExactEffectsStoreWrong : ChangeSpec := { name := "fnExactEffectsStore", fn := fun _ => fun
  | [d1, d2] => { results := [.lit (.bool false)], args := [d1, d2] }
  | _ => none }
def FnExactEffectsStoreWrongFalsely : Prop := fnExactEffectsStoreRow.holds Try.pinned (OpenSpec.ofChange fnExactEffectsStoreWrong)

/-- 'laws.FnExactFirstWrong': WHATEVER THE INPUT: true; the input reads as it did. -/
def fnExactFirstWrongSpec : ChangeSpec := { name := "fnExactFirstWrong", fn := fun _ => fun
  | [d1, d2, d3] => { results := [.lit (.bool true)], args := [d1, d2, d3] }
  | _ => none }
def fnExactFirstWrongRow : OpenClaim := { program := "ytiaodcjocogkkaa", sum := "6dfcf4b47214ca89c6d28ce30cc2a8449b52a276dfc8bf30a07929aa676de894", func := "loop.example/blockexecutor/laws.FnExactFirstWrong", spec := "fnExactFirstWrong", unfollowed := true, recurses := true, apart := false }
def FnExactFirstWrongSaid : Prop := fnExactFirstWrongRow.holds Try.pinned (OpenSpec.ofChange fnExactFirstWrongSpec)

/-- ITS FALSE NEIGHBOUR: 'it returns false'. Refute it at one input. -/
def fnExactFirstWrongWrong : ChangeSpec := { name := "fnExactFirstWrong", fn := fun _ => fun
  | [d1, d2, d3] => { results := [.lit (.bool false)], args := [d1, d2, d3] }
  | _ => none }
def FnExactFirstWrongWrongFalsely : Prop := fnExactFirstWrongRow.holds Try.pinned (OpenSpec.ofChange fnExactFirstWrongWrong)

/-- 'laws.FnExactAnswerRight': WHATEVER THE INPUT: true; the input reads as it did. -/
def fnExactAnswerRightSpec : ChangeSpec := { name := "fnExactAnswerRight", fn := fun _ => fun
  | [d1, d2] => { results := [.lit (.bool true)], args := [d1, d2] }
  | _ => none }
def fnExactAnswerRightRow : OpenClaim := { program := "ytiaodcjocogkkaa", sum := "6dfcf4b47214ca89c6d28ce30cc2a8449b52a276dfc8bf30a07929aa676de894", func := "loop.example/blockexecutor/laws.FnExactAnswerRight", spec := "fnExactAnswerRight", unfollowed := true, recurses := true, apart := false }
def FnExactAnswerRightSaid : Prop := fnExactAnswerRightRow.holds Try.pinned (OpenSpec.ofChange fnExactAnswerRightSpec)

/-- ITS FALSE NEIGHBOUR: 'it returns false'. Refute it at one input. -/
def fnExactAnswerRightWrong : ChangeSpec := { name := "fnExactAnswerRight", fn := fun _ => fun
  | [d1, d2] => { results := [.lit (.bool false)], args := [d1, d2] }
  | _ => none }
def FnExactAnswerRightWrongFalsely : Prop := fnExactAnswerRightRow.holds Try.pinned (OpenSpec.ofChange fnExactAnswerRightWrong)

/-- 'laws.FnEffectsStore': WHATEVER THE INPUT: true; the input reads as it did. -/
def fnEffectsStoreSpec : ChangeSpec := { name := "fnEffectsStore", fn := fun _ => fun
  | [d] => { results := [.lit (.bool true)], args := [d] }
  | _ => none }
def fnEffectsStoreRow : OpenClaim := { program := "ytiaodcjocogkkaa", sum := "6dfcf4b47214ca89c6d28ce30cc2a8449b52a276dfc8bf30a07929aa676de894", func := "loop.example/blockexecutor/laws.FnEffectsStore", spec := "fnEffectsStore", unfollowed := true, recurses := true, apart := false }
def FnEffectsStoreSaid : Prop := fnEffectsStoreRow.holds Try.pinned (OpenSpec.ofChange fnEffectsStoreSpec)

/-- ITS FALSE NEIGHBOUR: 'it returns false'. Refute it at one input. -/
def fnEffectsStoreWrong : ChangeSpec := { name := "fnEffectsStore", fn := fun _ => fun
  | [d] => { results := [.lit (.bool false)], args := [d] }
  | _ => none }
def FnEffectsStoreWrongFalsely : Prop := fnEffectsStoreRow.holds Try.pinned (OpenSpec.ofChange fnEffectsStoreWrong)

/-- 'laws.FnFirstWrong': WHATEVER THE INPUT: true; the input reads as it did. -/
def fnFirstWrongSpec : ChangeSpec := { name := "fnFirstWrong", fn := fun _ => fun
  | [d] => { results := [.lit (.bool true)], args := [d] }
  | _ => none }
def fnFirstWrongRow : OpenClaim := { program := "ytiaodcjocogkkaa", sum := "6dfcf4b47214ca89c6d28ce30cc2a8449b52a276dfc8bf30a07929aa676de894", func := "loop.example/blockexecutor/laws.FnFirstWrong", spec := "fnFirstWrong", unfollowed := true, recurses := true, apart := false }
def FnFirstWrongSaid : Prop := fnFirstWrongRow.holds Try.pinned (OpenSpec.ofChange fnFirstWrongSpec)

/-- ITS FALSE NEIGHBOUR: 'it returns false'. Refute it at one input. -/
def fnFirstWrongWrong : ChangeSpec := { name := "fnFirstWrong", fn := fun _ => fun
  | [d] => { results := [.lit (.bool false)], args := [d] }
  | _ => none }
def FnFirstWrongWrongFalsely : Prop := fnFirstWrongRow.holds Try.pinned (OpenSpec.ofChange fnFirstWrongWrong)

/-- 'laws.FnRightReads': WHATEVER THE INPUT: true; the input reads as it did. -/
def fnRightReadsSpec : ChangeSpec := { name := "fnRightReads", fn := fun _ => fun
  | [d] => { results := [.lit (.bool true)], args := [d] }
  | _ => none }
def fnRightReadsRow : OpenClaim := { program := "ytiaodcjocogkkaa", sum := "6dfcf4b47214ca89c6d28ce30cc2a8449b52a276dfc8bf30a07929aa676de894", func := "loop.example/blockexecutor/laws.FnRightReads", spec := "fnRightReads", unfollowed := true, recurses := true, apart := false }
def FnRightReadsSaid : Prop := fnRightReadsRow.holds Try.pinned (OpenSpec.ofChange fnRightReadsSpec)

/-- ITS FALSE NEIGHBOUR: 'it returns false'. Refute it at one input. -/
def fnRightReadsWrong : ChangeSpec := { name := "fnRightReads", fn := fun _ => fun
  | [d] => { results := [.lit (.bool false)], args := [d] }
  | _ => none }
def FnRightReadsWrongFalsely : Prop := fnRightReadsRow.holds Try.pinned (OpenSpec.ofChange fnRightReadsWrong)

/- THE SECOND FORM. 'bulk': how many values and letters a reading holds, each counted each time it is reached (what is shared counts as often as it is met; a slice's spare places count too). A statement '..UptoSaid' is the law's where the arguments, and the package variables that the reading takes, are together of bulk at most 1048576: NARROWER than '..Said'. Prove '..Said' where nothing that the law and all that it calls make is longer than what came in: it says more and counts as full. Else prove '..UptoSaid'. A law counts once. -/
mutual
def uptoBulk {H : Type} : DataW H → Nat
  | .lit (.string bytes) => bytes.length + 1
  | .lit _ => 1
  | .nil => 1
  | .ptr d => uptoBulk d + 1
  | .slice elems spare => uptoBulkAll elems + uptoBulkAll spare + 1
  | .agg parts => uptoBulkAll parts + 1
  | .iface _ d => uptoBulk d + 1
  | .map entries => uptoBulkEntries entries + 1
  | .held _ => 1
def uptoBulkAll {H : Type} : List (DataW H) → Nat
  | [] => 0
  | d :: r => uptoBulk d + uptoBulkAll r
def uptoBulkEntries {H : Type} : List (Lit × DataW H) → Nat
  | [] => 0
  | x :: r => uptoBulkEntry x + uptoBulkEntries r
def uptoBulkEntry {H : Type} : Lit × DataW H → Nat
  | (.string bytes, d) => bytes.length + uptoBulk d + 1
  | (_, d) => uptoBulk d + 1
 end
def uptoSmall : (H : Type) → List (DataW H) → Bool := fun _ ds => decide (uptoBulkAll ds ≤ 1048576)
def OpenSpec.upto (s : _root_.Go.ChangeSpec) : _root_.Go.OpenSpec := { _root_.Go.OpenSpec.ofChange s with cond := some uptoSmall }

/-- 'laws.FnExactRightReads', WHERE WHAT IT READS IS OF BULK AT MOST 1048576: true; the input reads as it did. -/
def fnExactRightReadsUptoRow : OpenClaim := { program := "ytiaodcjocogkkaa", sum := "6dfcf4b47214ca89c6d28ce30cc2a8449b52a276dfc8bf30a07929aa676de894", func := "loop.example/blockexecutor/laws.FnExactRightReads", spec := "fnExactRightReads", apart := false, narrowed := true }
def FnExactRightReadsUptoSaid : Prop := fnExactRightReadsUptoRow.holds Try.pinned (OpenSpec.upto fnExactRightReadsSpec)

/-- 'laws.FnExactEffectsStore', WHERE WHAT IT READS IS OF BULK AT MOST 1048576: true; the input reads as it did. -/
def fnExactEffectsStoreUptoRow : OpenClaim := { program := "ytiaodcjocogkkaa", sum := "6dfcf4b47214ca89c6d28ce30cc2a8449b52a276dfc8bf30a07929aa676de894", func := "loop.example/blockexecutor/laws.FnExactEffectsStore", spec := "fnExactEffectsStore", apart := false, narrowed := true }
def FnExactEffectsStoreUptoSaid : Prop := fnExactEffectsStoreUptoRow.holds Try.pinned (OpenSpec.upto fnExactEffectsStoreSpec)

/-- 'laws.FnExactFirstWrong', WHERE WHAT IT READS IS OF BULK AT MOST 1048576: true; the input reads as it did. -/
def fnExactFirstWrongUptoRow : OpenClaim := { program := "ytiaodcjocogkkaa", sum := "6dfcf4b47214ca89c6d28ce30cc2a8449b52a276dfc8bf30a07929aa676de894", func := "loop.example/blockexecutor/laws.FnExactFirstWrong", spec := "fnExactFirstWrong", unfollowed := true, recurses := true, apart := false, narrowed := true }
def FnExactFirstWrongUptoSaid : Prop := fnExactFirstWrongUptoRow.holds Try.pinned (OpenSpec.upto fnExactFirstWrongSpec)

/-- 'laws.FnExactAnswerRight', WHERE WHAT IT READS IS OF BULK AT MOST 1048576: true; the input reads as it did. -/
def fnExactAnswerRightUptoRow : OpenClaim := { program := "ytiaodcjocogkkaa", sum := "6dfcf4b47214ca89c6d28ce30cc2a8449b52a276dfc8bf30a07929aa676de894", func := "loop.example/blockexecutor/laws.FnExactAnswerRight", spec := "fnExactAnswerRight", unfollowed := true, recurses := true, apart := false, narrowed := true }
def FnExactAnswerRightUptoSaid : Prop := fnExactAnswerRightUptoRow.holds Try.pinned (OpenSpec.upto fnExactAnswerRightSpec)

/-- 'laws.FnEffectsStore', WHERE WHAT IT READS IS OF BULK AT MOST 1048576: true; the input reads as it did. -/
def fnEffectsStoreUptoRow : OpenClaim := { program := "ytiaodcjocogkkaa", sum := "6dfcf4b47214ca89c6d28ce30cc2a8449b52a276dfc8bf30a07929aa676de894", func := "loop.example/blockexecutor/laws.FnEffectsStore", spec := "fnEffectsStore", unfollowed := true, recurses := true, apart := false, narrowed := true }
def FnEffectsStoreUptoSaid : Prop := fnEffectsStoreUptoRow.holds Try.pinned (OpenSpec.upto fnEffectsStoreSpec)

/-- 'laws.FnFirstWrong', WHERE WHAT IT READS IS OF BULK AT MOST 1048576: true; the input reads as it did. -/
def fnFirstWrongUptoRow : OpenClaim := { program := "ytiaodcjocogkkaa", sum := "6dfcf4b47214ca89c6d28ce30cc2a8449b52a276dfc8bf30a07929aa676de894", func := "loop.example/blockexecutor/laws.FnFirstWrong", spec := "fnFirstWrong", unfollowed := true, recurses := true, apart := false, narrowed := true }
def FnFirstWrongUptoSaid : Prop := fnFirstWrongUptoRow.holds Try.pinned (OpenSpec.upto fnFirstWrongSpec)

/-- 'laws.FnRightReads', WHERE WHAT IT READS IS OF BULK AT MOST 1048576: true; the input reads as it did. -/
def fnRightReadsUptoRow : OpenClaim := { program := "ytiaodcjocogkkaa", sum := "6dfcf4b47214ca89c6d28ce30cc2a8449b52a276dfc8bf30a07929aa676de894", func := "loop.example/blockexecutor/laws.FnRightReads", spec := "fnRightReads", unfollowed := true, recurses := true, apart := false, narrowed := true }
def FnRightReadsUptoSaid : Prop := fnRightReadsUptoRow.holds Try.pinned (OpenSpec.upto fnRightReadsSpec)

end Rows
end Go.Proofs.Ytiaodcjocogkkaa
