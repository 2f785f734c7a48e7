/-
  No cell of these rows narrows 'for every input' (looked for: loops, veiled, ifaces, maps, wideKeys, modest, calm, conditions, laid).
  DERIVED. THE GIVEN ROWS OF THIS SEAT. 3 by the template 'for every input the law returns true; each argument reads behind the call as it read before'; 0 by the template 'total and deterministic' (their statements: YtefdhlfljpppfaaTotals.lean).
  GIVEN WITH THE SEED: the statements are not yours to turn. If you find one false, say at which input.
  Laid BY PROGRAM, IN A SANDBOX (cutbox-rows.mjs): the forced cells as the released guide's own fill.sh prints them over the translation 7758ab8e4fbcf593… (all of the seat's roots in one cut). By AI agents, Wed Nov 11 2026. No macro, syntax, notation, axiom, sorry.
-/
import Derived.Test.YtefdhlfljpppfaaChecked
import GoSem.Claim
import GoSem.ClaimJoined
import GoSem.ClaimMapViews
import Derived.JoinedTies
import Derived.KernelRfl
namespace Go.Proofs.Ytefdhlfljpppfaa
/- THE CELL 'sum', in the pinned program and in every row, IS THE sha256 OF THE DUMP (.gsa) THAT YtefdhlfljpppfaaProg.lean LOADS. Nothing in Lean hashes anything: it is a label: what it is worth is what the hold of that sum in a sandbox is worth. -/
noncomputable def Try.pinned : Pinned := { name := "ytefdhlfljpppfaa", sum := "7758ab8e4fbcf593798cff1a97d39b7a3c230680be49b5ba6fc40b9be7a2858e", checked := Try.checked }
namespace Rows
def none {H : Type} : Left H := { results := [], args := [] }

/-- 'laws.FnLeavesOf': WHATEVER THE INPUT: true; the input reads as it did. -/
def fnLeavesOfSpec : ChangeSpec := { name := "fnLeavesOf", fn := fun _ => fun
  | [d] => { results := [.lit (.bool true)], args := [d] }
  | _ => none }
def fnLeavesOfRow : OpenClaim := { program := "ytefdhlfljpppfaa", sum := "7758ab8e4fbcf593798cff1a97d39b7a3c230680be49b5ba6fc40b9be7a2858e", func := "loop.example/blockexecutor/laws.FnLeavesOf", spec := "fnLeavesOf", unfollowed := true, recurses := true, apart := false }
def FnLeavesOfSaid : Prop := fnLeavesOfRow.holds Try.pinned (OpenSpec.ofChange fnLeavesOfSpec)

/-- ITS FALSE NEIGHBOUR: 'it returns false'. Refute it at one input. -/
def fnLeavesOfWrong : ChangeSpec := { name := "fnLeavesOf", fn := fun _ => fun
  | [d] => { results := [.lit (.bool false)], args := [d] }
  | _ => none }
def FnLeavesOfWrongFalsely : Prop := fnLeavesOfRow.holds Try.pinned (OpenSpec.ofChange fnLeavesOfWrong)

/-- 'laws.FnKeptBlocks': WHATEVER THE INPUT: true; the input reads as it did. -/
def fnKeptBlocksSpec : ChangeSpec := { name := "fnKeptBlocks", fn := fun _ => fun
  | [d] => { results := [.lit (.bool true)], args := [d] }
  | _ => none }
def fnKeptBlocksRow : OpenClaim := { program := "ytefdhlfljpppfaa", sum := "7758ab8e4fbcf593798cff1a97d39b7a3c230680be49b5ba6fc40b9be7a2858e", func := "loop.example/blockexecutor/laws.FnKeptBlocks", spec := "fnKeptBlocks", unfollowed := true, recurses := true, apart := false }
def FnKeptBlocksSaid : Prop := fnKeptBlocksRow.holds Try.pinned (OpenSpec.ofChange fnKeptBlocksSpec)

/-- ITS FALSE NEIGHBOUR: 'it returns false'. Refute it at one input. -/
def fnKeptBlocksWrong : ChangeSpec := { name := "fnKeptBlocks", fn := fun _ => fun
  | [d] => { results := [.lit (.bool false)], args := [d] }
  | _ => none }
def FnKeptBlocksWrongFalsely : Prop := fnKeptBlocksRow.holds Try.pinned (OpenSpec.ofChange fnKeptBlocksWrong)

/-- 'laws.FnAnswerRight': WHATEVER THE INPUT: true; the input reads as it did. -/
def fnAnswerRightSpec : ChangeSpec := { name := "fnAnswerRight", fn := fun _ => fun
  | [d] => { results := [.lit (.bool true)], args := [d] }
  | _ => none }
def fnAnswerRightRow : OpenClaim := { program := "ytefdhlfljpppfaa", sum := "7758ab8e4fbcf593798cff1a97d39b7a3c230680be49b5ba6fc40b9be7a2858e", func := "loop.example/blockexecutor/laws.FnAnswerRight", spec := "fnAnswerRight", unfollowed := true, recurses := true, apart := false }
def FnAnswerRightSaid : Prop := fnAnswerRightRow.holds Try.pinned (OpenSpec.ofChange fnAnswerRightSpec)

/-- ITS FALSE NEIGHBOUR: 'it returns false'. Refute it at one input. -/
def fnAnswerRightWrong : ChangeSpec := { name := "fnAnswerRight", fn := fun _ => fun
  | [d] => { results := [.lit (.bool false)], args := [d] }
  | _ => none }
def FnAnswerRightWrongFalsely : Prop := fnAnswerRightRow.holds Try.pinned (OpenSpec.ofChange fnAnswerRightWrong)

/- THE SECOND FORM. 'bulk': how many values and letters a reading holds, each counted each time it is reached (what is shared counts as often as it is met; a slice's spare places count too). A statement '..UptoSaid' is the law's where the arguments, and the package variables that the reading takes, are together of bulk at most 1048576: NARROWER than '..Said'. Prove '..Said' where nothing that the law and all that it calls make is longer than what came in: it says more and counts as full. Else prove '..UptoSaid'. A law counts once. -/
mutual
def uptoBulk {H : Type} : DataW H → Nat
  | .lit (.string bytes) => bytes.length + 1
  | .lit _ => 1
  | .nil => 1
  | .ptr d => uptoBulk d + 1
  | .slice elems spare => uptoBulkAll elems + uptoBulkAll spare + 1
  | .agg parts => uptoBulkAll parts + 1
  | .iface _ d => uptoBulk d + 1
  | .map entries => uptoBulkEntries entries + 1
  | .held _ => 1
def uptoBulkAll {H : Type} : List (DataW H) → Nat
  | [] => 0
  | d :: r => uptoBulk d + uptoBulkAll r
def uptoBulkEntries {H : Type} : List (Lit × DataW H) → Nat
  | [] => 0
  | x :: r => uptoBulkEntry x + uptoBulkEntries r
def uptoBulkEntry {H : Type} : Lit × DataW H → Nat
  | (.string bytes, d) => bytes.length + uptoBulk d + 1
  | (_, d) => uptoBulk d + 1
 end
def uptoSmall : (H : Type) → List (DataW H) → Bool := fun _ ds => decide (uptoBulkAll ds ≤ 1048576)
def OpenSpec.upto (s : _root_.Go.ChangeSpec) : _root_.Go.OpenSpec := { _root_.Go.OpenSpec.ofChange s with cond := some uptoSmall }

/-- 'laws.FnLeavesOf', WHERE WHAT IT READS IS OF BULK AT MOST 1048576: true; the input reads as it did. -/
def fnLeavesOfUptoRow : OpenClaim := { program := "ytefdhlfljpppfaa", sum := "7758ab8e4fbcf593798cff1a97d39b7a3c230680be49b5ba6fc40b9be7a2858e", func := "loop.example/blockexecutor/laws.FnLeavesOf", spec := "fnLeavesOf", unfollowed := true, recurses := true, apart := false, narrowed := true }
def FnLeavesOfUptoSaid : Prop := fnLeavesOfUptoRow.holds Try.pinned (OpenSpec.upto fnLeavesOfSpec)

/-- 'laws.FnKeptBlocks', WHERE WHAT IT READS IS OF BULK AT MOST 1048576: true; the input reads as it did. -/
def fnKeptBlocksUptoRow : OpenClaim := { program := "ytefdhlfljpppfaa", sum := "7758ab8e4fbcf593798cff1a97d39b7a3c230680be49b5ba6fc40b9be7a2858e", func := "loop.example/blockexecutor/laws.FnKeptBlocks", spec := "fnKeptBlocks", unfollowed := true, recurses := true, apart := false, narrowed := true }
def FnKeptBlocksUptoSaid : Prop := fnKeptBlocksUptoRow.holds Try.pinned (OpenSpec.upto fnKeptBlocksSpec)

/-- 'laws.FnAnswerRight', WHERE WHAT IT READS IS OF BULK AT MOST 1048576: true; the input reads as it did. -/
def fnAnswerRightUptoRow : OpenClaim := { program := "ytefdhlfljpppfaa", sum := "7758ab8e4fbcf593798cff1a97d39b7a3c230680be49b5ba6fc40b9be7a2858e", func := "loop.example/blockexecutor/laws.FnAnswerRight", spec := "fnAnswerRight", unfollowed := true, recurses := true, apart := false, narrowed := true }
def FnAnswerRightUptoSaid : Prop := fnAnswerRightUptoRow.holds Try.pinned (OpenSpec.upto fnAnswerRightSpec)

end Rows
end Go.Proofs.Ytefdhlfljpppfaa
