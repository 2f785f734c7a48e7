/-
  No cell of these rows narrows 'for every input' (looked for: loops, veiled, ifaces, maps, wideKeys, modest, calm, conditions, laid).
  DERIVED. THE GIVEN ROWS OF THIS SEAT. 4 by the template 'for every input the law returns true; each argument reads behind the call as it read before'; 0 by the template 'total and deterministic' (their statements: YtmpdopjailomlaaGreatTotals.lean).
  GIVEN WITH THE SEED: the statements are not yours to turn. If you find one false, say at which input.
  Laid BY PROGRAM, IN A SANDBOX (cutbox-rows.mjs): the forced cells as the released guide's own fill.sh prints them over the translation f0eb1920a5a907e1… (all of the seat's roots in one cut). By AI agents, Wed Nov 11 2026. No macro, syntax, notation, axiom, sorry.
-/
import Derived.Test.YtmpdopjailomlaaGreatChecked
import GoSem.Claim
import GoSem.ClaimJoined
import GoSem.ClaimMapViews
import Derived.JoinedTies
import Derived.KernelRfl
namespace Go.Proofs.YtmpdopjailomlaaGreat
/- THE CELL 'sum', in the pinned program and in every row, IS THE sha256 OF THE DUMP (.gsa) THAT YtmpdopjailomlaaGreatProg.lean LOADS. Nothing in Lean hashes anything: it is a label: what it is worth is what the hold of that sum in a sandbox is worth. -/
noncomputable def Tryz.pinned : Pinned := { name := "ytmpdopjailomlaagreat", sum := "f0eb1920a5a907e18f5f04b038c9705446274d2a7142ffe519b72144c83e9d72", checked := Tryz.checked }
namespace Rows
def none {H : Type} : Left H := { results := [], args := [] }

/-- 'laws.FnExactPruneTree': WHATEVER THE INPUT: true; the input reads as it did. -/
def fnExactPruneTreeSpec : ChangeSpec := { name := "fnExactPruneTree", fn := fun _ => fun
  | [d1, d2] => { results := [.lit (.bool true)], args := [d1, d2] }
  | _ => none }
def fnExactPruneTreeRow : OpenClaim := { program := "ytmpdopjailomlaagreat", sum := "f0eb1920a5a907e18f5f04b038c9705446274d2a7142ffe519b72144c83e9d72", func := "loop.example/blockexecutor/laws.FnExactPruneTree", spec := "fnExactPruneTree", unfollowed := true, recurses := true, apart := false }
def FnExactPruneTreeSaid : Prop := fnExactPruneTreeRow.holds Tryz.pinned (OpenSpec.ofChange fnExactPruneTreeSpec)

/-- ITS FALSE NEIGHBOUR: 'it returns false'. Refute it at one input. -/
def fnExactPruneTreeWrong : ChangeSpec := { name := "fnExactPruneTree", fn := fun _ => fun
  | [d1, d2] => { results := [.lit (.bool false)], args := [d1, d2] }
  | _ => none }
def FnExactPruneTreeWrongFalsely : Prop := fnExactPruneTreeRow.holds Tryz.pinned (OpenSpec.ofChange fnExactPruneTreeWrong)

/-- 'laws.FnExactAskBlock': WHATEVER THE INPUT: true; the input reads as it did. -/
def fnExactAskBlockSpec : ChangeSpec := { name := "fnExactAskBlock", fn := fun _ => fun
  | [d1, d2, d3] => { results := [.lit (.bool true)], args := [d1, d2, d3] }
  | _ => none }
def fnExactAskBlockRow : OpenClaim := { program := "ytmpdopjailomlaagreat", sum := "f0eb1920a5a907e18f5f04b038c9705446274d2a7142ffe519b72144c83e9d72", func := "loop.example/blockexecutor/laws.FnExactAskBlock", spec := "fnExactAskBlock", unfollowed := true, recurses := true, apart := false }
def FnExactAskBlockSaid : Prop := fnExactAskBlockRow.holds Tryz.pinned (OpenSpec.ofChange fnExactAskBlockSpec)

/-- ITS FALSE NEIGHBOUR: 'it returns false'. Refute it at one input. -/
def fnExactAskBlockWrong : ChangeSpec := { name := "fnExactAskBlock", fn := fun _ => fun
  | [d1, d2, d3] => { results := [.lit (.bool false)], args := [d1, d2, d3] }
  | _ => none }
def FnExactAskBlockWrongFalsely : Prop := fnExactAskBlockRow.holds Tryz.pinned (OpenSpec.ofChange fnExactAskBlockWrong)

/-- 'laws.FnExactAskAll': WHATEVER THE INPUT: true; the input reads as it did. -/
def fnExactAskAllSpec : ChangeSpec := { name := "fnExactAskAll", fn := fun _ => fun
  | [d1, d2, d3] => { results := [.lit (.bool true)], args := [d1, d2, d3] }
  | _ => none }
def fnExactAskAllRow : OpenClaim := { program := "ytmpdopjailomlaagreat", sum := "f0eb1920a5a907e18f5f04b038c9705446274d2a7142ffe519b72144c83e9d72", func := "loop.example/blockexecutor/laws.FnExactAskAll", spec := "fnExactAskAll", unfollowed := true, recurses := true, apart := false }
def FnExactAskAllSaid : Prop := fnExactAskAllRow.holds Tryz.pinned (OpenSpec.ofChange fnExactAskAllSpec)

/-- ITS FALSE NEIGHBOUR: 'it returns false'. Refute it at one input. -/
def fnExactAskAllWrong : ChangeSpec := { name := "fnExactAskAll", fn := fun _ => fun
  | [d1, d2, d3] => { results := [.lit (.bool false)], args := [d1, d2, d3] }
  | _ => none }
def FnExactAskAllWrongFalsely : Prop := fnExactAskAllRow.holds Tryz.pinned (OpenSpec.ofChange fnExactAskAllWrong)

/-- 'laws.FnBranchRead': WHATEVER THE INPUT: true; the input reads as it did. -/
def fnBranchReadSpec : ChangeSpec := { name := "fnBranchRead", fn := fun _ => fun
  | [d] => { results := [.lit (.bool true)], args := [d] }
  | _ => none }
def fnBranchReadRow : OpenClaim := { program := "ytmpdopjailomlaagreat", sum := "f0eb1920a5a907e18f5f04b038c9705446274d2a7142ffe519b72144c83e9d72", func := "loop.example/blockexecutor/laws.FnBranchRead", spec := "fnBranchRead", unfollowed := true, recurses := true, apart := false }
def FnBranchReadSaid : Prop := fnBranchReadRow.holds Tryz.pinned (OpenSpec.ofChange fnBranchReadSpec)

/-- ITS FALSE NEIGHBOUR: 'it returns false'. Refute it at one input. -/
def fnBranchReadWrong : ChangeSpec := { name := "fnBranchRead", fn := fun _ => fun
  | [d] => { results := [.lit (.bool false)], args := [d] }
  | _ => none }
def FnBranchReadWrongFalsely : Prop := fnBranchReadRow.holds Tryz.pinned (OpenSpec.ofChange fnBranchReadWrong)

/- THE SECOND FORM. 'bulk': how many values and letters a reading holds, each counted each time it is reached (what is shared counts as often as it is met; a slice's spare places count too). A statement '..UptoSaid' is the law's where the arguments, and the package variables that the reading takes, are together of bulk at most 1048576: NARROWER than '..Said'. Prove '..Said' where nothing that the law and all that it calls make is longer than what came in: it says more and counts as full. Else prove '..UptoSaid'. A law counts once. -/
mutual
def uptoBulk {H : Type} : DataW H → Nat
  | .lit (.string bytes) => bytes.length + 1
  | .lit _ => 1
  | .nil => 1
  | .ptr d => uptoBulk d + 1
  | .slice elems spare => uptoBulkAll elems + uptoBulkAll spare + 1
  | .agg parts => uptoBulkAll parts + 1
  | .iface _ d => uptoBulk d + 1
  | .map entries => uptoBulkEntries entries + 1
  | .held _ => 1
def uptoBulkAll {H : Type} : List (DataW H) → Nat
  | [] => 0
  | d :: r => uptoBulk d + uptoBulkAll r
def uptoBulkEntries {H : Type} : List (Lit × DataW H) → Nat
  | [] => 0
  | x :: r => uptoBulkEntry x + uptoBulkEntries r
def uptoBulkEntry {H : Type} : Lit × DataW H → Nat
  | (.string bytes, d) => bytes.length + uptoBulk d + 1
  | (_, d) => uptoBulk d + 1
 end
def uptoSmall : (H : Type) → List (DataW H) → Bool := fun _ ds => decide (uptoBulkAll ds ≤ 1048576)
def OpenSpec.upto (s : _root_.Go.ChangeSpec) : _root_.Go.OpenSpec := { _root_.Go.OpenSpec.ofChange s with cond := some uptoSmall }

/-- 'laws.FnExactPruneTree', WHERE WHAT IT READS IS OF BULK AT MOST 1048576: true; the input reads as it did. -/
def fnExactPruneTreeUptoRow : OpenClaim := { program := "ytmpdopjailomlaagreat", sum := "f0eb1920a5a907e18f5f04b038c9705446274d2a7142ffe519b72144c83e9d72", func := "loop.example/blockexecutor/laws.FnExactPruneTree", spec := "fnExactPruneTree", unfollowed := true, recurses := true, apart := false, narrowed := true }
def FnExactPruneTreeUptoSaid : Prop := fnExactPruneTreeUptoRow.holds Tryz.pinned (OpenSpec.upto fnExactPruneTreeSpec)

/-- 'laws.FnExactAskBlock', WHERE WHAT IT READS IS OF BULK AT MOST 1048576: true; the input reads as it did. -/
def fnExactAskBlockUptoRow : OpenClaim := { program := "ytmpdopjailomlaagreat", sum := "f0eb1920a5a907e18f5f04b038c9705446274d2a7142ffe519b72144c83e9d72", func := "loop.example/blockexecutor/laws.FnExactAskBlock", spec := "fnExactAskBlock", unfollowed := true, recurses := true, apart := false, narrowed := true }
def FnExactAskBlockUptoSaid : Prop := fnExactAskBlockUptoRow.holds Tryz.pinned (OpenSpec.upto fnExactAskBlockSpec)

/-- 'laws.FnExactAskAll', WHERE WHAT IT READS IS OF BULK AT MOST 1048576: true; the input reads as it did. -/
def fnExactAskAllUptoRow : OpenClaim := { program := "ytmpdopjailomlaagreat", sum := "f0eb1920a5a907e18f5f04b038c9705446274d2a7142ffe519b72144c83e9d72", func := "loop.example/blockexecutor/laws.FnExactAskAll", spec := "fnExactAskAll", unfollowed := true, recurses := true, apart := false, narrowed := true }
def FnExactAskAllUptoSaid : Prop := fnExactAskAllUptoRow.holds Tryz.pinned (OpenSpec.upto fnExactAskAllSpec)

/-- 'laws.FnBranchRead', WHERE WHAT IT READS IS OF BULK AT MOST 1048576: true; the input reads as it did. -/
def fnBranchReadUptoRow : OpenClaim := { program := "ytmpdopjailomlaagreat", sum := "f0eb1920a5a907e18f5f04b038c9705446274d2a7142ffe519b72144c83e9d72", func := "loop.example/blockexecutor/laws.FnBranchRead", spec := "fnBranchRead", unfollowed := true, recurses := true, apart := false, narrowed := true }
def FnBranchReadUptoSaid : Prop := fnBranchReadUptoRow.holds Tryz.pinned (OpenSpec.upto fnBranchReadSpec)

end Rows
end Go.Proofs.YtmpdopjailomlaaGreat
