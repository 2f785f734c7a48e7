/-
  No cell of these rows narrows 'for every input' (looked for: loops, veiled, ifaces, maps, wideKeys, modest, calm, conditions, laid).
  DERIVED. THE GIVEN ROWS OF THIS SEAT. 5 by the template 'for every input the law returns true; each argument reads behind the call as it read before'; 0 by the template 'total and deterministic' (their statements: YtefdhlfljpppfaaGreatTotals.lean).
  GIVEN WITH THE SEED: the statements are not yours to turn. If you find one false, say at which input.
  Laid BY PROGRAM, IN A SANDBOX (cutbox-rows.mjs): the forced cells as the released guide's own fill.sh prints them over the translation 1a1e13e012f212d2… (all of the seat's roots in one cut). By AI agents, Wed Nov 11 2026. No macro, syntax, notation, axiom, sorry.
-/
import Derived.Test.YtefdhlfljpppfaaGreatChecked
import GoSem.Claim
import GoSem.ClaimJoined
import GoSem.ClaimMapViews
import Derived.JoinedTies
import Derived.KernelRfl
namespace Go.Proofs.YtefdhlfljpppfaaGreat
/- THE CELL 'sum', in the pinned program and in every row, IS THE sha256 OF THE DUMP (.gsa) THAT YtefdhlfljpppfaaGreatProg.lean LOADS. Nothing in Lean hashes anything: it is a label: what it is worth is what the hold of that sum in a sandbox is worth. -/
noncomputable def Tryz.pinned : Pinned := { name := "ytefdhlfljpppfaagreat", sum := "1a1e13e012f212d24db82331343fd06edc43c211623b122161bc2b57c1ec6813", checked := Tryz.checked }
namespace Rows
def none {H : Type} : Left H := { results := [], args := [] }

/-- 'laws.FnBranchRead': WHATEVER THE INPUT: true; the input reads as it did. -/
def fnBranchReadSpec : ChangeSpec := { name := "fnBranchRead", fn := fun _ => fun
  | [d] => { results := [.lit (.bool true)], args := [d] }
  | _ => none }
def fnBranchReadRow : OpenClaim := { program := "ytefdhlfljpppfaagreat", sum := "1a1e13e012f212d24db82331343fd06edc43c211623b122161bc2b57c1ec6813", func := "loop.example/blockexecutor/laws.FnBranchRead", spec := "fnBranchRead", unfollowed := true, recurses := true, apart := false }
def FnBranchReadSaid : Prop := fnBranchReadRow.holds Tryz.pinned (OpenSpec.ofChange fnBranchReadSpec)

/-- ITS FALSE NEIGHBOUR: 'it returns false'. Refute it at one input. -/
def fnBranchReadWrong : ChangeSpec := { name := "fnBranchRead", fn := fun _ => fun
  | [d] => { results := [.lit (.bool false)], args := [d] }
  | _ => none }
def FnBranchReadWrongFalsely : Prop := fnBranchReadRow.holds Tryz.pinned (OpenSpec.ofChange fnBranchReadWrong)

/-- 'laws.FnAskAll': WHATEVER THE INPUT: true; the input reads as it did. -/
def fnAskAllSpec : ChangeSpec := { name := "fnAskAll", fn := fun _ => fun
  | [d] => { results := [.lit (.bool true)], args := [d] }
  | _ => none }
def fnAskAllRow : OpenClaim := { program := "ytefdhlfljpppfaagreat", sum := "1a1e13e012f212d24db82331343fd06edc43c211623b122161bc2b57c1ec6813", func := "loop.example/blockexecutor/laws.FnAskAll", spec := "fnAskAll", unfollowed := true, recurses := true, apart := false }
def FnAskAllSaid : Prop := fnAskAllRow.holds Tryz.pinned (OpenSpec.ofChange fnAskAllSpec)

/-- ITS FALSE NEIGHBOUR: 'it returns false'. Refute it at one input. -/
def fnAskAllWrong : ChangeSpec := { name := "fnAskAll", fn := fun _ => fun
  | [d] => { results := [.lit (.bool false)], args := [d] }
  | _ => none }
def FnAskAllWrongFalsely : Prop := fnAskAllRow.holds Tryz.pinned (OpenSpec.ofChange fnAskAllWrong)

/-- 'laws.FnAskBlock': WHATEVER THE INPUT: true; the input reads as it did. -/
def fnAskBlockSpec : ChangeSpec := { name := "fnAskBlock", fn := fun _ => fun
  | [d] => { results := [.lit (.bool true)], args := [d] }
  | _ => none }
def fnAskBlockRow : OpenClaim := { program := "ytefdhlfljpppfaagreat", sum := "1a1e13e012f212d24db82331343fd06edc43c211623b122161bc2b57c1ec6813", func := "loop.example/blockexecutor/laws.FnAskBlock", spec := "fnAskBlock", unfollowed := true, recurses := true, apart := false }
def FnAskBlockSaid : Prop := fnAskBlockRow.holds Tryz.pinned (OpenSpec.ofChange fnAskBlockSpec)

/-- ITS FALSE NEIGHBOUR: 'it returns false'. Refute it at one input. -/
def fnAskBlockWrong : ChangeSpec := { name := "fnAskBlock", fn := fun _ => fun
  | [d] => { results := [.lit (.bool false)], args := [d] }
  | _ => none }
def FnAskBlockWrongFalsely : Prop := fnAskBlockRow.holds Tryz.pinned (OpenSpec.ofChange fnAskBlockWrong)

/-- 'laws.FnPruneAsk': WHATEVER THE INPUT: true; the input reads as it did. -/
def fnPruneAskSpec : ChangeSpec := { name := "fnPruneAsk", fn := fun _ => fun
  | [d] => { results := [.lit (.bool true)], args := [d] }
  | _ => none }
def fnPruneAskRow : OpenClaim := { program := "ytefdhlfljpppfaagreat", sum := "1a1e13e012f212d24db82331343fd06edc43c211623b122161bc2b57c1ec6813", func := "loop.example/blockexecutor/laws.FnPruneAsk", spec := "fnPruneAsk", unfollowed := true, recurses := true, apart := false }
def FnPruneAskSaid : Prop := fnPruneAskRow.holds Tryz.pinned (OpenSpec.ofChange fnPruneAskSpec)

/-- ITS FALSE NEIGHBOUR: 'it returns false'. Refute it at one input. -/
def fnPruneAskWrong : ChangeSpec := { name := "fnPruneAsk", fn := fun _ => fun
  | [d] => { results := [.lit (.bool false)], args := [d] }
  | _ => none }
def FnPruneAskWrongFalsely : Prop := fnPruneAskRow.holds Tryz.pinned (OpenSpec.ofChange fnPruneAskWrong)

/-- 'laws.FnPruneTree': WHATEVER THE INPUT: true; the input reads as it did. -/
def fnPruneTreeSpec : ChangeSpec := { name := "fnPruneTree", fn := fun _ => fun
  | [d] => { results := [.lit (.bool true)], args := [d] }
  | _ => none }
def fnPruneTreeRow : OpenClaim := { program := "ytefdhlfljpppfaagreat", sum := "1a1e13e012f212d24db82331343fd06edc43c211623b122161bc2b57c1ec6813", func := "loop.example/blockexecutor/laws.FnPruneTree", spec := "fnPruneTree", unfollowed := true, recurses := true, apart := false }
def FnPruneTreeSaid : Prop := fnPruneTreeRow.holds Tryz.pinned (OpenSpec.ofChange fnPruneTreeSpec)

/-- ITS FALSE NEIGHBOUR: 'it returns false'. Refute it at one input. -/
def fnPruneTreeWrong : ChangeSpec := { name := "fnPruneTree", fn := fun _ => fun
  | [d] => { results := [.lit (.bool false)], args := [d] }
  | _ => none }
def FnPruneTreeWrongFalsely : Prop := fnPruneTreeRow.holds Tryz.pinned (OpenSpec.ofChange fnPruneTreeWrong)

/- THE SECOND FORM. 'bulk': how many values and letters a reading holds, each counted each time it is reached (what is shared counts as often as it is met; a slice's spare places count too). A statement '..UptoSaid' is the law's where the arguments, and the package variables that the reading takes, are together of bulk at most 1048576: NARROWER than '..Said'. Prove '..Said' where nothing that the law and all that it calls make is longer than what came in: it says more and counts as full. Else prove '..UptoSaid'. A law counts once. -/
mutual
def uptoBulk {H : Type} : DataW H → Nat
  | .lit (.string bytes) => bytes.length + 1
  | .lit _ => 1
  | .nil => 1
  | .ptr d => uptoBulk d + 1
  | .slice elems spare => uptoBulkAll elems + uptoBulkAll spare + 1
  | .agg parts => uptoBulkAll parts + 1
  | .iface _ d => uptoBulk d + 1
  | .map entries => uptoBulkEntries entries + 1
  | .held _ => 1
def uptoBulkAll {H : Type} : List (DataW H) → Nat
  | [] => 0
  | d :: r => uptoBulk d + uptoBulkAll r
def uptoBulkEntries {H : Type} : List (Lit × DataW H) → Nat
  | [] => 0
  | x :: r => uptoBulkEntry x + uptoBulkEntries r
def uptoBulkEntry {H : Type} : Lit × DataW H → Nat
  | (.string bytes, d) => bytes.length + uptoBulk d + 1
  | (_, d) => uptoBulk d + 1
 end
def uptoSmall : (H : Type) → List (DataW H) → Bool := fun _ ds => decide (uptoBulkAll ds ≤ 1048576)
def OpenSpec.upto (s : _root_.Go.ChangeSpec) : _root_.Go.OpenSpec := { _root_.Go.OpenSpec.ofChange s with cond := some uptoSmall }

/-- 'laws.FnBranchRead', WHERE WHAT IT READS IS OF BULK AT MOST 1048576: true; the input reads as it did. -/
def fnBranchReadUptoRow : OpenClaim := { program := "ytefdhlfljpppfaagreat", sum := "1a1e13e012f212d24db82331343fd06edc43c211623b122161bc2b57c1ec6813", func := "loop.example/blockexecutor/laws.FnBranchRead", spec := "fnBranchRead", unfollowed := true, recurses := true, apart := false, narrowed := true }
def FnBranchReadUptoSaid : Prop := fnBranchReadUptoRow.holds Tryz.pinned (OpenSpec.upto fnBranchReadSpec)

/-- 'laws.FnAskAll', WHERE WHAT IT READS IS OF BULK AT MOST 1048576: true; the input reads as it did. -/
def fnAskAllUptoRow : OpenClaim := { program := "ytefdhlfljpppfaagreat", sum := "1a1e13e012f212d24db82331343fd06edc43c211623b122161bc2b57c1ec6813", func := "loop.example/blockexecutor/laws.FnAskAll", spec := "fnAskAll", unfollowed := true, recurses := true, apart := false, narrowed := true }
def FnAskAllUptoSaid : Prop := fnAskAllUptoRow.holds Tryz.pinned (OpenSpec.upto fnAskAllSpec)

/-- 'laws.FnAskBlock', WHERE WHAT IT READS IS OF BULK AT MOST 1048576: true; the input reads as it did. -/
def fnAskBlockUptoRow : OpenClaim := { program := "ytefdhlfljpppfaagreat", sum := "1a1e13e012f212d24db82331343fd06edc43c211623b122161bc2b57c1ec6813", func := "loop.example/blockexecutor/laws.FnAskBlock", spec := "fnAskBlock", unfollowed := true, recurses := true, apart := false, narrowed := true }
def FnAskBlockUptoSaid : Prop := fnAskBlockUptoRow.holds Tryz.pinned (OpenSpec.upto fnAskBlockSpec)

/-- 'laws.FnPruneAsk', WHERE WHAT IT READS IS OF BULK AT MOST 1048576: true; the input reads as it did. -/
def fnPruneAskUptoRow : OpenClaim := { program := "ytefdhlfljpppfaagreat", sum := "1a1e13e012f212d24db82331343fd06edc43c211623b122161bc2b57c1ec6813", func := "loop.example/blockexecutor/laws.FnPruneAsk", spec := "fnPruneAsk", unfollowed := true, recurses := true, apart := false, narrowed := true }
def FnPruneAskUptoSaid : Prop := fnPruneAskUptoRow.holds Tryz.pinned (OpenSpec.upto fnPruneAskSpec)

/-- 'laws.FnPruneTree', WHERE WHAT IT READS IS OF BULK AT MOST 1048576: true; the input reads as it did. -/
def fnPruneTreeUptoRow : OpenClaim := { program := "ytefdhlfljpppfaagreat", sum := "1a1e13e012f212d24db82331343fd06edc43c211623b122161bc2b57c1ec6813", func := "loop.example/blockexecutor/laws.FnPruneTree", spec := "fnPruneTree", unfollowed := true, recurses := true, apart := false, narrowed := true }
def FnPruneTreeUptoSaid : Prop := fnPruneTreeUptoRow.holds Tryz.pinned (OpenSpec.upto fnPruneTreeSpec)

end Rows
end Go.Proofs.YtefdhlfljpppfaaGreat
