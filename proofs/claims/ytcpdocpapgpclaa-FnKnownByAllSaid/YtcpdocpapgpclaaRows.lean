/-
  No cell of these rows narrows 'for every input' (looked for: loops, veiled, ifaces, maps, wideKeys, modest, calm, conditions, laid).
  DERIVED. THE GIVEN ROWS OF THIS SEAT. 6 by the template 'for every input the law returns true; each argument reads behind the call as it read before'; 0 by the template 'total and deterministic' (their statements: YtcpdocpapgpclaaTotals.lean).
  GIVEN WITH THE SEED: the statements are not yours to turn. If you find one false, say at which input.
  Laid BY PROGRAM, IN A SANDBOX (cutbox-rows.mjs): the forced cells as the released guide's own fill.sh prints them over the translation 6b93a60d81b8bb05… (all of the seat's roots in one cut). By AI agents, Wed Nov 11 2026. No macro, syntax, notation, axiom, sorry.
-/
import Derived.Test.YtcpdocpapgpclaaChecked
import GoSem.Claim
import GoSem.ClaimJoined
import GoSem.ClaimMapViews
import Derived.JoinedTies
import Derived.KernelRfl
namespace Go.Proofs.Ytcpdocpapgpclaa
/- THE CELL 'sum', in the pinned program and in every row, IS THE sha256 OF THE DUMP (.gsa) THAT YtcpdocpapgpclaaProg.lean LOADS. Nothing in Lean hashes anything: it is a label: what it is worth is what the hold of that sum in a sandbox is worth. -/
noncomputable def Try.pinned : Pinned := { name := "ytcpdocpapgpclaa", sum := "6b93a60d81b8bb05b4edbe0cee74bf765eeef51b6ab767d4fe23ed90c93ebbc2", checked := Try.checked }
namespace Rows
def none {H : Type} : Left H := { results := [], args := [] }

/-- 'laws.FnExactSpreadOnce': WHATEVER THE INPUT: true; the input reads as it did. -/
def fnExactSpreadOnceSpec : ChangeSpec := { name := "fnExactSpreadOnce", fn := fun _ => fun
  | [d1, d2] => { results := [.lit (.bool true)], args := [d1, d2] }
  | _ => none }
def fnExactSpreadOnceRow : OpenClaim := { program := "ytcpdocpapgpclaa", sum := "6b93a60d81b8bb05b4edbe0cee74bf765eeef51b6ab767d4fe23ed90c93ebbc2", func := "loop.example/blockexecutor/laws.FnExactSpreadOnce", spec := "fnExactSpreadOnce", unfollowed := true, recurses := true, apart := false }
def FnExactSpreadOnceSaid : Prop := fnExactSpreadOnceRow.holds Try.pinned (OpenSpec.ofChange fnExactSpreadOnceSpec)

/-- ITS FALSE NEIGHBOUR: 'it returns false'. Refute it at one input. -/
def fnExactSpreadOnceWrong : ChangeSpec := { name := "fnExactSpreadOnce", fn := fun _ => fun
  | [d1, d2] => { results := [.lit (.bool false)], args := [d1, d2] }
  | _ => none }
def FnExactSpreadOnceWrongFalsely : Prop := fnExactSpreadOnceRow.holds Try.pinned (OpenSpec.ofChange fnExactSpreadOnceWrong)

/-- 'laws.FnExactSpreadAll': WHATEVER THE INPUT: true; the input reads as it did. -/
def fnExactSpreadAllSpec : ChangeSpec := { name := "fnExactSpreadAll", fn := fun _ => fun
  | [d1, d2] => { results := [.lit (.bool true)], args := [d1, d2] }
  | _ => none }
def fnExactSpreadAllRow : OpenClaim := { program := "ytcpdocpapgpclaa", sum := "6b93a60d81b8bb05b4edbe0cee74bf765eeef51b6ab767d4fe23ed90c93ebbc2", func := "loop.example/blockexecutor/laws.FnExactSpreadAll", spec := "fnExactSpreadAll", unfollowed := true, recurses := true, apart := false }
def FnExactSpreadAllSaid : Prop := fnExactSpreadAllRow.holds Try.pinned (OpenSpec.ofChange fnExactSpreadAllSpec)

/-- ITS FALSE NEIGHBOUR: 'it returns false'. Refute it at one input. -/
def fnExactSpreadAllWrong : ChangeSpec := { name := "fnExactSpreadAll", fn := fun _ => fun
  | [d1, d2] => { results := [.lit (.bool false)], args := [d1, d2] }
  | _ => none }
def FnExactSpreadAllWrongFalsely : Prop := fnExactSpreadAllRow.holds Try.pinned (OpenSpec.ofChange fnExactSpreadAllWrong)

/-- 'laws.FnExactKnownByAll': WHATEVER THE INPUT: true; the input reads as it did. -/
def fnExactKnownByAllSpec : ChangeSpec := { name := "fnExactKnownByAll", fn := fun _ => fun
  | [d1, d2] => { results := [.lit (.bool true)], args := [d1, d2] }
  | _ => none }
def fnExactKnownByAllRow : OpenClaim := { program := "ytcpdocpapgpclaa", sum := "6b93a60d81b8bb05b4edbe0cee74bf765eeef51b6ab767d4fe23ed90c93ebbc2", func := "loop.example/blockexecutor/laws.FnExactKnownByAll", spec := "fnExactKnownByAll", unfollowed := true, recurses := true, apart := false }
def FnExactKnownByAllSaid : Prop := fnExactKnownByAllRow.holds Try.pinned (OpenSpec.ofChange fnExactKnownByAllSpec)

/-- ITS FALSE NEIGHBOUR: 'it returns false'. Refute it at one input. -/
def fnExactKnownByAllWrong : ChangeSpec := { name := "fnExactKnownByAll", fn := fun _ => fun
  | [d1, d2] => { results := [.lit (.bool false)], args := [d1, d2] }
  | _ => none }
def FnExactKnownByAllWrongFalsely : Prop := fnExactKnownByAllRow.holds Try.pinned (OpenSpec.ofChange fnExactKnownByAllWrong)

/-- 'laws.FnSpreadOnce': WHATEVER THE INPUT: true; the input reads as it did. -/
def fnSpreadOnceSpec : ChangeSpec := { name := "fnSpreadOnce", fn := fun _ => fun
  | [d] => { results := [.lit (.bool true)], args := [d] }
  | _ => none }
def fnSpreadOnceRow : OpenClaim := { program := "ytcpdocpapgpclaa", sum := "6b93a60d81b8bb05b4edbe0cee74bf765eeef51b6ab767d4fe23ed90c93ebbc2", func := "loop.example/blockexecutor/laws.FnSpreadOnce", spec := "fnSpreadOnce", unfollowed := true, recurses := true, apart := false }
def FnSpreadOnceSaid : Prop := fnSpreadOnceRow.holds Try.pinned (OpenSpec.ofChange fnSpreadOnceSpec)

/-- ITS FALSE NEIGHBOUR: 'it returns false'. Refute it at one input. -/
def fnSpreadOnceWrong : ChangeSpec := { name := "fnSpreadOnce", fn := fun _ => fun
  | [d] => { results := [.lit (.bool false)], args := [d] }
  | _ => none }
def FnSpreadOnceWrongFalsely : Prop := fnSpreadOnceRow.holds Try.pinned (OpenSpec.ofChange fnSpreadOnceWrong)

/-- 'laws.FnSpreadAll': WHATEVER THE INPUT: true; the input reads as it did. -/
def fnSpreadAllSpec : ChangeSpec := { name := "fnSpreadAll", fn := fun _ => fun
  | [d] => { results := [.lit (.bool true)], args := [d] }
  | _ => none }
def fnSpreadAllRow : OpenClaim := { program := "ytcpdocpapgpclaa", sum := "6b93a60d81b8bb05b4edbe0cee74bf765eeef51b6ab767d4fe23ed90c93ebbc2", func := "loop.example/blockexecutor/laws.FnSpreadAll", spec := "fnSpreadAll", unfollowed := true, recurses := true, apart := false }
def FnSpreadAllSaid : Prop := fnSpreadAllRow.holds Try.pinned (OpenSpec.ofChange fnSpreadAllSpec)

/-- ITS FALSE NEIGHBOUR: 'it returns false'. Refute it at one input. -/
def fnSpreadAllWrong : ChangeSpec := { name := "fnSpreadAll", fn := fun _ => fun
  | [d] => { results := [.lit (.bool false)], args := [d] }
  | _ => none }
def FnSpreadAllWrongFalsely : Prop := fnSpreadAllRow.holds Try.pinned (OpenSpec.ofChange fnSpreadAllWrong)

/-- 'laws.FnKnownByAll': WHATEVER THE INPUT: true; the input reads as it did. -/
def fnKnownByAllSpec : ChangeSpec := { name := "fnKnownByAll", fn := fun _ => fun
  | [d] => { results := [.lit (.bool true)], args := [d] }
  | _ => none }
def fnKnownByAllRow : OpenClaim := { program := "ytcpdocpapgpclaa", sum := "6b93a60d81b8bb05b4edbe0cee74bf765eeef51b6ab767d4fe23ed90c93ebbc2", func := "loop.example/blockexecutor/laws.FnKnownByAll", spec := "fnKnownByAll", unfollowed := true, recurses := true, apart := false }
def FnKnownByAllSaid : Prop := fnKnownByAllRow.holds Try.pinned (OpenSpec.ofChange fnKnownByAllSpec)

/-- ITS FALSE NEIGHBOUR: 'it returns false'. Refute it at one input. -/
def fnKnownByAllWrong : ChangeSpec := { name := "fnKnownByAll", fn := fun _ => fun
  | [d] => { results := [.lit (.bool false)], args := [d] }
  | _ => none }
def FnKnownByAllWrongFalsely : Prop := fnKnownByAllRow.holds Try.pinned (OpenSpec.ofChange fnKnownByAllWrong)

/- THE SECOND FORM. 'bulk': how many values and letters a reading holds, each counted each time it is reached (what is shared counts as often as it is met; a slice's spare places count too). A statement '..UptoSaid' is the law's where the arguments, and the package variables that the reading takes, are together of bulk at most 1048576: NARROWER than '..Said'. Prove '..Said' where nothing that the law and all that it calls make is longer than what came in: it says more and counts as full. Else prove '..UptoSaid'. A law counts once. -/
mutual
def uptoBulk {H : Type} : DataW H → Nat
  | .lit (.string bytes) => bytes.length + 1
  | .lit _ => 1
  | .nil => 1
  | .ptr d => uptoBulk d + 1
  | .slice elems spare => uptoBulkAll elems + uptoBulkAll spare + 1
  | .agg parts => uptoBulkAll parts + 1
  | .iface _ d => uptoBulk d + 1
  | .map entries => uptoBulkEntries entries + 1
  | .held _ => 1
def uptoBulkAll {H : Type} : List (DataW H) → Nat
  | [] => 0
  | d :: r => uptoBulk d + uptoBulkAll r
def uptoBulkEntries {H : Type} : List (Lit × DataW H) → Nat
  | [] => 0
  | x :: r => uptoBulkEntry x + uptoBulkEntries r
def uptoBulkEntry {H : Type} : Lit × DataW H → Nat
  | (.string bytes, d) => bytes.length + uptoBulk d + 1
  | (_, d) => uptoBulk d + 1
 end
def uptoSmall : (H : Type) → List (DataW H) → Bool := fun _ ds => decide (uptoBulkAll ds ≤ 1048576)
def OpenSpec.upto (s : _root_.Go.ChangeSpec) : _root_.Go.OpenSpec := { _root_.Go.OpenSpec.ofChange s with cond := some uptoSmall }

/-- 'laws.FnExactSpreadOnce', WHERE WHAT IT READS IS OF BULK AT MOST 1048576: true; the input reads as it did. -/
def fnExactSpreadOnceUptoRow : OpenClaim := { program := "ytcpdocpapgpclaa", sum := "6b93a60d81b8bb05b4edbe0cee74bf765eeef51b6ab767d4fe23ed90c93ebbc2", func := "loop.example/blockexecutor/laws.FnExactSpreadOnce", spec := "fnExactSpreadOnce", unfollowed := true, recurses := true, apart := false, narrowed := true }
def FnExactSpreadOnceUptoSaid : Prop := fnExactSpreadOnceUptoRow.holds Try.pinned (OpenSpec.upto fnExactSpreadOnceSpec)

/-- 'laws.FnExactSpreadAll', WHERE WHAT IT READS IS OF BULK AT MOST 1048576: true; the input reads as it did. -/
def fnExactSpreadAllUptoRow : OpenClaim := { program := "ytcpdocpapgpclaa", sum := "6b93a60d81b8bb05b4edbe0cee74bf765eeef51b6ab767d4fe23ed90c93ebbc2", func := "loop.example/blockexecutor/laws.FnExactSpreadAll", spec := "fnExactSpreadAll", unfollowed := true, recurses := true, apart := false, narrowed := true }
def FnExactSpreadAllUptoSaid : Prop := fnExactSpreadAllUptoRow.holds Try.pinned (OpenSpec.upto fnExactSpreadAllSpec)

/-- 'laws.FnExactKnownByAll', WHERE WHAT IT READS IS OF BULK AT MOST 1048576: true; the input reads as it did. -/
def fnExactKnownByAllUptoRow : OpenClaim := { program := "ytcpdocpapgpclaa", sum := "6b93a60d81b8bb05b4edbe0cee74bf765eeef51b6ab767d4fe23ed90c93ebbc2", func := "loop.example/blockexecutor/laws.FnExactKnownByAll", spec := "fnExactKnownByAll", unfollowed := true, recurses := true, apart := false, narrowed := true }
def FnExactKnownByAllUptoSaid : Prop := fnExactKnownByAllUptoRow.holds Try.pinned (OpenSpec.upto fnExactKnownByAllSpec)

/-- 'laws.FnSpreadOnce', WHERE WHAT IT READS IS OF BULK AT MOST 1048576: true; the input reads as it did. -/
def fnSpreadOnceUptoRow : OpenClaim := { program := "ytcpdocpapgpclaa", sum := "6b93a60d81b8bb05b4edbe0cee74bf765eeef51b6ab767d4fe23ed90c93ebbc2", func := "loop.example/blockexecutor/laws.FnSpreadOnce", spec := "fnSpreadOnce", unfollowed := true, recurses := true, apart := false, narrowed := true }
def FnSpreadOnceUptoSaid : Prop := fnSpreadOnceUptoRow.holds Try.pinned (OpenSpec.upto fnSpreadOnceSpec)

/-- 'laws.FnSpreadAll', WHERE WHAT IT READS IS OF BULK AT MOST 1048576: true; the input reads as it did. -/
def fnSpreadAllUptoRow : OpenClaim := { program := "ytcpdocpapgpclaa", sum := "6b93a60d81b8bb05b4edbe0cee74bf765eeef51b6ab767d4fe23ed90c93ebbc2", func := "loop.example/blockexecutor/laws.FnSpreadAll", spec := "fnSpreadAll", unfollowed := true, recurses := true, apart := false, narrowed := true }
def FnSpreadAllUptoSaid : Prop := fnSpreadAllUptoRow.holds Try.pinned (OpenSpec.upto fnSpreadAllSpec)

/-- 'laws.FnKnownByAll', WHERE WHAT IT READS IS OF BULK AT MOST 1048576: true; the input reads as it did. -/
def fnKnownByAllUptoRow : OpenClaim := { program := "ytcpdocpapgpclaa", sum := "6b93a60d81b8bb05b4edbe0cee74bf765eeef51b6ab767d4fe23ed90c93ebbc2", func := "loop.example/blockexecutor/laws.FnKnownByAll", spec := "fnKnownByAll", unfollowed := true, recurses := true, apart := false, narrowed := true }
def FnKnownByAllUptoSaid : Prop := fnKnownByAllUptoRow.holds Try.pinned (OpenSpec.upto fnKnownByAllSpec)

end Rows
end Go.Proofs.Ytcpdocpapgpclaa
