/-
  No cell of these rows narrows 'for every input' (looked for: loops, veiled, ifaces, maps, wideKeys, modest, calm, conditions, laid).
  DERIVED. THE GIVEN ROWS OF THIS SEAT. 12 by the template 'for every input the law returns true; each argument reads behind the call as it read before'; 0 by the template 'total and deterministic' (their statements: YtkbbhbgjanfcoaaTotals.lean).
  GIVEN WITH THE SEED: the statements are not yours to turn. If you find one false, say at which input.
  Laid BY PROGRAM, IN A SANDBOX (cutbox-rows.mjs): the forced cells as the released guide's own fill.sh prints them over the translation 8e5f58542df68ee1… (all of the seat's roots in one cut). By AI agents, Wed Nov 11 2026. No macro, syntax, notation, axiom, sorry.
-/
import Derived.Test.YtkbbhbgjanfcoaaChecked
import GoSem.Claim
import GoSem.ClaimJoined
import GoSem.ClaimMapViews
import Derived.JoinedTies
import Derived.KernelRfl
namespace Go.Proofs.Ytkbbhbgjanfcoaa
/- THE CELL 'sum', in the pinned program and in every row, IS THE sha256 OF THE DUMP (.gsa) THAT YtkbbhbgjanfcoaaProg.lean LOADS. Nothing in Lean hashes anything: it is a label: what it is worth is what the hold of that sum in a sandbox is worth. -/
noncomputable def Try.pinned : Pinned := { name := "ytkbbhbgjanfcoaa", sum := "8e5f58542df68ee19ff5a070b7f6310af3946ba55cc3a28ace69f2b0db5bdd87", checked := Try.checked }
namespace Rows
def none {H : Type} : Left H := { results := [], args := [] }

/-- 'laws.FnExactLeaderOf': WHATEVER THE INPUT: true; the input reads as it did. -/
def fnExactLeaderOfSpec : ChangeSpec := { name := "fnExactLeaderOf", fn := fun _ => fun
  | [d] => { results := [.lit (.bool true)], args := [d] }
  | _ => none }
def fnExactLeaderOfRow : OpenClaim := { program := "ytkbbhbgjanfcoaa", sum := "8e5f58542df68ee19ff5a070b7f6310af3946ba55cc3a28ace69f2b0db5bdd87", func := "loop.example/blockexecutor/laws.FnExactLeaderOf", spec := "fnExactLeaderOf", apart := false }
def FnExactLeaderOfSaid : Prop := fnExactLeaderOfRow.holds Try.pinned (OpenSpec.ofChange fnExactLeaderOfSpec)

/-- ITS FALSE NEIGHBOUR: 'it returns false'. Refute it at one input. -/
def fnExactLeaderOfWrong : ChangeSpec := { name := "fnExactLeaderOf", fn := fun _ => fun
  | [d] => { results := [.lit (.bool false)], args := [d] }
  | _ => none }
def FnExactLeaderOfWrongFalsely : Prop := fnExactLeaderOfRow.holds Try.pinned (OpenSpec.ofChange fnExactLeaderOfWrong)

/-- 'laws.FnExactWaitTime': WHATEVER THE INPUT: true; the input reads as it did. -/
def fnExactWaitTimeSpec : ChangeSpec := { name := "fnExactWaitTime", fn := fun _ => fun
  | [d1, d2] => { results := [.lit (.bool true)], args := [d1, d2] }
  | _ => none }
def fnExactWaitTimeRow : OpenClaim := { program := "ytkbbhbgjanfcoaa", sum := "8e5f58542df68ee19ff5a070b7f6310af3946ba55cc3a28ace69f2b0db5bdd87", func := "loop.example/blockexecutor/laws.FnExactWaitTime", spec := "fnExactWaitTime", apart := false }
def FnExactWaitTimeSaid : Prop := fnExactWaitTimeRow.holds Try.pinned (OpenSpec.ofChange fnExactWaitTimeSpec)

/-- ITS FALSE NEIGHBOUR: 'it returns false'. Refute it at one input. -/
def fnExactWaitTimeWrong : ChangeSpec := { name := "fnExactWaitTime", fn := fun _ => fun
  | [d1, d2] => { results := [.lit (.bool false)], args := [d1, d2] }
  | _ => none }
def FnExactWaitTimeWrongFalsely : Prop := fnExactWaitTimeRow.holds Try.pinned (OpenSpec.ofChange fnExactWaitTimeWrong)

/-- 'laws.FnExactNextLed': WHATEVER THE INPUT: true; the input reads as it did. -/
def fnExactNextLedSpec : ChangeSpec := { name := "fnExactNextLed", fn := fun _ => fun
  | [d1, d2] => { results := [.lit (.bool true)], args := [d1, d2] }
  | _ => none }
def fnExactNextLedRow : OpenClaim := { program := "ytkbbhbgjanfcoaa", sum := "8e5f58542df68ee19ff5a070b7f6310af3946ba55cc3a28ace69f2b0db5bdd87", func := "loop.example/blockexecutor/laws.FnExactNextLed", spec := "fnExactNextLed", apart := false }
def FnExactNextLedSaid : Prop := fnExactNextLedRow.holds Try.pinned (OpenSpec.ofChange fnExactNextLedSpec)

/-- ITS FALSE NEIGHBOUR: 'it returns false'. Refute it at one input. -/
def fnExactNextLedWrong : ChangeSpec := { name := "fnExactNextLed", fn := fun _ => fun
  | [d1, d2] => { results := [.lit (.bool false)], args := [d1, d2] }
  | _ => none }
def FnExactNextLedWrongFalsely : Prop := fnExactNextLedRow.holds Try.pinned (OpenSpec.ofChange fnExactNextLedWrong)

/-- 'laws.FnExactCountersValid': WHATEVER THE INPUT: true; the input reads as it did. -/
def fnExactCountersValidSpec : ChangeSpec := { name := "fnExactCountersValid", fn := fun _ => fun
  | [d] => { results := [.lit (.bool true)], args := [d] }
  | _ => none }
def fnExactCountersValidRow : OpenClaim := { program := "ytkbbhbgjanfcoaa", sum := "8e5f58542df68ee19ff5a070b7f6310af3946ba55cc3a28ace69f2b0db5bdd87", func := "loop.example/blockexecutor/laws.FnExactCountersValid", spec := "fnExactCountersValid", unfollowed := true, recurses := true, apart := false }
def FnExactCountersValidSaid : Prop := fnExactCountersValidRow.holds Try.pinned (OpenSpec.ofChange fnExactCountersValidSpec)

/-- ITS FALSE NEIGHBOUR: 'it returns false'. Refute it at one input. -/
def fnExactCountersValidWrong : ChangeSpec := { name := "fnExactCountersValid", fn := fun _ => fun
  | [d] => { results := [.lit (.bool false)], args := [d] }
  | _ => none }
def FnExactCountersValidWrongFalsely : Prop := fnExactCountersValidRow.holds Try.pinned (OpenSpec.ofChange fnExactCountersValidWrong)

/-- 'laws.FnExactDiffValid': WHATEVER THE INPUT: true; the input reads as it did. -/
def fnExactDiffValidSpec : ChangeSpec := { name := "fnExactDiffValid", fn := fun _ => fun
  | [d] => { results := [.lit (.bool true)], args := [d] }
  | _ => none }
def fnExactDiffValidRow : OpenClaim := { program := "ytkbbhbgjanfcoaa", sum := "8e5f58542df68ee19ff5a070b7f6310af3946ba55cc3a28ace69f2b0db5bdd87", func := "loop.example/blockexecutor/laws.FnExactDiffValid", spec := "fnExactDiffValid", apart := false }
def FnExactDiffValidSaid : Prop := fnExactDiffValidRow.holds Try.pinned (OpenSpec.ofChange fnExactDiffValidSpec)

/-- ITS FALSE NEIGHBOUR: 'it returns false'. Refute it at one input. -/
def fnExactDiffValidWrong : ChangeSpec := { name := "fnExactDiffValid", fn := fun _ => fun
  | [d] => { results := [.lit (.bool false)], args := [d] }
  | _ => none }
def FnExactDiffValidWrongFalsely : Prop := fnExactDiffValidRow.holds Try.pinned (OpenSpec.ofChange fnExactDiffValidWrong)

/-- 'laws.FnLeaderOf': WHATEVER THE INPUT: true; the input reads as it did. -/
def fnLeaderOfSpec : ChangeSpec := { name := "fnLeaderOf", fn := fun _ => fun
  | [d] => { results := [.lit (.bool true)], args := [d] }
  | _ => none }
def fnLeaderOfRow : OpenClaim := { program := "ytkbbhbgjanfcoaa", sum := "8e5f58542df68ee19ff5a070b7f6310af3946ba55cc3a28ace69f2b0db5bdd87", func := "loop.example/blockexecutor/laws.FnLeaderOf", spec := "fnLeaderOf", unfollowed := true, recurses := true, apart := false }
def FnLeaderOfSaid : Prop := fnLeaderOfRow.holds Try.pinned (OpenSpec.ofChange fnLeaderOfSpec)

/-- ITS FALSE NEIGHBOUR: 'it returns false'. Refute it at one input. -/
def fnLeaderOfWrong : ChangeSpec := { name := "fnLeaderOf", fn := fun _ => fun
  | [d] => { results := [.lit (.bool false)], args := [d] }
  | _ => none }
def FnLeaderOfWrongFalsely : Prop := fnLeaderOfRow.holds Try.pinned (OpenSpec.ofChange fnLeaderOfWrong)

/-- 'laws.FnExactViewsBegin': WHATEVER THE INPUT: true; the input reads as it did. -/
def fnExactViewsBeginSpec : ChangeSpec := { name := "fnExactViewsBegin", fn := fun _ => fun
  | [d1, d2] => { results := [.lit (.bool true)], args := [d1, d2] }
  | _ => none }
def fnExactViewsBeginRow : OpenClaim := { program := "ytkbbhbgjanfcoaa", sum := "8e5f58542df68ee19ff5a070b7f6310af3946ba55cc3a28ace69f2b0db5bdd87", func := "loop.example/blockexecutor/laws.FnExactViewsBegin", spec := "fnExactViewsBegin", apart := false }
def FnExactViewsBeginSaid : Prop := fnExactViewsBeginRow.holds Try.pinned (OpenSpec.ofChange fnExactViewsBeginSpec)

/-- ITS FALSE NEIGHBOUR: 'it returns false'. Refute it at one input. -/
def fnExactViewsBeginWrong : ChangeSpec := { name := "fnExactViewsBegin", fn := fun _ => fun
  | [d1, d2] => { results := [.lit (.bool false)], args := [d1, d2] }
  | _ => none }
def FnExactViewsBeginWrongFalsely : Prop := fnExactViewsBeginRow.holds Try.pinned (OpenSpec.ofChange fnExactViewsBeginWrong)

/-- 'laws.FnWaitTime': WHATEVER THE INPUT: true; the input reads as it did. -/
def fnWaitTimeSpec : ChangeSpec := { name := "fnWaitTime", fn := fun _ => fun
  | [d] => { results := [.lit (.bool true)], args := [d] }
  | _ => none }
def fnWaitTimeRow : OpenClaim := { program := "ytkbbhbgjanfcoaa", sum := "8e5f58542df68ee19ff5a070b7f6310af3946ba55cc3a28ace69f2b0db5bdd87", func := "loop.example/blockexecutor/laws.FnWaitTime", spec := "fnWaitTime", unfollowed := true, recurses := true, apart := false }
def FnWaitTimeSaid : Prop := fnWaitTimeRow.holds Try.pinned (OpenSpec.ofChange fnWaitTimeSpec)

/-- ITS FALSE NEIGHBOUR: 'it returns false'. Refute it at one input. -/
def fnWaitTimeWrong : ChangeSpec := { name := "fnWaitTime", fn := fun _ => fun
  | [d] => { results := [.lit (.bool false)], args := [d] }
  | _ => none }
def FnWaitTimeWrongFalsely : Prop := fnWaitTimeRow.holds Try.pinned (OpenSpec.ofChange fnWaitTimeWrong)

/-- 'laws.FnCountersValid': WHATEVER THE INPUT: true; the input reads as it did. -/
def fnCountersValidSpec : ChangeSpec := { name := "fnCountersValid", fn := fun _ => fun
  | [d] => { results := [.lit (.bool true)], args := [d] }
  | _ => none }
def fnCountersValidRow : OpenClaim := { program := "ytkbbhbgjanfcoaa", sum := "8e5f58542df68ee19ff5a070b7f6310af3946ba55cc3a28ace69f2b0db5bdd87", func := "loop.example/blockexecutor/laws.FnCountersValid", spec := "fnCountersValid", unfollowed := true, recurses := true, apart := false }
def FnCountersValidSaid : Prop := fnCountersValidRow.holds Try.pinned (OpenSpec.ofChange fnCountersValidSpec)

/-- ITS FALSE NEIGHBOUR: 'it returns false'. Refute it at one input. -/
def fnCountersValidWrong : ChangeSpec := { name := "fnCountersValid", fn := fun _ => fun
  | [d] => { results := [.lit (.bool false)], args := [d] }
  | _ => none }
def FnCountersValidWrongFalsely : Prop := fnCountersValidRow.holds Try.pinned (OpenSpec.ofChange fnCountersValidWrong)

/-- 'laws.FnNextLed': WHATEVER THE INPUT: true; the input reads as it did. -/
def fnNextLedSpec : ChangeSpec := { name := "fnNextLed", fn := fun _ => fun
  | [d] => { results := [.lit (.bool true)], args := [d] }
  | _ => none }
def fnNextLedRow : OpenClaim := { program := "ytkbbhbgjanfcoaa", sum := "8e5f58542df68ee19ff5a070b7f6310af3946ba55cc3a28ace69f2b0db5bdd87", func := "loop.example/blockexecutor/laws.FnNextLed", spec := "fnNextLed", unfollowed := true, recurses := true, apart := false }
def FnNextLedSaid : Prop := fnNextLedRow.holds Try.pinned (OpenSpec.ofChange fnNextLedSpec)

/-- ITS FALSE NEIGHBOUR: 'it returns false'. Refute it at one input. -/
def fnNextLedWrong : ChangeSpec := { name := "fnNextLed", fn := fun _ => fun
  | [d] => { results := [.lit (.bool false)], args := [d] }
  | _ => none }
def FnNextLedWrongFalsely : Prop := fnNextLedRow.holds Try.pinned (OpenSpec.ofChange fnNextLedWrong)

/-- 'laws.FnViewsBegin': WHATEVER THE INPUT: true; the input reads as it did. -/
def fnViewsBeginSpec : ChangeSpec := { name := "fnViewsBegin", fn := fun _ => fun
  | [d] => { results := [.lit (.bool true)], args := [d] }
  | _ => none }
def fnViewsBeginRow : OpenClaim := { program := "ytkbbhbgjanfcoaa", sum := "8e5f58542df68ee19ff5a070b7f6310af3946ba55cc3a28ace69f2b0db5bdd87", func := "loop.example/blockexecutor/laws.FnViewsBegin", spec := "fnViewsBegin", unfollowed := true, recurses := true, apart := false }
def FnViewsBeginSaid : Prop := fnViewsBeginRow.holds Try.pinned (OpenSpec.ofChange fnViewsBeginSpec)

/-- ITS FALSE NEIGHBOUR: 'it returns false'. Refute it at one input. -/
def fnViewsBeginWrong : ChangeSpec := { name := "fnViewsBegin", fn := fun _ => fun
  | [d] => { results := [.lit (.bool false)], args := [d] }
  | _ => none }
def FnViewsBeginWrongFalsely : Prop := fnViewsBeginRow.holds Try.pinned (OpenSpec.ofChange fnViewsBeginWrong)

/-- 'laws.FnDiffValid': WHATEVER THE INPUT: true; the input reads as it did. -/
def fnDiffValidSpec : ChangeSpec := { name := "fnDiffValid", fn := fun _ => fun
  | [d] => { results := [.lit (.bool true)], args := [d] }
  | _ => none }
def fnDiffValidRow : OpenClaim := { program := "ytkbbhbgjanfcoaa", sum := "8e5f58542df68ee19ff5a070b7f6310af3946ba55cc3a28ace69f2b0db5bdd87", func := "loop.example/blockexecutor/laws.FnDiffValid", spec := "fnDiffValid", unfollowed := true, recurses := true, apart := false }
def FnDiffValidSaid : Prop := fnDiffValidRow.holds Try.pinned (OpenSpec.ofChange fnDiffValidSpec)

/-- ITS FALSE NEIGHBOUR: 'it returns false'. Refute it at one input. -/
def fnDiffValidWrong : ChangeSpec := { name := "fnDiffValid", fn := fun _ => fun
  | [d] => { results := [.lit (.bool false)], args := [d] }
  | _ => none }
def FnDiffValidWrongFalsely : Prop := fnDiffValidRow.holds Try.pinned (OpenSpec.ofChange fnDiffValidWrong)

/- THE SECOND FORM. 'bulk': how many values and letters a reading holds, each counted each time it is reached (what is shared counts as often as it is met; a slice's spare places count too). A statement '..UptoSaid' is the law's where the arguments, and the package variables that the reading takes, are together of bulk at most 1048576: NARROWER than '..Said'. Prove '..Said' where nothing that the law and all that it calls make is longer than what came in: it says more and counts as full. Else prove '..UptoSaid'. A law counts once. -/
mutual
def uptoBulk {H : Type} : DataW H → Nat
  | .lit (.string bytes) => bytes.length + 1
  | .lit _ => 1
  | .nil => 1
  | .ptr d => uptoBulk d + 1
  | .slice elems spare => uptoBulkAll elems + uptoBulkAll spare + 1
  | .agg parts => uptoBulkAll parts + 1
  | .iface _ d => uptoBulk d + 1
  | .map entries => uptoBulkEntries entries + 1
  | .held _ => 1
def uptoBulkAll {H : Type} : List (DataW H) → Nat
  | [] => 0
  | d :: r => uptoBulk d + uptoBulkAll r
def uptoBulkEntries {H : Type} : List (Lit × DataW H) → Nat
  | [] => 0
  | x :: r => uptoBulkEntry x + uptoBulkEntries r
def uptoBulkEntry {H : Type} : Lit × DataW H → Nat
  | (.string bytes, d) => bytes.length + uptoBulk d + 1
  | (_, d) => uptoBulk d + 1
 end
def uptoSmall : (H : Type) → List (DataW H) → Bool := fun _ ds => decide (uptoBulkAll ds ≤ 1048576)
def OpenSpec.upto (s : _root_.Go.ChangeSpec) : _root_.Go.OpenSpec := { _root_.Go.OpenSpec.ofChange s with cond := some uptoSmall }

/-- 'laws.FnExactLeaderOf', WHERE WHAT IT READS IS OF BULK AT MOST 1048576: true; the input reads as it did. -/
def fnExactLeaderOfUptoRow : OpenClaim := { program := "ytkbbhbgjanfcoaa", sum := "8e5f58542df68ee19ff5a070b7f6310af3946ba55cc3a28ace69f2b0db5bdd87", func := "loop.example/blockexecutor/laws.FnExactLeaderOf", spec := "fnExactLeaderOf", apart := false, narrowed := true }
def FnExactLeaderOfUptoSaid : Prop := fnExactLeaderOfUptoRow.holds Try.pinned (OpenSpec.upto fnExactLeaderOfSpec)

/-- 'laws.FnExactWaitTime', WHERE WHAT IT READS IS OF BULK AT MOST 1048576: true; the input reads as it did. -/
def fnExactWaitTimeUptoRow : OpenClaim := { program := "ytkbbhbgjanfcoaa", sum := "8e5f58542df68ee19ff5a070b7f6310af3946ba55cc3a28ace69f2b0db5bdd87", func := "loop.example/blockexecutor/laws.FnExactWaitTime", spec := "fnExactWaitTime", apart := false, narrowed := true }
def FnExactWaitTimeUptoSaid : Prop := fnExactWaitTimeUptoRow.holds Try.pinned (OpenSpec.upto fnExactWaitTimeSpec)

/-- 'laws.FnExactNextLed', WHERE WHAT IT READS IS OF BULK AT MOST 1048576: true; the input reads as it did. -/
def fnExactNextLedUptoRow : OpenClaim := { program := "ytkbbhbgjanfcoaa", sum := "8e5f58542df68ee19ff5a070b7f6310af3946ba55cc3a28ace69f2b0db5bdd87", func := "loop.example/blockexecutor/laws.FnExactNextLed", spec := "fnExactNextLed", apart := false, narrowed := true }
def FnExactNextLedUptoSaid : Prop := fnExactNextLedUptoRow.holds Try.pinned (OpenSpec.upto fnExactNextLedSpec)

/-- 'laws.FnExactCountersValid', WHERE WHAT IT READS IS OF BULK AT MOST 1048576: true; the input reads as it did. -/
def fnExactCountersValidUptoRow : OpenClaim := { program := "ytkbbhbgjanfcoaa", sum := "8e5f58542df68ee19ff5a070b7f6310af3946ba55cc3a28ace69f2b0db5bdd87", func := "loop.example/blockexecutor/laws.FnExactCountersValid", spec := "fnExactCountersValid", unfollowed := true, recurses := true, apart := false, narrowed := true }
def FnExactCountersValidUptoSaid : Prop := fnExactCountersValidUptoRow.holds Try.pinned (OpenSpec.upto fnExactCountersValidSpec)

/-- 'laws.FnExactDiffValid', WHERE WHAT IT READS IS OF BULK AT MOST 1048576: true; the input reads as it did. -/
def fnExactDiffValidUptoRow : OpenClaim := { program := "ytkbbhbgjanfcoaa", sum := "8e5f58542df68ee19ff5a070b7f6310af3946ba55cc3a28ace69f2b0db5bdd87", func := "loop.example/blockexecutor/laws.FnExactDiffValid", spec := "fnExactDiffValid", apart := false, narrowed := true }
def FnExactDiffValidUptoSaid : Prop := fnExactDiffValidUptoRow.holds Try.pinned (OpenSpec.upto fnExactDiffValidSpec)

/-- 'laws.FnLeaderOf', WHERE WHAT IT READS IS OF BULK AT MOST 1048576: true; the input reads as it did. -/
def fnLeaderOfUptoRow : OpenClaim := { program := "ytkbbhbgjanfcoaa", sum := "8e5f58542df68ee19ff5a070b7f6310af3946ba55cc3a28ace69f2b0db5bdd87", func := "loop.example/blockexecutor/laws.FnLeaderOf", spec := "fnLeaderOf", unfollowed := true, recurses := true, apart := false, narrowed := true }
def FnLeaderOfUptoSaid : Prop := fnLeaderOfUptoRow.holds Try.pinned (OpenSpec.upto fnLeaderOfSpec)

/-- 'laws.FnExactViewsBegin', WHERE WHAT IT READS IS OF BULK AT MOST 1048576: true; the input reads as it did. -/
def fnExactViewsBeginUptoRow : OpenClaim := { program := "ytkbbhbgjanfcoaa", sum := "8e5f58542df68ee19ff5a070b7f6310af3946ba55cc3a28ace69f2b0db5bdd87", func := "loop.example/blockexecutor/laws.FnExactViewsBegin", spec := "fnExactViewsBegin", apart := false, narrowed := true }
def FnExactViewsBeginUptoSaid : Prop := fnExactViewsBeginUptoRow.holds Try.pinned (OpenSpec.upto fnExactViewsBeginSpec)

/-- 'laws.FnWaitTime', WHERE WHAT IT READS IS OF BULK AT MOST 1048576: true; the input reads as it did. -/
def fnWaitTimeUptoRow : OpenClaim := { program := "ytkbbhbgjanfcoaa", sum := "8e5f58542df68ee19ff5a070b7f6310af3946ba55cc3a28ace69f2b0db5bdd87", func := "loop.example/blockexecutor/laws.FnWaitTime", spec := "fnWaitTime", unfollowed := true, recurses := true, apart := false, narrowed := true }
def FnWaitTimeUptoSaid : Prop := fnWaitTimeUptoRow.holds Try.pinned (OpenSpec.upto fnWaitTimeSpec)

/-- 'laws.FnCountersValid', WHERE WHAT IT READS IS OF BULK AT MOST 1048576: true; the input reads as it did. -/
def fnCountersValidUptoRow : OpenClaim := { program := "ytkbbhbgjanfcoaa", sum := "8e5f58542df68ee19ff5a070b7f6310af3946ba55cc3a28ace69f2b0db5bdd87", func := "loop.example/blockexecutor/laws.FnCountersValid", spec := "fnCountersValid", unfollowed := true, recurses := true, apart := false, narrowed := true }
def FnCountersValidUptoSaid : Prop := fnCountersValidUptoRow.holds Try.pinned (OpenSpec.upto fnCountersValidSpec)

/-- 'laws.FnNextLed', WHERE WHAT IT READS IS OF BULK AT MOST 1048576: true; the input reads as it did. -/
def fnNextLedUptoRow : OpenClaim := { program := "ytkbbhbgjanfcoaa", sum := "8e5f58542df68ee19ff5a070b7f6310af3946ba55cc3a28ace69f2b0db5bdd87", func := "loop.example/blockexecutor/laws.FnNextLed", spec := "fnNextLed", unfollowed := true, recurses := true, apart := false, narrowed := true }
def FnNextLedUptoSaid : Prop := fnNextLedUptoRow.holds Try.pinned (OpenSpec.upto fnNextLedSpec)

/-- 'laws.FnViewsBegin', WHERE WHAT IT READS IS OF BULK AT MOST 1048576: true; the input reads as it did. -/
def fnViewsBeginUptoRow : OpenClaim := { program := "ytkbbhbgjanfcoaa", sum := "8e5f58542df68ee19ff5a070b7f6310af3946ba55cc3a28ace69f2b0db5bdd87", func := "loop.example/blockexecutor/laws.FnViewsBegin", spec := "fnViewsBegin", unfollowed := true, recurses := true, apart := false, narrowed := true }
def FnViewsBeginUptoSaid : Prop := fnViewsBeginUptoRow.holds Try.pinned (OpenSpec.upto fnViewsBeginSpec)

/-- 'laws.FnDiffValid', WHERE WHAT IT READS IS OF BULK AT MOST 1048576: true; the input reads as it did. -/
def fnDiffValidUptoRow : OpenClaim := { program := "ytkbbhbgjanfcoaa", sum := "8e5f58542df68ee19ff5a070b7f6310af3946ba55cc3a28ace69f2b0db5bdd87", func := "loop.example/blockexecutor/laws.FnDiffValid", spec := "fnDiffValid", unfollowed := true, recurses := true, apart := false, narrowed := true }
def FnDiffValidUptoSaid : Prop := fnDiffValidUptoRow.holds Try.pinned (OpenSpec.upto fnDiffValidSpec)

end Rows
end Go.Proofs.Ytkbbhbgjanfcoaa
