/-
  No cell of these rows narrows 'for every input' (looked for: loops, veiled, ifaces, maps, wideKeys, modest, calm, conditions, laid).
  DERIVED. THE GIVEN ROWS OF THIS SEAT. 4 by the template 'for every input the law returns true; each argument reads behind the call as it read before'; 0 by the template 'total and deterministic' (their statements: YthddcinpacaacaaTotals.lean).
  GIVEN WITH THE SEED: the statements are not yours to turn. If you find one false, say at which input.
  Laid BY PROGRAM, IN A SANDBOX (cutbox-rows.mjs): the forced cells as the released guide's own fill.sh prints them over the translation cfe76a6f9373bb08… (all of the seat's roots in one cut). By AI agents, Wed Nov 11 2026. No macro, syntax, notation, axiom, sorry.
-/
import Derived.Test.YthddcinpacaacaaChecked
import GoSem.Claim
import GoSem.ClaimJoined
import GoSem.ClaimMapViews
import Derived.JoinedTies
import Derived.KernelRfl
namespace Go.Proofs.Ythddcinpacaacaa
/- THE CELL 'sum', in the pinned program and in every row, IS THE sha256 OF THE DUMP (.gsa) THAT YthddcinpacaacaaProg.lean LOADS. Nothing in Lean hashes anything: it is a label: what it is worth is what the hold of that sum in a sandbox is worth. -/
noncomputable def Try.pinned : Pinned := { name := "ythddcinpacaacaa", sum := "cfe76a6f9373bb0866d9c42a6bde2225483d6630fb101339c853415b6477c92f", checked := Try.checked }
namespace Rows
def none {H : Type} : Left H := { results := [], args := [] }

/-- 'laws.FnExactTakeNumber': WHATEVER THE INPUT: true; the input reads as it did. -/
def fnExactTakeNumberSpec : ChangeSpec := { name := "fnExactTakeNumber", fn := fun _ => fun
  | [d1, d2] => { results := [.lit (.bool true)], args := [d1, d2] }
  | _ => none }
def fnExactTakeNumberRow : OpenClaim := { program := "ythddcinpacaacaa", sum := "cfe76a6f9373bb0866d9c42a6bde2225483d6630fb101339c853415b6477c92f", func := "loop.example/blockexecutor/laws.FnExactTakeNumber", spec := "fnExactTakeNumber", unfollowed := true, recurses := true, apart := false }
def FnExactTakeNumberSaid : Prop := fnExactTakeNumberRow.holds Try.pinned (OpenSpec.ofChange fnExactTakeNumberSpec)

/-- ITS FALSE NEIGHBOUR: 'it returns false'. Refute it at one input. -/
def fnExactTakeNumberWrong : ChangeSpec := { name := "fnExactTakeNumber", fn := fun _ => fun
  | [d1, d2] => { results := [.lit (.bool false)], args := [d1, d2] }
  | _ => none }
def FnExactTakeNumberWrongFalsely : Prop := fnExactTakeNumberRow.holds Try.pinned (OpenSpec.ofChange fnExactTakeNumberWrong)

/-- 'laws.FnExactTakeNumbers': WHATEVER THE INPUT: true; the input reads as it did. -/
def fnExactTakeNumbersSpec : ChangeSpec := { name := "fnExactTakeNumbers", fn := fun _ => fun
  | [d1, d2] => { results := [.lit (.bool true)], args := [d1, d2] }
  | _ => none }
def fnExactTakeNumbersRow : OpenClaim := { program := "ythddcinpacaacaa", sum := "cfe76a6f9373bb0866d9c42a6bde2225483d6630fb101339c853415b6477c92f", func := "loop.example/blockexecutor/laws.FnExactTakeNumbers", spec := "fnExactTakeNumbers", unfollowed := true, recurses := true, apart := false }
def FnExactTakeNumbersSaid : Prop := fnExactTakeNumbersRow.holds Try.pinned (OpenSpec.ofChange fnExactTakeNumbersSpec)

/-- ITS FALSE NEIGHBOUR: 'it returns false'. Refute it at one input. -/
def fnExactTakeNumbersWrong : ChangeSpec := { name := "fnExactTakeNumbers", fn := fun _ => fun
  | [d1, d2] => { results := [.lit (.bool false)], args := [d1, d2] }
  | _ => none }
def FnExactTakeNumbersWrongFalsely : Prop := fnExactTakeNumbersRow.holds Try.pinned (OpenSpec.ofChange fnExactTakeNumbersWrong)

/-- 'laws.FnTakeNumber': WHATEVER THE INPUT: true; the input reads as it did. -/
def fnTakeNumberSpec : ChangeSpec := { name := "fnTakeNumber", fn := fun _ => fun
  | [d] => { results := [.lit (.bool true)], args := [d] }
  | _ => none }
def fnTakeNumberRow : OpenClaim := { program := "ythddcinpacaacaa", sum := "cfe76a6f9373bb0866d9c42a6bde2225483d6630fb101339c853415b6477c92f", func := "loop.example/blockexecutor/laws.FnTakeNumber", spec := "fnTakeNumber", unfollowed := true, recurses := true, apart := false }
def FnTakeNumberSaid : Prop := fnTakeNumberRow.holds Try.pinned (OpenSpec.ofChange fnTakeNumberSpec)

/-- ITS FALSE NEIGHBOUR: 'it returns false'. Refute it at one input. -/
def fnTakeNumberWrong : ChangeSpec := { name := "fnTakeNumber", fn := fun _ => fun
  | [d] => { results := [.lit (.bool false)], args := [d] }
  | _ => none }
def FnTakeNumberWrongFalsely : Prop := fnTakeNumberRow.holds Try.pinned (OpenSpec.ofChange fnTakeNumberWrong)

/-- 'laws.FnTakeNumbers': WHATEVER THE INPUT: true; the input reads as it did. -/
def fnTakeNumbersSpec : ChangeSpec := { name := "fnTakeNumbers", fn := fun _ => fun
  | [d] => { results := [.lit (.bool true)], args := [d] }
  | _ => none }
def fnTakeNumbersRow : OpenClaim := { program := "ythddcinpacaacaa", sum := "cfe76a6f9373bb0866d9c42a6bde2225483d6630fb101339c853415b6477c92f", func := "loop.example/blockexecutor/laws.FnTakeNumbers", spec := "fnTakeNumbers", unfollowed := true, recurses := true, apart := false }
def FnTakeNumbersSaid : Prop := fnTakeNumbersRow.holds Try.pinned (OpenSpec.ofChange fnTakeNumbersSpec)

/-- ITS FALSE NEIGHBOUR: 'it returns false'. Refute it at one input. -/
def fnTakeNumbersWrong : ChangeSpec := { name := "fnTakeNumbers", fn := fun _ => fun
  | [d] => { results := [.lit (.bool false)], args := [d] }
  | _ => none }
def FnTakeNumbersWrongFalsely : Prop := fnTakeNumbersRow.holds Try.pinned (OpenSpec.ofChange fnTakeNumbersWrong)

/- THE SECOND FORM. 'bulk': how many values and letters a reading holds, each counted each time it is reached (what is shared counts as often as it is met; a slice's spare places count too). A statement '..UptoSaid' is the law's where the arguments, and the package variables that the reading takes, are together of bulk at most 1048576: NARROWER than '..Said'. Prove '..Said' where nothing that the law and all that it calls make is longer than what came in: it says more and counts as full. Else prove '..UptoSaid'. A law counts once. -/
mutual
def uptoBulk {H : Type} : DataW H → Nat
  | .lit (.string bytes) => bytes.length + 1
  | .lit _ => 1
  | .nil => 1
  | .ptr d => uptoBulk d + 1
  | .slice elems spare => uptoBulkAll elems + uptoBulkAll spare + 1
  | .agg parts => uptoBulkAll parts + 1
  | .iface _ d => uptoBulk d + 1
  | .map entries => uptoBulkEntries entries + 1
  | .held _ => 1
def uptoBulkAll {H : Type} : List (DataW H) → Nat
  | [] => 0
  | d :: r => uptoBulk d + uptoBulkAll r
def uptoBulkEntries {H : Type} : List (Lit × DataW H) → Nat
  | [] => 0
  | x :: r => uptoBulkEntry x + uptoBulkEntries r
def uptoBulkEntry {H : Type} : Lit × DataW H → Nat
  | (.string bytes, d) => bytes.length + uptoBulk d + 1
  | (_, d) => uptoBulk d + 1
 end
def uptoSmall : (H : Type) → List (DataW H) → Bool := fun _ ds => decide (uptoBulkAll ds ≤ 1048576)
def OpenSpec.upto (s : _root_.Go.ChangeSpec) : _root_.Go.OpenSpec := { _root_.Go.OpenSpec.ofChange s with cond := some uptoSmall }

/-- 'laws.FnExactTakeNumber', WHERE WHAT IT READS IS OF BULK AT MOST 1048576: true; the input reads as it did. -/
def fnExactTakeNumberUptoRow : OpenClaim := { program := "ythddcinpacaacaa", sum := "cfe76a6f9373bb0866d9c42a6bde2225483d6630fb101339c853415b6477c92f", func := "loop.example/blockexecutor/laws.FnExactTakeNumber", spec := "fnExactTakeNumber", unfollowed := true, recurses := true, apart := false, narrowed := true }
def FnExactTakeNumberUptoSaid : Prop := fnExactTakeNumberUptoRow.holds Try.pinned (OpenSpec.upto fnExactTakeNumberSpec)

/-- 'laws.FnExactTakeNumbers', WHERE WHAT IT READS IS OF BULK AT MOST 1048576: true; the input reads as it did. -/
def fnExactTakeNumbersUptoRow : OpenClaim := { program := "ythddcinpacaacaa", sum := "cfe76a6f9373bb0866d9c42a6bde2225483d6630fb101339c853415b6477c92f", func := "loop.example/blockexecutor/laws.FnExactTakeNumbers", spec := "fnExactTakeNumbers", unfollowed := true, recurses := true, apart := false, narrowed := true }
def FnExactTakeNumbersUptoSaid : Prop := fnExactTakeNumbersUptoRow.holds Try.pinned (OpenSpec.upto fnExactTakeNumbersSpec)

/-- 'laws.FnTakeNumber', WHERE WHAT IT READS IS OF BULK AT MOST 1048576: true; the input reads as it did. -/
def fnTakeNumberUptoRow : OpenClaim := { program := "ythddcinpacaacaa", sum := "cfe76a6f9373bb0866d9c42a6bde2225483d6630fb101339c853415b6477c92f", func := "loop.example/blockexecutor/laws.FnTakeNumber", spec := "fnTakeNumber", unfollowed := true, recurses := true, apart := false, narrowed := true }
def FnTakeNumberUptoSaid : Prop := fnTakeNumberUptoRow.holds Try.pinned (OpenSpec.upto fnTakeNumberSpec)

/-- 'laws.FnTakeNumbers', WHERE WHAT IT READS IS OF BULK AT MOST 1048576: true; the input reads as it did. -/
def fnTakeNumbersUptoRow : OpenClaim := { program := "ythddcinpacaacaa", sum := "cfe76a6f9373bb0866d9c42a6bde2225483d6630fb101339c853415b6477c92f", func := "loop.example/blockexecutor/laws.FnTakeNumbers", spec := "fnTakeNumbers", unfollowed := true, recurses := true, apart := false, narrowed := true }
def FnTakeNumbersUptoSaid : Prop := fnTakeNumbersUptoRow.holds Try.pinned (OpenSpec.upto fnTakeNumbersSpec)

end Rows
end Go.Proofs.Ythddcinpacaacaa
