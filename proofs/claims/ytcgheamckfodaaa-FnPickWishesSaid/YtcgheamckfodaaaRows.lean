/-
  No cell of these rows narrows 'for every input' (looked for: loops, veiled, ifaces, maps, wideKeys, modest, calm, conditions, laid).
  DERIVED. THE GIVEN ROWS OF THIS SEAT. 6 by the template 'for every input the law returns true; each argument reads behind the call as it read before'; 0 by the template 'total and deterministic' (their statements: YtcgheamckfodaaaTotals.lean).
  GIVEN WITH THE SEED: the statements are not yours to turn. If you find one false, say at which input.
  Laid BY PROGRAM, IN A SANDBOX (cutbox-rows.mjs): the forced cells as the released guide's own fill.sh prints them over the translation c9602b3eedd58e8d… (all of the seat's roots in one cut). By AI agents, Wed Nov 11 2026. No macro, syntax, notation, axiom, sorry.
-/
import Derived.Test.YtcgheamckfodaaaChecked
import GoSem.Claim
import GoSem.ClaimJoined
import GoSem.ClaimMapViews
import Derived.JoinedTies
import Derived.KernelRfl
namespace Go.Proofs.Ytcgheamckfodaaa
/- THE CELL 'sum', in the pinned program and in every row, IS THE sha256 OF THE DUMP (.gsa) THAT YtcgheamckfodaaaProg.lean LOADS. Nothing in Lean hashes anything: it is a label: what it is worth is what the hold of that sum in a sandbox is worth. -/
noncomputable def Try.pinned : Pinned := { name := "ytcgheamckfodaaa", sum := "c9602b3eedd58e8dacbda3c1db23ef44c1f76d14922b3628b21d63158c664ddd", checked := Try.checked }
namespace Rows
def none {H : Type} : Left H := { results := [], args := [] }

/-- 'laws.FnExactWishesValid': WHATEVER THE INPUT: true; the input reads as it did. -/
def fnExactWishesValidSpec : ChangeSpec := { name := "fnExactWishesValid", fn := fun _ => fun
  | [d] => { results := [.lit (.bool true)], args := [d] }
  | _ => none }
def fnExactWishesValidRow : OpenClaim := { program := "ytcgheamckfodaaa", sum := "c9602b3eedd58e8dacbda3c1db23ef44c1f76d14922b3628b21d63158c664ddd", func := "loop.example/blockexecutor/laws.FnExactWishesValid", spec := "fnExactWishesValid", apart := false }
def FnExactWishesValidSaid : Prop := fnExactWishesValidRow.holds Try.pinned (OpenSpec.ofChange fnExactWishesValidSpec)

/-- ITS FALSE NEIGHBOUR: 'it returns false'. Refute it at one input. -/
def fnExactWishesValidWrong : ChangeSpec := { name := "fnExactWishesValid", fn := fun _ => fun
  | [d] => { results := [.lit (.bool false)], args := [d] }
  | _ => none }
def FnExactWishesValidWrongFalsely : Prop := fnExactWishesValidRow.holds Try.pinned (OpenSpec.ofChange fnExactWishesValidWrong)

/-- 'laws.FnExactPickWishes': WHATEVER THE INPUT: true; the input reads as it did. -/
def fnExactPickWishesSpec : ChangeSpec := { name := "fnExactPickWishes", fn := fun _ => fun
  | [d1, d2] => { results := [.lit (.bool true)], args := [d1, d2] }
  | _ => none }
def fnExactPickWishesRow : OpenClaim := { program := "ytcgheamckfodaaa", sum := "c9602b3eedd58e8dacbda3c1db23ef44c1f76d14922b3628b21d63158c664ddd", func := "loop.example/blockexecutor/laws.FnExactPickWishes", spec := "fnExactPickWishes", apart := false }
def FnExactPickWishesSaid : Prop := fnExactPickWishesRow.holds Try.pinned (OpenSpec.ofChange fnExactPickWishesSpec)

/-- ITS FALSE NEIGHBOUR: 'it returns false'. Refute it at one input. -/
def fnExactPickWishesWrong : ChangeSpec := { name := "fnExactPickWishes", fn := fun _ => fun
  | [d1, d2] => { results := [.lit (.bool false)], args := [d1, d2] }
  | _ => none }
def FnExactPickWishesWrongFalsely : Prop := fnExactPickWishesRow.holds Try.pinned (OpenSpec.ofChange fnExactPickWishesWrong)

/-- 'laws.FnExactPickedActions': WHATEVER THE INPUT: true; the input reads as it did. -/
def fnExactPickedActionsSpec : ChangeSpec := { name := "fnExactPickedActions", fn := fun _ => fun
  | [d1, d2] => { results := [.lit (.bool true)], args := [d1, d2] }
  | _ => none }
def fnExactPickedActionsRow : OpenClaim := { program := "ytcgheamckfodaaa", sum := "c9602b3eedd58e8dacbda3c1db23ef44c1f76d14922b3628b21d63158c664ddd", func := "loop.example/blockexecutor/laws.FnExactPickedActions", spec := "fnExactPickedActions", apart := false }
def FnExactPickedActionsSaid : Prop := fnExactPickedActionsRow.holds Try.pinned (OpenSpec.ofChange fnExactPickedActionsSpec)

/-- ITS FALSE NEIGHBOUR: 'it returns false'. Refute it at one input. -/
def fnExactPickedActionsWrong : ChangeSpec := { name := "fnExactPickedActions", fn := fun _ => fun
  | [d1, d2] => { results := [.lit (.bool false)], args := [d1, d2] }
  | _ => none }
def FnExactPickedActionsWrongFalsely : Prop := fnExactPickedActionsRow.holds Try.pinned (OpenSpec.ofChange fnExactPickedActionsWrong)

/-- 'laws.FnWishesValid': WHATEVER THE INPUT: true; the input reads as it did. -/
def fnWishesValidSpec : ChangeSpec := { name := "fnWishesValid", fn := fun _ => fun
  | [d] => { results := [.lit (.bool true)], args := [d] }
  | _ => none }
def fnWishesValidRow : OpenClaim := { program := "ytcgheamckfodaaa", sum := "c9602b3eedd58e8dacbda3c1db23ef44c1f76d14922b3628b21d63158c664ddd", func := "loop.example/blockexecutor/laws.FnWishesValid", spec := "fnWishesValid", unfollowed := true, recurses := true, apart := false }
def FnWishesValidSaid : Prop := fnWishesValidRow.holds Try.pinned (OpenSpec.ofChange fnWishesValidSpec)

/-- ITS FALSE NEIGHBOUR: 'it returns false'. Refute it at one input. -/
def fnWishesValidWrong : ChangeSpec := { name := "fnWishesValid", fn := fun _ => fun
  | [d] => { results := [.lit (.bool false)], args := [d] }
  | _ => none }
def FnWishesValidWrongFalsely : Prop := fnWishesValidRow.holds Try.pinned (OpenSpec.ofChange fnWishesValidWrong)

/-- 'laws.FnPickWishes': WHATEVER THE INPUT: true; the input reads as it did. -/
def fnPickWishesSpec : ChangeSpec := { name := "fnPickWishes", fn := fun _ => fun
  | [d] => { results := [.lit (.bool true)], args := [d] }
  | _ => none }
def fnPickWishesRow : OpenClaim := { program := "ytcgheamckfodaaa", sum := "c9602b3eedd58e8dacbda3c1db23ef44c1f76d14922b3628b21d63158c664ddd", func := "loop.example/blockexecutor/laws.FnPickWishes", spec := "fnPickWishes", unfollowed := true, recurses := true, apart := false }
def FnPickWishesSaid : Prop := fnPickWishesRow.holds Try.pinned (OpenSpec.ofChange fnPickWishesSpec)

/-- ITS FALSE NEIGHBOUR: 'it returns false'. Refute it at one input. -/
def fnPickWishesWrong : ChangeSpec := { name := "fnPickWishes", fn := fun _ => fun
  | [d] => { results := [.lit (.bool false)], args := [d] }
  | _ => none }
def FnPickWishesWrongFalsely : Prop := fnPickWishesRow.holds Try.pinned (OpenSpec.ofChange fnPickWishesWrong)

/-- 'laws.FnPickedActions': WHATEVER THE INPUT: true; the input reads as it did. -/
def fnPickedActionsSpec : ChangeSpec := { name := "fnPickedActions", fn := fun _ => fun
  | [d] => { results := [.lit (.bool true)], args := [d] }
  | _ => none }
def fnPickedActionsRow : OpenClaim := { program := "ytcgheamckfodaaa", sum := "c9602b3eedd58e8dacbda3c1db23ef44c1f76d14922b3628b21d63158c664ddd", func := "loop.example/blockexecutor/laws.FnPickedActions", spec := "fnPickedActions", unfollowed := true, recurses := true, apart := false }
def FnPickedActionsSaid : Prop := fnPickedActionsRow.holds Try.pinned (OpenSpec.ofChange fnPickedActionsSpec)

/-- ITS FALSE NEIGHBOUR: 'it returns false'. Refute it at one input. -/
def fnPickedActionsWrong : ChangeSpec := { name := "fnPickedActions", fn := fun _ => fun
  | [d] => { results := [.lit (.bool false)], args := [d] }
  | _ => none }
def FnPickedActionsWrongFalsely : Prop := fnPickedActionsRow.holds Try.pinned (OpenSpec.ofChange fnPickedActionsWrong)

/- THE SECOND FORM. 'bulk': how many values and letters a reading holds, each counted each time it is reached (what is shared counts as often as it is met; a slice's spare places count too). A statement '..UptoSaid' is the law's where the arguments, and the package variables that the reading takes, are together of bulk at most 1048576: NARROWER than '..Said'. Prove '..Said' where nothing that the law and all that it calls make is longer than what came in: it says more and counts as full. Else prove '..UptoSaid'. A law counts once. -/
mutual
def uptoBulk {H : Type} : DataW H → Nat
  | .lit (.string bytes) => bytes.length + 1
  | .lit _ => 1
  | .nil => 1
  | .ptr d => uptoBulk d + 1
  | .slice elems spare => uptoBulkAll elems + uptoBulkAll spare + 1
  | .agg parts => uptoBulkAll parts + 1
  | .iface _ d => uptoBulk d + 1
  | .map entries => uptoBulkEntries entries + 1
  | .held _ => 1
def uptoBulkAll {H : Type} : List (DataW H) → Nat
  | [] => 0
  | d :: r => uptoBulk d + uptoBulkAll r
def uptoBulkEntries {H : Type} : List (Lit × DataW H) → Nat
  | [] => 0
  | x :: r => uptoBulkEntry x + uptoBulkEntries r
def uptoBulkEntry {H : Type} : Lit × DataW H → Nat
  | (.string bytes, d) => bytes.length + uptoBulk d + 1
  | (_, d) => uptoBulk d + 1
 end
def uptoSmall : (H : Type) → List (DataW H) → Bool := fun _ ds => decide (uptoBulkAll ds ≤ 1048576)
def OpenSpec.upto (s : _root_.Go.ChangeSpec) : _root_.Go.OpenSpec := { _root_.Go.OpenSpec.ofChange s with cond := some uptoSmall }

/-- 'laws.FnExactWishesValid', WHERE WHAT IT READS IS OF BULK AT MOST 1048576: true; the input reads as it did. -/
def fnExactWishesValidUptoRow : OpenClaim := { program := "ytcgheamckfodaaa", sum := "c9602b3eedd58e8dacbda3c1db23ef44c1f76d14922b3628b21d63158c664ddd", func := "loop.example/blockexecutor/laws.FnExactWishesValid", spec := "fnExactWishesValid", apart := false, narrowed := true }
def FnExactWishesValidUptoSaid : Prop := fnExactWishesValidUptoRow.holds Try.pinned (OpenSpec.upto fnExactWishesValidSpec)

/-- 'laws.FnExactPickWishes', WHERE WHAT IT READS IS OF BULK AT MOST 1048576: true; the input reads as it did. -/
def fnExactPickWishesUptoRow : OpenClaim := { program := "ytcgheamckfodaaa", sum := "c9602b3eedd58e8dacbda3c1db23ef44c1f76d14922b3628b21d63158c664ddd", func := "loop.example/blockexecutor/laws.FnExactPickWishes", spec := "fnExactPickWishes", apart := false, narrowed := true }
def FnExactPickWishesUptoSaid : Prop := fnExactPickWishesUptoRow.holds Try.pinned (OpenSpec.upto fnExactPickWishesSpec)

/-- 'laws.FnExactPickedActions', WHERE WHAT IT READS IS OF BULK AT MOST 1048576: true; the input reads as it did. -/
def fnExactPickedActionsUptoRow : OpenClaim := { program := "ytcgheamckfodaaa", sum := "c9602b3eedd58e8dacbda3c1db23ef44c1f76d14922b3628b21d63158c664ddd", func := "loop.example/blockexecutor/laws.FnExactPickedActions", spec := "fnExactPickedActions", apart := false, narrowed := true }
def FnExactPickedActionsUptoSaid : Prop := fnExactPickedActionsUptoRow.holds Try.pinned (OpenSpec.upto fnExactPickedActionsSpec)

/-- 'laws.FnWishesValid', WHERE WHAT IT READS IS OF BULK AT MOST 1048576: true; the input reads as it did. -/
def fnWishesValidUptoRow : OpenClaim := { program := "ytcgheamckfodaaa", sum := "c9602b3eedd58e8dacbda3c1db23ef44c1f76d14922b3628b21d63158c664ddd", func := "loop.example/blockexecutor/laws.FnWishesValid", spec := "fnWishesValid", unfollowed := true, recurses := true, apart := false, narrowed := true }
def FnWishesValidUptoSaid : Prop := fnWishesValidUptoRow.holds Try.pinned (OpenSpec.upto fnWishesValidSpec)

/-- 'laws.FnPickWishes', WHERE WHAT IT READS IS OF BULK AT MOST 1048576: true; the input reads as it did. -/
def fnPickWishesUptoRow : OpenClaim := { program := "ytcgheamckfodaaa", sum := "c9602b3eedd58e8dacbda3c1db23ef44c1f76d14922b3628b21d63158c664ddd", func := "loop.example/blockexecutor/laws.FnPickWishes", spec := "fnPickWishes", unfollowed := true, recurses := true, apart := false, narrowed := true }
def FnPickWishesUptoSaid : Prop := fnPickWishesUptoRow.holds Try.pinned (OpenSpec.upto fnPickWishesSpec)

/-- 'laws.FnPickedActions', WHERE WHAT IT READS IS OF BULK AT MOST 1048576: true; the input reads as it did. -/
def fnPickedActionsUptoRow : OpenClaim := { program := "ytcgheamckfodaaa", sum := "c9602b3eedd58e8dacbda3c1db23ef44c1f76d14922b3628b21d63158c664ddd", func := "loop.example/blockexecutor/laws.FnPickedActions", spec := "fnPickedActions", unfollowed := true, recurses := true, apart := false, narrowed := true }
def FnPickedActionsUptoSaid : Prop := fnPickedActionsUptoRow.holds Try.pinned (OpenSpec.upto fnPickedActionsSpec)

end Rows
end Go.Proofs.Ytcgheamckfodaaa
