/-
  No cell of these rows narrows 'for every input' (looked for: loops, veiled, ifaces, maps, wideKeys, modest, calm, conditions, laid).
  DERIVED. THE GIVEN ROWS OF THIS SEAT. 7 by the template 'for every input the law returns true; each argument reads behind the call as it read before'; 0 by the template 'total and deterministic' (their statements: YtihlhejencninaaGreatTotals.lean).
  GIVEN WITH THE SEED: the statements are not yours to turn. If you find one false, say at which input.
  Laid BY PROGRAM, IN A SANDBOX (cutbox-rows.mjs): the forced cells as the released guide's own fill.sh prints them over the translation f946f9df3a4f8f45… (all of the seat's roots in one cut). By AI agents, Wed Nov 11 2026. No macro, syntax, notation, axiom, sorry.
-/
import Derived.Test.YtihlhejencninaaGreatChecked
import GoSem.Claim
import GoSem.ClaimJoined
import GoSem.ClaimMapViews
import Derived.JoinedTies
import Derived.KernelRfl
namespace Go.Proofs.YtihlhejencninaaGreat
/- THE CELL 'sum', in the pinned program and in every row, IS THE sha256 OF THE DUMP (.gsa) THAT YtihlhejencninaaGreatProg.lean LOADS. Nothing in Lean hashes anything: it is a label: what it is worth is what the hold of that sum in a sandbox is worth. -/
noncomputable def Tryz.pinned : Pinned := { name := "ytihlhejencninaagreat", sum := "f946f9df3a4f8f4579587b2139aa7edcf36fd054a19d2975fa00deff3e959677", checked := Tryz.checked }
namespace Rows
def none {H : Type} : Left H := { results := [], args := [] }

/-- 'laws.FnExactAheadBlock': WHATEVER THE INPUT: true; the input reads as it did. -/
def fnExactAheadBlockSpec : ChangeSpec := { name := "fnExactAheadBlock", fn := fun _ => fun
  | [d1, d2, d3] => { results := [.lit (.bool true)], args := [d1, d2, d3] }
  | _ => none }
def fnExactAheadBlockRow : OpenClaim := { program := "ytihlhejencninaagreat", sum := "f946f9df3a4f8f4579587b2139aa7edcf36fd054a19d2975fa00deff3e959677", func := "loop.example/blockexecutor/laws.FnExactAheadBlock", spec := "fnExactAheadBlock", unfollowed := true, recurses := true, apart := false }
def FnExactAheadBlockSaid : Prop := fnExactAheadBlockRow.holds Tryz.pinned (OpenSpec.ofChange fnExactAheadBlockSpec)

/-- ITS FALSE NEIGHBOUR: 'it returns false'. Refute it at one input. -/
def fnExactAheadBlockWrong : ChangeSpec := { name := "fnExactAheadBlock", fn := fun _ => fun
  | [d1, d2, d3] => { results := [.lit (.bool false)], args := [d1, d2, d3] }
  | _ => none }
def FnExactAheadBlockWrongFalsely : Prop := fnExactAheadBlockRow.holds Tryz.pinned (OpenSpec.ofChange fnExactAheadBlockWrong)

/-- 'laws.FnAheadBlock': WHATEVER THE INPUT: true; the input reads as it did. -/
def fnAheadBlockSpec : ChangeSpec := { name := "fnAheadBlock", fn := fun _ => fun
  | [d] => { results := [.lit (.bool true)], args := [d] }
  | _ => none }
def fnAheadBlockRow : OpenClaim := { program := "ytihlhejencninaagreat", sum := "f946f9df3a4f8f4579587b2139aa7edcf36fd054a19d2975fa00deff3e959677", func := "loop.example/blockexecutor/laws.FnAheadBlock", spec := "fnAheadBlock", unfollowed := true, recurses := true, apart := false }
def FnAheadBlockSaid : Prop := fnAheadBlockRow.holds Tryz.pinned (OpenSpec.ofChange fnAheadBlockSpec)

/-- ITS FALSE NEIGHBOUR: 'it returns false'. Refute it at one input. -/
def fnAheadBlockWrong : ChangeSpec := { name := "fnAheadBlock", fn := fun _ => fun
  | [d] => { results := [.lit (.bool false)], args := [d] }
  | _ => none }
def FnAheadBlockWrongFalsely : Prop := fnAheadBlockRow.holds Tryz.pinned (OpenSpec.ofChange fnAheadBlockWrong)

/-- 'laws.FnExactWastedTries': WHATEVER THE INPUT: true; the input reads as it did. -/
def fnExactWastedTriesSpec : ChangeSpec := { name := "fnExactWastedTries", fn := fun _ => fun
  | [d1, d2, d3] => { results := [.lit (.bool true)], args := [d1, d2, d3] }
  | _ => none }
def fnExactWastedTriesRow : OpenClaim := { program := "ytihlhejencninaagreat", sum := "f946f9df3a4f8f4579587b2139aa7edcf36fd054a19d2975fa00deff3e959677", func := "loop.example/blockexecutor/laws.FnExactWastedTries", spec := "fnExactWastedTries", unfollowed := true, recurses := true, apart := false }
def FnExactWastedTriesSaid : Prop := fnExactWastedTriesRow.holds Tryz.pinned (OpenSpec.ofChange fnExactWastedTriesSpec)

/-- ITS FALSE NEIGHBOUR: 'it returns false'. Refute it at one input. -/
def fnExactWastedTriesWrong : ChangeSpec := { name := "fnExactWastedTries", fn := fun _ => fun
  | [d1, d2, d3] => { results := [.lit (.bool false)], args := [d1, d2, d3] }
  | _ => none }
def FnExactWastedTriesWrongFalsely : Prop := fnExactWastedTriesRow.holds Tryz.pinned (OpenSpec.ofChange fnExactWastedTriesWrong)

/-- 'laws.FnWastedTries': WHATEVER THE INPUT: true; the input reads as it did. -/
def fnWastedTriesSpec : ChangeSpec := { name := "fnWastedTries", fn := fun _ => fun
  | [d] => { results := [.lit (.bool true)], args := [d] }
  | _ => none }
def fnWastedTriesRow : OpenClaim := { program := "ytihlhejencninaagreat", sum := "f946f9df3a4f8f4579587b2139aa7edcf36fd054a19d2975fa00deff3e959677", func := "loop.example/blockexecutor/laws.FnWastedTries", spec := "fnWastedTries", unfollowed := true, recurses := true, apart := false }
def FnWastedTriesSaid : Prop := fnWastedTriesRow.holds Tryz.pinned (OpenSpec.ofChange fnWastedTriesSpec)

/-- ITS FALSE NEIGHBOUR: 'it returns false'. Refute it at one input. -/
def fnWastedTriesWrong : ChangeSpec := { name := "fnWastedTries", fn := fun _ => fun
  | [d] => { results := [.lit (.bool false)], args := [d] }
  | _ => none }
def FnWastedTriesWrongFalsely : Prop := fnWastedTriesRow.holds Tryz.pinned (OpenSpec.ofChange fnWastedTriesWrong)

/-- 'laws.FnExactRunAhead': WHATEVER THE INPUT: true; the input reads as it did. -/
def fnExactRunAheadSpec : ChangeSpec := { name := "fnExactRunAhead", fn := fun _ => fun
  | [d1, d2, d3] => { results := [.lit (.bool true)], args := [d1, d2, d3] }
  | _ => none }
def fnExactRunAheadRow : OpenClaim := { program := "ytihlhejencninaagreat", sum := "f946f9df3a4f8f4579587b2139aa7edcf36fd054a19d2975fa00deff3e959677", func := "loop.example/blockexecutor/laws.FnExactRunAhead", spec := "fnExactRunAhead", unfollowed := true, recurses := true, apart := false }
def FnExactRunAheadSaid : Prop := fnExactRunAheadRow.holds Tryz.pinned (OpenSpec.ofChange fnExactRunAheadSpec)

/-- ITS FALSE NEIGHBOUR: 'it returns false'. Refute it at one input. -/
def fnExactRunAheadWrong : ChangeSpec := { name := "fnExactRunAhead", fn := fun _ => fun
  | [d1, d2, d3] => { results := [.lit (.bool false)], args := [d1, d2, d3] }
  | _ => none }
def FnExactRunAheadWrongFalsely : Prop := fnExactRunAheadRow.holds Tryz.pinned (OpenSpec.ofChange fnExactRunAheadWrong)

/-- 'laws.FnRunAhead': WHATEVER THE INPUT: true; the input reads as it did. -/
def fnRunAheadSpec : ChangeSpec := { name := "fnRunAhead", fn := fun _ => fun
  | [d] => { results := [.lit (.bool true)], args := [d] }
  | _ => none }
def fnRunAheadRow : OpenClaim := { program := "ytihlhejencninaagreat", sum := "f946f9df3a4f8f4579587b2139aa7edcf36fd054a19d2975fa00deff3e959677", func := "loop.example/blockexecutor/laws.FnRunAhead", spec := "fnRunAhead", unfollowed := true, recurses := true, apart := false }
def FnRunAheadSaid : Prop := fnRunAheadRow.holds Tryz.pinned (OpenSpec.ofChange fnRunAheadSpec)

/-- ITS FALSE NEIGHBOUR: 'it returns false'. Refute it at one input. -/
def fnRunAheadWrong : ChangeSpec := { name := "fnRunAhead", fn := fun _ => fun
  | [d] => { results := [.lit (.bool false)], args := [d] }
  | _ => none }
def FnRunAheadWrongFalsely : Prop := fnRunAheadRow.holds Tryz.pinned (OpenSpec.ofChange fnRunAheadWrong)

/-- 'laws.FnAheadTree': WHATEVER THE INPUT: true; the input reads as it did. -/
def fnAheadTreeSpec : ChangeSpec := { name := "fnAheadTree", fn := fun _ => fun
  | [d] => { results := [.lit (.bool true)], args := [d] }
  | _ => none }
def fnAheadTreeRow : OpenClaim := { program := "ytihlhejencninaagreat", sum := "f946f9df3a4f8f4579587b2139aa7edcf36fd054a19d2975fa00deff3e959677", func := "loop.example/blockexecutor/laws.FnAheadTree", spec := "fnAheadTree", unfollowed := true, recurses := true, apart := false }
def FnAheadTreeSaid : Prop := fnAheadTreeRow.holds Tryz.pinned (OpenSpec.ofChange fnAheadTreeSpec)

/-- ITS FALSE NEIGHBOUR: 'it returns false'. Refute it at one input. -/
def fnAheadTreeWrong : ChangeSpec := { name := "fnAheadTree", fn := fun _ => fun
  | [d] => { results := [.lit (.bool false)], args := [d] }
  | _ => none }
def FnAheadTreeWrongFalsely : Prop := fnAheadTreeRow.holds Tryz.pinned (OpenSpec.ofChange fnAheadTreeWrong)

/- THE SECOND FORM. 'bulk': how many values and letters a reading holds, each counted each time it is reached (what is shared counts as often as it is met; a slice's spare places count too). A statement '..UptoSaid' is the law's where the arguments, and the package variables that the reading takes, are together of bulk at most 1048576: NARROWER than '..Said'. Prove '..Said' where nothing that the law and all that it calls make is longer than what came in: it says more and counts as full. Else prove '..UptoSaid'. A law counts once. -/
mutual
def uptoBulk {H : Type} : DataW H → Nat
  | .lit (.string bytes) => bytes.length + 1
  | .lit _ => 1
  | .nil => 1
  | .ptr d => uptoBulk d + 1
  | .slice elems spare => uptoBulkAll elems + uptoBulkAll spare + 1
  | .agg parts => uptoBulkAll parts + 1
  | .iface _ d => uptoBulk d + 1
  | .map entries => uptoBulkEntries entries + 1
  | .held _ => 1
def uptoBulkAll {H : Type} : List (DataW H) → Nat
  | [] => 0
  | d :: r => uptoBulk d + uptoBulkAll r
def uptoBulkEntries {H : Type} : List (Lit × DataW H) → Nat
  | [] => 0
  | x :: r => uptoBulkEntry x + uptoBulkEntries r
def uptoBulkEntry {H : Type} : Lit × DataW H → Nat
  | (.string bytes, d) => bytes.length + uptoBulk d + 1
  | (_, d) => uptoBulk d + 1
 end
def uptoSmall : (H : Type) → List (DataW H) → Bool := fun _ ds => decide (uptoBulkAll ds ≤ 1048576)
def OpenSpec.upto (s : _root_.Go.ChangeSpec) : _root_.Go.OpenSpec := { _root_.Go.OpenSpec.ofChange s with cond := some uptoSmall }

/-- 'laws.FnExactAheadBlock', WHERE WHAT IT READS IS OF BULK AT MOST 1048576: true; the input reads as it did. -/
def fnExactAheadBlockUptoRow : OpenClaim := { program := "ytihlhejencninaagreat", sum := "f946f9df3a4f8f4579587b2139aa7edcf36fd054a19d2975fa00deff3e959677", func := "loop.example/blockexecutor/laws.FnExactAheadBlock", spec := "fnExactAheadBlock", unfollowed := true, recurses := true, apart := false, narrowed := true }
def FnExactAheadBlockUptoSaid : Prop := fnExactAheadBlockUptoRow.holds Tryz.pinned (OpenSpec.upto fnExactAheadBlockSpec)

/-- 'laws.FnAheadBlock', WHERE WHAT IT READS IS OF BULK AT MOST 1048576: true; the input reads as it did. -/
def fnAheadBlockUptoRow : OpenClaim := { program := "ytihlhejencninaagreat", sum := "f946f9df3a4f8f4579587b2139aa7edcf36fd054a19d2975fa00deff3e959677", func := "loop.example/blockexecutor/laws.FnAheadBlock", spec := "fnAheadBlock", unfollowed := true, recurses := true, apart := false, narrowed := true }
def FnAheadBlockUptoSaid : Prop := fnAheadBlockUptoRow.holds Tryz.pinned (OpenSpec.upto fnAheadBlockSpec)

/-- 'laws.FnExactWastedTries', WHERE WHAT IT READS IS OF BULK AT MOST 1048576: true; the input reads as it did. -/
def fnExactWastedTriesUptoRow : OpenClaim := { program := "ytihlhejencninaagreat", sum := "f946f9df3a4f8f4579587b2139aa7edcf36fd054a19d2975fa00deff3e959677", func := "loop.example/blockexecutor/laws.FnExactWastedTries", spec := "fnExactWastedTries", unfollowed := true, recurses := true, apart := false, narrowed := true }
def FnExactWastedTriesUptoSaid : Prop := fnExactWastedTriesUptoRow.holds Tryz.pinned (OpenSpec.upto fnExactWastedTriesSpec)

/-- 'laws.FnWastedTries', WHERE WHAT IT READS IS OF BULK AT MOST 1048576: true; the input reads as it did. -/
def fnWastedTriesUptoRow : OpenClaim := { program := "ytihlhejencninaagreat", sum := "f946f9df3a4f8f4579587b2139aa7edcf36fd054a19d2975fa00deff3e959677", func := "loop.example/blockexecutor/laws.FnWastedTries", spec := "fnWastedTries", unfollowed := true, recurses := true, apart := false, narrowed := true }
def FnWastedTriesUptoSaid : Prop := fnWastedTriesUptoRow.holds Tryz.pinned (OpenSpec.upto fnWastedTriesSpec)

/-- 'laws.FnExactRunAhead', WHERE WHAT IT READS IS OF BULK AT MOST 1048576: true; the input reads as it did. -/
def fnExactRunAheadUptoRow : OpenClaim := { program := "ytihlhejencninaagreat", sum := "f946f9df3a4f8f4579587b2139aa7edcf36fd054a19d2975fa00deff3e959677", func := "loop.example/blockexecutor/laws.FnExactRunAhead", spec := "fnExactRunAhead", unfollowed := true, recurses := true, apart := false, narrowed := true }
def FnExactRunAheadUptoSaid : Prop := fnExactRunAheadUptoRow.holds Tryz.pinned (OpenSpec.upto fnExactRunAheadSpec)

/-- 'laws.FnRunAhead', WHERE WHAT IT READS IS OF BULK AT MOST 1048576: true; the input reads as it did. -/
def fnRunAheadUptoRow : OpenClaim := { program := "ytihlhejencninaagreat", sum := "f946f9df3a4f8f4579587b2139aa7edcf36fd054a19d2975fa00deff3e959677", func := "loop.example/blockexecutor/laws.FnRunAhead", spec := "fnRunAhead", unfollowed := true, recurses := true, apart := false, narrowed := true }
def FnRunAheadUptoSaid : Prop := fnRunAheadUptoRow.holds Tryz.pinned (OpenSpec.upto fnRunAheadSpec)

/-- 'laws.FnAheadTree', WHERE WHAT IT READS IS OF BULK AT MOST 1048576: true; the input reads as it did. -/
def fnAheadTreeUptoRow : OpenClaim := { program := "ytihlhejencninaagreat", sum := "f946f9df3a4f8f4579587b2139aa7edcf36fd054a19d2975fa00deff3e959677", func := "loop.example/blockexecutor/laws.FnAheadTree", spec := "fnAheadTree", unfollowed := true, recurses := true, apart := false, narrowed := true }
def FnAheadTreeUptoSaid : Prop := fnAheadTreeUptoRow.holds Tryz.pinned (OpenSpec.upto fnAheadTreeSpec)

end Rows
end Go.Proofs.YtihlhejencninaaGreat
