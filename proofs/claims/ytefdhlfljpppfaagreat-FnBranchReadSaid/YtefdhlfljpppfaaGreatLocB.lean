/- Regions that draw and hold calls that only make memory: facts that are stable under new memory. -/
import Derived.Test.YtefdhlfljpppfaaGreatLoc
import Derived.Test.YtefdhlfljpppfaaGreatDeep
import Derived.Test.YtefdhlfljpppfaaGreatRdr
import Derived.Laws.Rows
namespace Go.Proofs.YtefdhlfljpppfaaGreat
open Go.RowKit
set_option linter.unusedVariables false
set_option linter.unusedSimpArgs false

/-- kept by new memory -/
def StB (f : Value → World → Prop) : Prop := ∀ v a b, Below a.heap.size a b → f v a → f v b
def bV (u : Value) (v : Value) (_ : World) : Prop := v = u
theorem sb_V (u : Value) : StB (bV u) := fun _ _ _ _ h => h
theorem sb_True : StB (fun _ _ => True) := fun _ _ _ _ h => h
def StBL : List (Value → World → Prop) → Prop
  | [] => True
  | f :: l => StB f ∧ StBL l
theorem stbl_get : ∀ {l : List (Value → World → Prop)}, StBL l → ∀ i, StB (l.getD i fun _ _ => True)
  | [], _, i => fun _ _ _ _ _ => trivial
  | f :: l, h, 0 => h.1
  | f :: l, h, i + 1 => by simpa using stbl_get h.2 i
/-- the operations' facts, from a list -/
def locB (fs : List (Value → World → Prop)) (i : Nat) (v : Value) (w : World) : Prop := (fs.getD i fun _ _ => True) v w
theorem locB_st {fs : List (Value → World → Prop)} (h : StBL fs) (n : Nat) (i : Nat) (v : Value) (a b : World) (_ : i < n) (hf : locB fs i v a) (hc : Below a.heap.size a b) : locB fs i v b := stbl_get h i v a b hc hf
def noR (_ : Nat) (_ : World) : Prop := True
theorem below_undrew {a b : World} (h : Below a.drew.heap.size a.drew b) : Below a.heap.size a b := ⟨h.os, h.tape, h.output, h.size, h.block⟩
end Go.Proofs.YtefdhlfljpppfaaGreat
