/- Small maps of the call's own, from numbers to numbers: what a key has. -/
import Derived.Test.YtefdhlfljpppfaaLoc
import Derived.Test.YtefdhlfljpppfaaRdr
import Derived.Maps.Own
import Derived.Maps.Views
import Derived.Carry
namespace Go.Proofs.Ytefdhlfljpppfaa
open Go.RowKit
set_option linter.unusedVariables false
set_option linter.unusedSimpArgs false

theorem kint : Go.Maps.Keyed Try.prog 3 := Go.Maps.int_keyed Try.underlying3
theorem zero_int (w : World) : (zeroValue 3).run Try.prog w = .ok (.int .i64 0) w := by kernel_rfl
def wfi (z : Int) : Prop := -9223372036854775808 ≤ z ∧ z ≤ 9223372036854775807
theorem wfi_lit {z : Int} (h : wfi z) : (Lit.int .i64 z).wf = true := by
  obtain ⟨h1, h2⟩ := h
  simp [Lit.wf, IntKind.min, IntKind.max, IntKind.signed, IntKind.bits]
  omega
theorem key_lit {z : Int} (h : wfi z) : keyOf Try.prog 3 (.int .i64 z) = some (.int .i64 z) := by
  have e := wfi_lit h
  simp [keyOf, mapKey, Try.underlying3, e]
/-- block b is a map; every key that it has, has what f says; it has the keys ks -/
def MapAt (f : Int → Int) (w : World) (b : Nat) (ks : List Int) : Prop :=
  ∃ (n : Nat) (D : DataW Unit), w.ownsMap Try.prog 3 (plainElem Try.prog 3) b n D ∧ Go.Maps.IsMap D ∧
    (∀ k, Go.Maps.has D (.int .i64 k) = true → D.atKey (.int .i64 k) (.lit (.int .i64 0)) = .lit (.int .i64 (f k))) ∧ ∀ k ∈ ks, Go.Maps.has D (.int .i64 k) = true
/-- how many entries block b has, as a map -/
def mapCnt (w : World) (b : Nat) : Nat := match w.heap[b]? with | some (.map es _) => es.size | _ => 0
section
variable {f : Int → Int} {w w' : World} {b : Nat} {ks : List Int}
theorem MapAt.keep (h : MapAt f w b ks) (hk : w'.heap[b]? = w.heap[b]?) : MapAt f w' b ks := by
  obtain ⟨n, D, ⟨es, c, h0, h1, h2, h3⟩, hr⟩ := h
  exact ⟨n, D, ⟨es, c, hk.trans h0, h1, h2, h3⟩, hr⟩
theorem MapAt.lt (h : MapAt f w b ks) : b < w.heap.size := by
  obtain ⟨n, D, h0, _⟩ := h
  exact h0.lt
theorem MapAt.new (h : MapAt f w b ks) (hb : Below w.heap.size w w') : MapAt f w' b ks := h.keep (hb.block b h.lt)
theorem MapAt.made (f : Int → Int) (w : World) : MapAt f (w.alloc (.map #[] 0)) w.heap.size [] :=
  ⟨0, .map [], World.ownsMap_made _ _ _ _, Go.Maps.isMap_empty, fun k hk => by simp [Go.Maps.has_eq] at hk, by simp⟩
end
/-- in a region that draws and holds one map literal, whose block is number 'base' -/
def EM (f : Int → Int) (base : Nat) (a b : World) : Prop := Below base a b ∧ ∀ l, MapAt f a base l → MapAt f b base l
theorem EM.refl (f : Int → Int) (base : Nat) (w : World) : EM f base w w := ⟨Below.refl _ _, fun _ h => h⟩
theorem EM.trans {f : Int → Int} {base : Nat} (a b c : World) (h : EM f base a b) (k : EM f base b c) : EM f base a c := ⟨h.1.trans k.1, fun l hl => k.2 l (h.2 l hl)⟩
def RM (base : Nat) (m : Nat) (w : World) : Prop := base ≤ w.heap.size ∧ 4 * (w.heap.size - base) + mapCnt w base + m ≤ 6
end Go.Proofs.Ytefdhlfljpppfaa
