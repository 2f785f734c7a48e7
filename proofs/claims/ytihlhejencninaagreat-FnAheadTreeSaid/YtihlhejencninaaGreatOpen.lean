/- From the form's reading of an argument to this claim's words for memory. -/
import Derived.Test.YtihlhejencninaaGreatGmem
import Derived.ProofKit
import Derived.OpenShut
import Derived.ShutString
import Derived.ChangeOld
import Derived.Deep.Slices
import Derived.Deep.Fields
import Derived.ChangeSame
namespace Go.Proofs.YtihlhejencninaaGreat
open Go.RowKit
set_option linter.unusedVariables false
set_option linter.unusedSimpArgs false

theorem cell_spot {w : World} {a : Addr} {v : Value} (h : w.cell? a = some v) : a = ⟨a.block, a.off, none⟩ := by
 rcases a with ⟨b, o, s⟩
 cases s with
 | none => rfl
 | some s =>
   exfalso
   unfold World.cell? at h
   split at h
   · simp at h
   · cases h
theorem add_plain (b o i : Nat) : (⟨b, o, none⟩ : Addr).add i = ⟨b, o + i, none⟩ := by
 unfold Addr.add
 split
 · simp [*]
 · rfl
/-- a row of cells by Addr.add is a row by offsets -/
theorem rd_of_cells {w : World} {a : Addr} {xs : List Value} (h : ∀ i u, xs[i]? = some u → w.cell? (a.add i) = some u) : Rd w (some a) xs := fun h0 => by
 have hc0 := h 0 xs[0] (List.getElem?_eq_getElem h0)
 have ha0 : a.add 0 = a := by unfold Addr.add; simp
 rw [ha0] at hc0
 have ha := cell_spot hc0
 refine ⟨a.block, a.off, by rw [← ha], World.block_lt_of_cell? w a hc0, fun j u hu => ?_⟩
 have := h j u hu
 rw [ha, add_plain] at this
 exact this
theorem rd_ints {w : World} {k : IntKind} {a : Addr} {len : Nat} {zs : List Int} (hl : len ≤ zs.length) (hc : ∀ i, i < zs.length → w.cell? (a.add i) = some (.int k (zs.getD i 0))) (hw : ∀ n ∈ zs, (Lit.int k n).wf = true) :
   ∃ ys : List Int, ys.length = len ∧ Rd w (some a) (ys.map (Value.int k)) ∧ ∀ n ∈ ys, (Lit.int k n).wf = true := by
 refine ⟨zs.take len, by simp; omega, rd_of_cells fun i u hu => ?_, fun n hn => hw n (List.mem_of_mem_take hn)⟩
 rw [List.getElem?_map, Option.map_eq_some_iff] at hu
 obtain ⟨n, hn, rfl⟩ := hu
 rw [List.getElem?_take] at hn
 split at hn
 · obtain ⟨h1, rfl⟩ := List.getElem?_eq_some_iff.1 hn
   rw [hc i h1]
   simp [h1]
 · cases hn
section
open Go.ChangeShapes Go.WideShapes Go.Deep
variable {H : Type} {enc : TypeId × Value → H} {P : Program} {w : World} {base : Nat} {spare : Nat → Bool} {held : Bool}
end
theorem wf_u8 {n : Int} (h : (Lit.int .u8 n).wf = true) : 0 ≤ n ∧ n ≤ 255 := by simpa [Lit.wf, IntKind.min, IntKind.max, IntKind.signed, IntKind.bits] using h
end Go.Proofs.YtihlhejencninaaGreat
