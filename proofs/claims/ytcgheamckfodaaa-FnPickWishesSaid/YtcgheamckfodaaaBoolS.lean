/- Slices of bools in memory; the laws' helpers over them. -/
import Derived.Test.YtcgheamckfodaaaIntS
namespace Go.Proofs.Ytcgheamckfodaaa
open Go.RowKit
set_option linter.unusedVariables false
set_option linter.unusedSimpArgs false

theorem el_bool : El Try.prog 50 4 1 1 := El.mk_ (z := .bool false) Try.underlying50 (by kernel_rfl) rfl (by omega)
theorem Rd.boo {w : World} {A : Option Addr} {zs : List Bool} (h : Rd w A (zs.map Value.bool)) {k : Nat} (hk : k < zs.length) :
    ∃ b off, A = some ⟨b, off, none⟩ ∧ b < w.heap.size ∧ w.cell? ⟨b, off + k, none⟩ = some (.bool zs[k]) := by
  obtain ⟨b, off, rfl, hb, hc⟩ := h (by simp; omega)
  exact ⟨b, off, rfl, hb, hc k _ (by simp [hk])⟩
theorem one_bools (zs : List Bool) : ∀ u ∈ zs.map Value.bool, u.oneCell' = true := by
  intro u hu
  obtain ⟨z, _, rfl⟩ := List.mem_map.1 hu
  rfl
def markB (k : Int) (n : Nat) : List Bool := (List.range n).map fun i : Nat => (k + (i : Int)) % 3 == 0
theorem markB_succ (k : Int) (n : Nat) : markB k (n + 1) = markB k n ++ [(k + n) % 3 == 0] := by simp [markB, List.range_succ]
theorem markB_length (k : Int) (n : Nat) : (markB k n).length = n := by simp [markB]
theorem markB_get (k : Int) (n i : Nat) (h : i < (markB k n).length) : (markB k n)[i] = ((k + i) % 3 == 0) := by simp [markB]

end Go.Proofs.Ytcgheamckfodaaa
