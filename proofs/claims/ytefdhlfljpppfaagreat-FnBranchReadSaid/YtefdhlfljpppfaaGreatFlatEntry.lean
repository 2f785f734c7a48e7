/- Entry: slices of a struct of 2 integers in memory; the laws' helpers over them. -/
import Derived.Test.YtefdhlfljpppfaaGreatIntS
import Derived.StillTailTactics
import Derived.Test.YtefdhlfljpppfaaGreatEnt
namespace Go.Proofs.YtefdhlfljpppfaaGreat
open Go.RowKit
set_option linter.unusedVariables false
set_option linter.unusedSimpArgs false

theorem info_ent : (Tryz.prog.info? 85).map (fun i => (i.zero, i.size, i.bytes)) = some (some (.agg #[.int .i64 0, .int .i64 0]), 2, 16) := by kernel_rfl
theorem zeroes_ent (n : Nat) : madeCells #[Value.int .i64 0, Value.int .i64 0] (n * 2) = ((List.replicate n (⟨0, 0⟩ : Ent)).flatMap encE).toArray := by
  apply Array.ext
  · rw [size_madeCells, List.size_toArray, length_flat encE 2 encE_len, List.length_replicate]
  · intro i h1 h2
    have hi : i < n * 2 := by rw [size_madeCells] at h1; exact h1
    have hq : i / 2 < (List.replicate n (⟨0, 0⟩ : Ent)).length := by rw [List.length_replicate]; omega
    have hg := get_flat encE 2 encE_len (List.replicate n (⟨0, 0⟩ : Ent)) (i / 2) hq (i % 2) (by omega)
    rw [show i / 2 * 2 + i % 2 = i by omega] at hg
    have hr : ∀ r, r < 2 → (encE (⟨0, 0⟩ : Ent))[r]? = some (Value.int .i64 0) := by
      intro r hr
      match r, hr with
      | 0, _ => rfl
      | 1, _ => rfl
    rw [List.getElem_replicate, hr _ (by omega)] at hg
    have h3 := (List.getElem?_eq_some_iff.1 hg).2
    refine Eq.trans ?_ ((List.getElem_toArray h2).trans h3).symm
    simp only [madeCells, Array.getElem_map, Array.getElem_range]
    have h4 : ∀ r, r < 2 → (#[Value.int .i64 0, Value.int .i64 0] : Array Value)[r]! = Value.int .i64 0 := by
      intro r hr
      match r, hr with
      | 0, _ => rfl
      | 1, _ => rfl
    exact h4 _ (Nat.mod_lt _ (by simp))
theorem make_ent (n : Nat) (hn : n ≤ 1048576) (w : World) : (Instr.makeSlice 23 (.int .i64 (n : Int)) (.int .i64 (n : Int))).run Tryz.prog w = .ok (.slice (some ⟨w.heap.size, 0, none⟩) n n) (w.alloc (.cells ((List.replicate n (⟨0, 0⟩ : Ent)).flatMap encE).toArray 85)) := by
  obtain ⟨i0, hi0, hz0, hz1, hz2⟩ := info_parts info_ent
  rw [run_make_rowN 23 85 i0 _ Tryz.underlying23 hi0 hz0 _ _ n n (Nat.le_refl _) (by rw [hz2]; omega) (by omega), hz1]
  simp only [Value.cells]
  rw [zeroes_ent]

def markEnt (k : Int) (n : Nat) : List Ent := (List.range n).map fun i : Nat => ⟨k + (i : Int) * 2, k + (i : Int) * 2 + 1⟩
theorem markEnt_succ (k : Int) (n : Nat) : markEnt k (n + 1) = markEnt k n ++ [⟨k + (n : Int) * 2, k + (n : Int) * 2 + 1⟩] := by simp [markEnt, List.range_succ]
theorem markEnt_length (k : Int) (n : Nat) : (markEnt k n).length = n := by simp [markEnt]
theorem markEnt_get (k : Int) (n i : Nat) (h : i < (markEnt k n).length) : (markEnt k n)[i] = ⟨k + (i : Int) * 2, k + (i : Int) * 2 + 1⟩ := by simp [markEnt]
end Go.Proofs.YtefdhlfljpppfaaGreat
