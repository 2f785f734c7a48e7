/- What an action does: run of the program. -/
import Derived.Test.YtefdhlfljpppfaaResult
import Derived.Test.YtefdhlfljpppfaaLocB
namespace Go.Proofs.Ytefdhlfljpppfaa
open Go.RowKit
set_option linter.unusedVariables false
set_option linter.unusedSimpArgs false
attribute [local go_sem ↓] Go.wp_at_zero Go.wp_at_succ

theorem atV_nat (v : List Int) (p : Nat) : atV v (p : Int) = v.getD p 0 := by simp [atV]
theorem actReads_mem {a : Act} {k : Int} (h : k ∈ actReads a) : k = a.src ∨ k = a.dst := by
  unfold actReads at h
  split at h
  · cases h
  · split at h
    · exact .inl (by simpa using h)
    · rcases List.mem_cons.1 h with h | h
      · exact .inl h
      · exact .inr (by simpa using h)
theorem actWrites_mem {a : Act} {k : Int} (h : k ∈ actWrites a) : k = a.src ∨ k = a.dst := by
  unfold actWrites at h
  split at h
  · exact .inl (by simpa using h)
  · split at h
    · exact .inr (by simpa using h)
    · simp only [List.mem_cons, List.not_mem_nil, or_false] at h
      omega
theorem runV_reads (v : List Int) (a : Act) : (runV v a).reads = (actReads a).map fun k => ⟨k, atV v k⟩ := by
  show (actReads a).map _ = _
  apply List.map_congr_left
  intro k hk
  rcases actReads_mem hk with rfl | rfl
  · simp
  · by_cases h : a.dst = a.src
    · rw [if_pos h, h]
    · rw [if_neg h]
theorem runV_done (v : List Int) (a : Act) : (runV v a).done = actDone a (atV v a.src) (atV v a.dst) := rfl
theorem runV_yes {v : List Int} {a : Act} (h : actDone a (atV v a.src) (atV v a.dst) = true) : (runV v a).writes = (actWrites a).map fun k => ⟨k, wAt a (atV v a.src) (atV v a.dst) k⟩ := by
  show (if _ then _ else _) = _
  rw [if_pos h]
theorem runV_no {v : List Int} {a : Act} (h : actDone a (atV v a.src) (atV v a.dst) = false) : (runV v a).writes = [] := by
  show (if _ then _ else _) = _
  rw [if_neg (by simp [h])]
def bRow (base : Nat) (cs : Array Value) (v : Value) (w : World) : Prop := ∃ q, v = .slice (some ⟨q, 0, none⟩) 1 1 ∧ base ≤ q ∧ Blk w q 76 cs
theorem sb_Row (base : Nat) (cs : Array Value) : StB (bRow base cs) := fun _ _ _ hb ⟨q, h1, h2, h3⟩ => ⟨q, h1, h2, h3.new_ hb⟩
end Go.Proofs.Ytefdhlfljpppfaa
