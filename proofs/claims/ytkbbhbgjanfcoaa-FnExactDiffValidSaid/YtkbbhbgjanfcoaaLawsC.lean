/- The law FnExactDiffValid. -/
import Derived.Test.YtkbbhbgjanfcoaaFlatEntry
import Derived.Test.YtkbbhbgjanfcoaaOpenEnt
namespace Go.Proofs.Ytkbbhbgjanfcoaa
open Go.RowKit
set_option linter.unusedVariables false
set_option linter.unusedSimpArgs false

theorem law_FnExactDiffValid (A : Option Addr) (c : Nat) (xs : List Ent) (w : World) (h : Rd w A (xs.flatMap encE)) (hw : ∀ n ∈ xs, n.wf) (hm : xs.length ≤ maxLen) :
    Calls Try.prog 7 #[.slice A xs.length c] w fun e w' => e = .returned (.bool true) ∧ Below w.heap.size w w' := by
  clear hw
  have hm2 : xs.length ≤ 9223372036854775807 := by simpa [maxLen] using hm
  clear hm
  by_cases hl : (xs.length : Int) ≤ 1048576
  · have hl2 : xs.length ≤ 4611686018427387904 := by omega
    have hl1 : xs.length ≤ 1048576 := by omega
    have g0 : 0 ≤ (1048576 : Int) - xs.length := by omega
    have HI := hide (show (if (xs.length : Int) ≤ 1048576 then (1048576 : Int) - xs.length else -1) = (1048576 : Int) - xs.length from if_pos hl)
    clear hl
    go_enter Try.func7, Try.ntmps7
    go_wp2_with fail
    refine (szEntryS_any A xs.length c _ w hm2 (by omega) (by omega)).mono ?_
    rintro e w' ⟨rfl, rfl⟩
    rw [unhide HI]
    go_wp2_with fail
    refine (toEntryS_any A c xs w hl1 h).mono ?_
    rintro e w1 ⟨A1, c1, rfl, o1, b1⟩
    go_wp2_with fail
    refine (diffB_diff_spec A1 c1 xs w1 (own_rd o1) hl2).mono ?_
    rintro e w' ⟨rfl, m, rfl⟩
    go_wp2_with fail
    refine (toEntryS_any A c xs _ hl1 ((h.new b1).drewN m)).mono ?_
    rintro e w2 ⟨A2, c2, rfl, o2, b2⟩
    go_wp2_with fail
    refine (diffB_impl A2 c2 xs w2 (own_rd o2) hl2).mono ?_
    rintro e w3 ⟨rfl, b3⟩
    have b123 := bthen (bthen (below_drewN b1 m) b2) b3
    go_wp2_with fail
    refine (toEntryS_any A c xs w3 hl1 (h.new b123)).mono ?_
    rintro e w4 ⟨A4, c4, rfl, o4, b4⟩
    go_wp2_with fail
    refine (eqEntryS_any A2 A4 c2 c4 xs xs w4 (((own_rd o2).new b3).new b4) (own_rd o4) hl2).mono ?_
    rintro e w5 ⟨rfl, b5⟩
    have b5' := bthen (bthen b123 b4) b5
    go_wp2
    go_ret
    exact ⟨rfl, b5'⟩
  · have HI := hide (show (if (xs.length : Int) ≤ 1048576 then (1048576 : Int) - xs.length else -1) = -1 from if_neg hl)
    clear hl
    go_enter Try.func7, Try.ntmps7
    go_wp2_with fail
    refine (szEntryS_any A xs.length c _ w hm2 (by omega) (by omega)).mono ?_
    rintro e w' ⟨rfl, rfl⟩
    rw [unhide HI]
    go_wp2
    go_ret
    exact ⟨rfl, Below.refl _ _⟩
end Go.Proofs.Ytkbbhbgjanfcoaa
