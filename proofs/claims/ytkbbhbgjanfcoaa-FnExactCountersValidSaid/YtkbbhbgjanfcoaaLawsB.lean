/- The law FnExactCountersValid. -/
import Derived.Test.YtkbbhbgjanfcoaaFuncI
namespace Go.Proofs.Ytkbbhbgjanfcoaa
open Go.RowKit
set_option linter.unusedVariables false
set_option linter.unusedSimpArgs false

theorem law_FnExactCountersValid (A : Option Addr) (c : Nat) (xs : List Int) (w : World) (h : Rd w A (xs.map (.int .i64))) (hw : ∀ n ∈ xs, -9223372036854775808 ≤ n ∧ n ≤ 9223372036854775807) (hm : xs.length ≤ maxLen) :
    Calls Try.prog 6 #[.slice A xs.length c] w fun e w' => e = .returned (.bool true) ∧ Below w.heap.size w w' := by
  clear hw
  by_cases hl : xs.length ≤ 1048576
  · have hl2 : xs.length ≤ 4611686018427387904 := by omega
    clear hm
    go_enter Try.func6, Try.ntmps6
    go_wp2_with fail
    refine (toIntS_any A c xs w hl h).mono ?_
    rintro e w1 ⟨A1, c1, rfl, o1, b1⟩
    go_wp2_with fail
    refine (counters_spec A1 c1 xs w1 (own_rd o1) hl2).mono ?_
    rintro e w' ⟨rfl, rfl⟩
    go_wp2_with fail
    refine (toIntS_any A c xs w1 hl (h.new b1)).mono ?_
    rintro e w2 ⟨A2, c2, rfl, o2, b2⟩
    go_wp2_with fail
    refine (counters_impl A2 c2 xs w2 (own_rd o2) hl2).mono ?_
    rintro e w' ⟨rfl, rfl⟩
    go_wp2_with fail
    refine (toIntS_any A c xs w2 hl ((h.new b1).new b2)).mono ?_
    rintro e w3 ⟨A3, c3, rfl, o3, b3⟩
    go_wp2_with fail
    refine (eqIntS_any A2 A3 c2 c3 xs xs w3 ((own_rd o2).new b3) (own_rd o3) hl2).mono ?_
    rintro e w' ⟨rfl, m, rfl⟩
    go_wp2
    go_ret
    exact ⟨rfl, below_drewN (bthen (bthen b1 b2) b3) m⟩
  · have hl2 : (1048576 : Int) < (xs.length : Int) := by omega
    simp only [maxLen] at hm
    go_enter Try.func6, Try.ntmps6
    go_wp2
    go_ret
    exact ⟨rfl, Below.refl _ _⟩
end Go.Proofs.Ytkbbhbgjanfcoaa
