/- When views begin that all fail. -/
import Derived.Test.YtefdhlfljpppfaaGreatViewsEl
import Derived.StillTailTactics
import Derived.Deep.RegionHeld3
import Derived.Deep.DrawnRows
namespace Go.Proofs.YtefdhlfljpppfaaGreat
open Go.RowKit
set_option linter.unusedVariables false
set_option linter.unusedSimpArgs false

attribute [local go_sem ↓] Go.wp_at_zero Go.wp_at_succ


def vAt (first : Int) : Nat → Int
  | 0 => 0
  | k + 1 => vAt first k + waitN first k
theorem vAt_bd (first : Int) (h1 : 1 ≤ first) (h2 : first ≤ 100000) (k : Nat) : 0 ≤ vAt first k ∧ vAt first k ≤ 100000 * k := by
  induction k with
  | zero => simp [vAt]
  | succ k ih => have := waitN_bd first h1 h2 k; simp only [vAt]; omega
def viewsN (first : Int) (k : Nat) : List Int := (List.range (k + 1)).map (vAt first)
theorem viewsN_length (first : Int) (k : Nat) : (viewsN first k).length = k + 1 := by simp [viewsN]
theorem viewsN_succ (first : Int) (k : Nat) : viewsN first (k + 1) = viewsN first k ++ [vAt first k + waitN first k] := by
  unfold viewsN
  rw [List.range_succ, List.map_append]
  rfl
theorem viewsN_get (first : Int) (k j : Nat) (h : j < (viewsN first k).length) : (viewsN first k)[j] = vAt first j := by simp [viewsN]
def viewsF (first many : Int) : List Int := if inB first 1 100000 && inB many 0 40 then viewsN first many.toNat else []
theorem viewsF_no {first many : Int} (h : inB first 1 100000 = false ∨ inB many 0 40 = false) : viewsF first many = [] := by
  unfold viewsF; rw [if_neg]; rcases h with h | h <;> simp [h]
theorem viewsF_yes {first many : Int} (h : inB first 1 100000 = true) (h' : inB many 0 40 = true) : viewsF first many = viewsN first many.toNat := by
  unfold viewsF; rw [if_pos (by simp [h, h'])]

end Go.Proofs.YtefdhlfljpppfaaGreat
