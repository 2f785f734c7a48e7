/- Contracts of small functions on numbers: ranges, leaders, waits. -/
import Derived.Test.YtefdhlfljpppfaaGreatProg
import Derived.Test.YtefdhlfljpppfaaGreatMem
import Derived.WalkLawsBesides
namespace Go.Proofs.YtefdhlfljpppfaaGreat
open Go.RowKit
set_option linter.unusedVariables false
set_option linter.unusedSimpArgs false

theorem int_info : (Tryz.prog.info? 3).map (fun i => (i.zero, i.size, i.bytes)) = some (some (.int .i64 0), 1, 8) := by kernel_rfl

theorem in_any (n lo hi : Int) (w : World) :
    Calls Tryz.prog 66 #[.int .i64 n, .int .i64 lo, .int .i64 hi] w fun e w' => e = .returned (.bool (inB n lo hi)) ∧ w = w' := by
  go_enter Tryz.func66, Tryz.ntmps66
  go_wp2
  all_goals go_ret
  all_goals exact ⟨retb (by simp [inB]; try omega), rfl⟩
theorem l1In_any (n lo hi : Int) (w : World) :
    Calls Tryz.prog 41 #[.int .i64 n, .int .i64 lo, .int .i64 hi] w fun e w' => e = .returned (.bool (inB n lo hi)) ∧ w = w' := by
  go_enter Tryz.func41, Tryz.ntmps41
  go_wp2
  all_goals go_ret
  all_goals exact ⟨retb (by simp [inB]; try omega), rfl⟩
theorem isView_any (n : Int) (w : World) :
    Calls Tryz.prog 90 #[.int .i64 n] w fun e w' => e = .returned (.bool (inB n 0 1000)) ∧ w = w' := by
  go_enter Tryz.func90, Tryz.ntmps90
  go_wp2_with (go_at_call 66; refine (in_any _ _ _ _).mono ?_; rintro e w' ⟨rfl, rfl⟩)
  all_goals go_ret
  all_goals exact ⟨rfl, rfl⟩
theorem isValue_any (n : Int) (w : World) :
    Calls Tryz.prog 128 #[.int .i64 n] w fun e w' => e = .returned (.bool (inB n 0 1000000)) ∧ w = w' := by
  go_enter Tryz.func128, Tryz.ntmps128
  go_wp2_with (go_at_call 66; refine (in_any _ _ _ _).mono ?_; rintro e w' ⟨rfl, rfl⟩)
  all_goals go_ret
  all_goals exact ⟨rfl, rfl⟩
theorem isKey_any (n : Int) (w : World) :
    Calls Tryz.prog 38 #[.int .i64 n] w fun e w' => e = .returned (.bool (inB n 0 31)) ∧ w = w' := by
  go_enter Tryz.func38, Tryz.ntmps38
  go_wp2_with (go_at_call 66; refine (in_any _ _ _ _).mono ?_; rintro e w' ⟨rfl, rfl⟩)
  all_goals go_ret
  all_goals exact ⟨rfl, rfl⟩
theorem isSummed_any (n : Int) (w : World) :
    Calls Tryz.prog 82 #[.int .i64 n] w fun e w' => e = .returned (.bool (inB n 0 2000000)) ∧ w = w' := by
  go_enter Tryz.func82, Tryz.ntmps82
  go_wp2_with (go_at_call 66; refine (in_any _ _ _ _).mono ?_; rintro e w' ⟨rfl, rfl⟩)
  all_goals go_ret
  all_goals exact ⟨rfl, rfl⟩
theorem isSum_any (n : Int) (w : World) :
    Calls Tryz.prog 89 #[.int .i64 n] w fun e w' => e = .returned (.bool (inB n 0 1000002)) ∧ w = w' := by
  go_enter Tryz.func89, Tryz.ntmps89
  go_wp2_with (go_at_call 66; refine (in_any _ _ _ _).mono ?_; rintro e w' ⟨rfl, rfl⟩)
  all_goals go_ret
  all_goals exact ⟨rfl, rfl⟩

def leaderF (n : Int) : Int := if inB n 0 1000 then n % 4 else -1

/-- how long is waited behind k views that failed -/
def waitN (first : Int) : Nat → Int
  | 0 => first
  | k + 1 => min (2 * waitN first k) 100000
theorem waitN_bd (first : Int) (h1 : 1 ≤ first) (h2 : first ≤ 100000) (k : Nat) : 1 ≤ waitN first k ∧ waitN first k ≤ 100000 := by
  induction k with
  | zero => exact ⟨h1, h2⟩
  | succ k ih => simp only [waitN]; omega
theorem waitN_stay (first : Int) (h1 : 1 ≤ first) (h2 : first ≤ 100000) (k j : Nat) (h : 100000 ≤ waitN first k) (hj : k ≤ j) : waitN first j = waitN first k := by
  induction hj with
  | refl => rfl
  | step hj ih => simp only [waitN, ih]; have := waitN_bd first h1 h2 k; omega
def waitF (first fails : Int) : Int := if inB first 1 100000 && decide (0 ≤ fails) then waitN first fails.toNat else -1
theorem waitF_yes {first fails : Int} (h1 : 1 ≤ first) (h2 : first ≤ 100000) (h3 : 0 ≤ fails) : waitF first fails = waitN first fails.toNat := by
  unfold waitF; rw [if_pos]; simp [inB, h1, h2, h3]
theorem waitF_no {first fails : Int} (h : inB first 1 100000 = false ∨ fails < 0) : waitF first fails = -1 := by
  unfold waitF; rw [if_neg]; rcases h with h | h
  · simp [h]
  · simp; omega

def nextF (view member : Int) : Int :=
  if inB view 0 1000 && inB member 0 3 then (if 1000 < view + (member - view) % 4 then -1 else view + (member - view) % 4) else -1
theorem nextF_no {view member : Int} (h : inB view 0 1000 = false ∨ inB member 0 3 = false) : nextF view member = -1 := by
  unfold nextF; rw [if_neg]; rcases h with h | h <;> simp [h]
theorem nextF_late {view member : Int} (h : 1000 < view + (member - view) % 4) : nextF view member = -1 := by
  unfold nextF; split <;> simp [h]
theorem nextF_yes {view member : Int} (h : inB view 0 1000 = true) (h' : inB member 0 3 = true) (hv : ¬ 1000 < view + (member - view) % 4) : nextF view member = view + (member - view) % 4 := by
  unfold nextF; rw [if_pos (by simp [h, h']), if_neg hv]
end Go.Proofs.YtefdhlfljpppfaaGreat
