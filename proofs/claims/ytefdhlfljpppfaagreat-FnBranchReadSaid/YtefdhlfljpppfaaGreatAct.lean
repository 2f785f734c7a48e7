/- Actions: ActionValid of impl and spec. -/
import Derived.Test.YtefdhlfljpppfaaGreatFlatAction
import Derived.Test.YtefdhlfljpppfaaGreatInts
namespace Go.Proofs.YtefdhlfljpppfaaGreat
open Go.RowKit
set_option linter.unusedVariables false
set_option linter.unusedSimpArgs false

def actK (a : Act) : Bool := if a.kind == 1 then a.dst == 0 else if a.kind == 6 then a.dst == 0 else if a.kind == 3 then a.amt == 0 else if a.kind == 4 then a.amt == 0 else if a.kind == 5 then a.amt == 0 else a.kind == 2
/-- a valid action -/
def actB (a : Act) : Bool := inB a.src 0 31 && (inB a.dst 0 31 && (inB a.amt 0 1000000 && actK a))
theorem actionValid_impl (x : Act) (w : World) :
    Calls Tryz.prog 123 #[.agg #[.int .i64 x.kind, .int .i64 x.src, .int .i64 x.dst, .int .i64 x.amt]] w fun e w' => e = .returned (.bool (actB x)) ∧ Below w.heap.size w w' := by
  cases h1 : inB x.src 0 31
  · have H := hide (show actB x = false by simp [actB, h1])
    go_enter Tryz.func123, Tryz.ntmps123
    go_wp2_with (go_at_call 38; refine (isKey_any _ _).mono ?_; rintro e w' ⟨rfl, rfl⟩)
    go_ret
    exact ⟨retb (unhide H).symm, (Below.refl _ _).alloc (Nat.le_refl _) _⟩
  · cases h2 : inB x.dst 0 31
    · have H := hide (show actB x = false by simp [actB, h2])
      go_enter Tryz.func123, Tryz.ntmps123
      go_wp2_with (go_at_call 38; refine (isKey_any _ _).mono ?_; rintro e w' ⟨rfl, rfl⟩)
      go_ret
      exact ⟨retb (unhide H).symm, (Below.refl _ _).alloc (Nat.le_refl _) _⟩
    · cases h3 : inB x.amt 0 1000000
      · have H := hide (show actB x = false by simp [actB, h3])
        go_enter Tryz.func123, Tryz.ntmps123
        go_wp2_with (first | (go_at_call 38; refine (isKey_any _ _).mono ?_; rintro e w' ⟨rfl, rfl⟩) | (go_at_call 128; refine (isValue_any _ _).mono ?_; rintro e w' ⟨rfl, rfl⟩))
        go_ret
        exact ⟨retb (unhide H).symm, (Below.refl _ _).alloc (Nat.le_refl _) _⟩
      · have H := hide (show actB x = actK x by simp [actB, h1, h2, h3])
        cases k1 : (x.kind == 1)
        · cases k6 : (x.kind == 6)
          · cases k3 : (x.kind == 3)
            · cases k4 : (x.kind == 4)
              · cases k5 : (x.kind == 5)
                · have H2 := hide (show actK x = (x.kind == 2) by simp [actK, k1, k6, k3, k4, k5])
                  cases k2 : (x.kind == 2)
                  all_goals
                    go_enter Tryz.func123, Tryz.ntmps123
                    go_wp2_with (first | (go_at_call 38; refine (isKey_any _ _).mono ?_; rintro e w' ⟨rfl, rfl⟩) | (go_at_call 128; refine (isValue_any _ _).mono ?_; rintro e w' ⟨rfl, rfl⟩))
                    go_ret
                    exact ⟨retb (by rw [unhide H, unhide H2, k2]), (Below.refl _ _).alloc (Nat.le_refl _) _⟩
                · have H2 := hide (show actK x = (x.amt == 0) by simp [actK, k1, k6, k3, k4, k5])
                  go_enter Tryz.func123, Tryz.ntmps123
                  have k2 : (x.kind == 2) = false := by rw [beq_iff_eq] at k5; rw [k5]; rfl
                  go_wp2_with (first | (go_at_call 38; refine (isKey_any _ _).mono ?_; rintro e w' ⟨rfl, rfl⟩) | (go_at_call 128; refine (isValue_any _ _).mono ?_; rintro e w' ⟨rfl, rfl⟩))
                  go_ret
                  exact ⟨retb (by rw [unhide H, unhide H2]), (Below.refl _ _).alloc (Nat.le_refl _) _⟩
              · have H2 := hide (show actK x = (x.amt == 0) by simp [actK, k1, k6, k3, k4])
                have k2 : (x.kind == 2) = false := by rw [beq_iff_eq] at k4; rw [k4]; rfl
                go_enter Tryz.func123, Tryz.ntmps123
                go_wp2_with (first | (go_at_call 38; refine (isKey_any _ _).mono ?_; rintro e w' ⟨rfl, rfl⟩) | (go_at_call 128; refine (isValue_any _ _).mono ?_; rintro e w' ⟨rfl, rfl⟩))
                go_ret
                exact ⟨retb (by rw [unhide H, unhide H2]), (Below.refl _ _).alloc (Nat.le_refl _) _⟩
            · have H2 := hide (show actK x = (x.amt == 0) by simp [actK, k1, k6, k3])
              have k2 : (x.kind == 2) = false := by rw [beq_iff_eq] at k3; rw [k3]; rfl
              go_enter Tryz.func123, Tryz.ntmps123
              go_wp2_with (first | (go_at_call 38; refine (isKey_any _ _).mono ?_; rintro e w' ⟨rfl, rfl⟩) | (go_at_call 128; refine (isValue_any _ _).mono ?_; rintro e w' ⟨rfl, rfl⟩))
              go_ret
              exact ⟨retb (by rw [unhide H, unhide H2]), (Below.refl _ _).alloc (Nat.le_refl _) _⟩
          · have H2 := hide (show actK x = (x.dst == 0) by simp [actK, k1, k6])
            go_enter Tryz.func123, Tryz.ntmps123
            go_wp2_with (first | (go_at_call 38; refine (isKey_any _ _).mono ?_; rintro e w' ⟨rfl, rfl⟩) | (go_at_call 128; refine (isValue_any _ _).mono ?_; rintro e w' ⟨rfl, rfl⟩))
            go_ret
            exact ⟨retb (by rw [unhide H, unhide H2]), (Below.refl _ _).alloc (Nat.le_refl _) _⟩
        · have H2 := hide (show actK x = (x.dst == 0) by simp [actK, k1])
          go_enter Tryz.func123, Tryz.ntmps123
          go_wp2_with (first | (go_at_call 38; refine (isKey_any _ _).mono ?_; rintro e w' ⟨rfl, rfl⟩) | (go_at_call 128; refine (isValue_any _ _).mono ?_; rintro e w' ⟨rfl, rfl⟩))
          go_ret
          exact ⟨retb (by rw [unhide H, unhide H2]), (Below.refl _ _).alloc (Nat.le_refl _) _⟩
theorem actionValid_spec (x : Act) (w : World) :
    Calls Tryz.prog 129 #[.agg #[.int .i64 x.kind, .int .i64 x.src, .int .i64 x.dst, .int .i64 x.amt]] w fun e w' => e = .returned (.bool (actB x)) ∧ Below w.heap.size w w' := by
  cases h1 : inB x.src 0 31
  · have H := hide (show actB x = false by simp [actB, h1])
    go_enter Tryz.func129, Tryz.ntmps129
    go_wp2_with (go_at_call 41; refine (l1In_any _ _ _ _).mono ?_; rintro e w' ⟨rfl, rfl⟩)
    go_ret
    exact ⟨retb (unhide H).symm, (Below.refl _ _).alloc (Nat.le_refl _) _⟩
  · cases h2 : inB x.dst 0 31
    · have H := hide (show actB x = false by simp [actB, h2])
      go_enter Tryz.func129, Tryz.ntmps129
      go_wp2_with (go_at_call 41; refine (l1In_any _ _ _ _).mono ?_; rintro e w' ⟨rfl, rfl⟩)
      go_ret
      exact ⟨retb (unhide H).symm, (Below.refl _ _).alloc (Nat.le_refl _) _⟩
    · cases h3 : inB x.amt 0 1000000
      · have H := hide (show actB x = false by simp [actB, h3])
        go_enter Tryz.func129, Tryz.ntmps129
        go_wp2_with (first | (go_at_call 41; refine (l1In_any _ _ _ _).mono ?_; rintro e w' ⟨rfl, rfl⟩) | (go_at_call 41; refine (l1In_any _ _ _ _).mono ?_; rintro e w' ⟨rfl, rfl⟩))
        go_ret
        exact ⟨retb (unhide H).symm, (Below.refl _ _).alloc (Nat.le_refl _) _⟩
      · have H := hide (show actB x = actK x by simp [actB, h1, h2, h3])
        cases k1 : (x.kind == 1)
        · cases k6 : (x.kind == 6)
          · cases k3 : (x.kind == 3)
            · cases k4 : (x.kind == 4)
              · cases k5 : (x.kind == 5)
                · have H2 := hide (show actK x = (x.kind == 2) by simp [actK, k1, k6, k3, k4, k5])
                  cases k2 : (x.kind == 2)
                  all_goals
                    go_enter Tryz.func129, Tryz.ntmps129
                    go_wp2_with (first | (go_at_call 41; refine (l1In_any _ _ _ _).mono ?_; rintro e w' ⟨rfl, rfl⟩) | (go_at_call 41; refine (l1In_any _ _ _ _).mono ?_; rintro e w' ⟨rfl, rfl⟩))
                    go_ret
                    exact ⟨retb (by rw [unhide H, unhide H2, k2]), (Below.refl _ _).alloc (Nat.le_refl _) _⟩
                · have H2 := hide (show actK x = (x.amt == 0) by simp [actK, k1, k6, k3, k4, k5])
                  go_enter Tryz.func129, Tryz.ntmps129
                  have k2 : (x.kind == 2) = false := by rw [beq_iff_eq] at k5; rw [k5]; rfl
                  go_wp2_with (first | (go_at_call 41; refine (l1In_any _ _ _ _).mono ?_; rintro e w' ⟨rfl, rfl⟩) | (go_at_call 41; refine (l1In_any _ _ _ _).mono ?_; rintro e w' ⟨rfl, rfl⟩))
                  go_ret
                  exact ⟨retb (by rw [unhide H, unhide H2]), (Below.refl _ _).alloc (Nat.le_refl _) _⟩
              · have H2 := hide (show actK x = (x.amt == 0) by simp [actK, k1, k6, k3, k4])
                have k2 : (x.kind == 2) = false := by rw [beq_iff_eq] at k4; rw [k4]; rfl
                go_enter Tryz.func129, Tryz.ntmps129
                go_wp2_with (first | (go_at_call 41; refine (l1In_any _ _ _ _).mono ?_; rintro e w' ⟨rfl, rfl⟩) | (go_at_call 41; refine (l1In_any _ _ _ _).mono ?_; rintro e w' ⟨rfl, rfl⟩))
                go_ret
                exact ⟨retb (by rw [unhide H, unhide H2]), (Below.refl _ _).alloc (Nat.le_refl _) _⟩
            · have H2 := hide (show actK x = (x.amt == 0) by simp [actK, k1, k6, k3])
              have k2 : (x.kind == 2) = false := by rw [beq_iff_eq] at k3; rw [k3]; rfl
              go_enter Tryz.func129, Tryz.ntmps129
              go_wp2_with (first | (go_at_call 41; refine (l1In_any _ _ _ _).mono ?_; rintro e w' ⟨rfl, rfl⟩) | (go_at_call 41; refine (l1In_any _ _ _ _).mono ?_; rintro e w' ⟨rfl, rfl⟩))
              go_ret
              exact ⟨retb (by rw [unhide H, unhide H2]), (Below.refl _ _).alloc (Nat.le_refl _) _⟩
          · have H2 := hide (show actK x = (x.dst == 0) by simp [actK, k1, k6])
            go_enter Tryz.func129, Tryz.ntmps129
            go_wp2_with (first | (go_at_call 41; refine (l1In_any _ _ _ _).mono ?_; rintro e w' ⟨rfl, rfl⟩) | (go_at_call 41; refine (l1In_any _ _ _ _).mono ?_; rintro e w' ⟨rfl, rfl⟩))
            go_ret
            exact ⟨retb (by rw [unhide H, unhide H2]), (Below.refl _ _).alloc (Nat.le_refl _) _⟩
        · have H2 := hide (show actK x = (x.dst == 0) by simp [actK, k1])
          go_enter Tryz.func129, Tryz.ntmps129
          go_wp2_with (first | (go_at_call 41; refine (l1In_any _ _ _ _).mono ?_; rintro e w' ⟨rfl, rfl⟩) | (go_at_call 41; refine (l1In_any _ _ _ _).mono ?_; rintro e w' ⟨rfl, rfl⟩))
          go_ret
          exact ⟨retb (by rw [unhide H, unhide H2]), (Below.refl _ _).alloc (Nat.le_refl _) _⟩
end Go.Proofs.YtefdhlfljpppfaaGreat
