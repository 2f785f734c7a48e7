/- Contracts of small functions on numbers: ranges, leaders, waits. -/
import Derived.Test.YtkbbhbgjanfcoaaProg
import Derived.Test.YtkbbhbgjanfcoaaMem
import Derived.WalkLawsBesides
namespace Go.Proofs.Ytkbbhbgjanfcoaa
open Go.RowKit
set_option linter.unusedVariables false
set_option linter.unusedSimpArgs false

theorem int_info : (Try.prog.info? 3).map (fun i => (i.zero, i.size, i.bytes)) = some (some (.int .i64 0), 1, 8) := by kernel_rfl

theorem in_any (n lo hi : Int) (w : World) :
    Calls Try.prog 44 #[.int .i64 n, .int .i64 lo, .int .i64 hi] w fun e w' => e = .returned (.bool (inB n lo hi)) ∧ w = w' := by
  go_enter Try.func44, Try.ntmps44
  go_wp2
  all_goals go_ret
  all_goals exact ⟨retb (by simp [inB]; try omega), rfl⟩
theorem l1In_any (n lo hi : Int) (w : World) :
    Calls Try.prog 42 #[.int .i64 n, .int .i64 lo, .int .i64 hi] w fun e w' => e = .returned (.bool (inB n lo hi)) ∧ w = w' := by
  go_enter Try.func42, Try.ntmps42
  go_wp2
  all_goals go_ret
  all_goals exact ⟨retb (by simp [inB]; try omega), rfl⟩
theorem isView_any (n : Int) (w : World) :
    Calls Try.prog 43 #[.int .i64 n] w fun e w' => e = .returned (.bool (inB n 0 1000)) ∧ w = w' := by
  go_enter Try.func43, Try.ntmps43
  go_wp2_with (go_at_call 44; refine (in_any _ _ _ _).mono ?_; rintro e w' ⟨rfl, rfl⟩)
  all_goals go_ret
  all_goals exact ⟨rfl, rfl⟩
theorem isMember_any (n : Int) (w : World) :
    Calls Try.prog 45 #[.int .i64 n] w fun e w' => e = .returned (.bool (inB n 0 3)) ∧ w = w' := by
  go_enter Try.func45, Try.ntmps45
  go_wp2_with (go_at_call 44; refine (in_any _ _ _ _).mono ?_; rintro e w' ⟨rfl, rfl⟩)
  all_goals go_ret
  all_goals exact ⟨rfl, rfl⟩
theorem isValue_any (n : Int) (w : World) :
    Calls Try.prog 48 #[.int .i64 n] w fun e w' => e = .returned (.bool (inB n 0 1000000)) ∧ w = w' := by
  go_enter Try.func48, Try.ntmps48
  go_wp2_with (go_at_call 44; refine (in_any _ _ _ _).mono ?_; rintro e w' ⟨rfl, rfl⟩)
  all_goals go_ret
  all_goals exact ⟨rfl, rfl⟩
theorem isSummed_any (n : Int) (w : World) :
    Calls Try.prog 61 #[.int .i64 n] w fun e w' => e = .returned (.bool (inB n 0 2000000)) ∧ w = w' := by
  go_enter Try.func61, Try.ntmps61
  go_wp2_with (go_at_call 44; refine (in_any _ _ _ _).mono ?_; rintro e w' ⟨rfl, rfl⟩)
  all_goals go_ret
  all_goals exact ⟨rfl, rfl⟩

def leaderF (n : Int) : Int := if inB n 0 1000 then n % 4 else -1
theorem leader_impl (n : Int) (w : World) :
    Calls Try.prog 16 #[.int .i64 n] w fun e w' => e = .returned (.int .i64 (leaderF n)) ∧ w = w' := by
  cases h : inB n 0 1000
  · go_enter Try.func16, Try.ntmps16
    go_wp2_with (go_at_call 43; refine (isView_any _ _).mono ?_; rintro e w' ⟨rfl, rfl⟩)
    all_goals go_ret
    all_goals exact ⟨reti (by simp [leaderF, h]), rfl⟩
  · obtain ⟨h1, h2⟩ := inB_true.1 h
    go_enter Try.func16, Try.ntmps16
    go_wp2_with (go_at_call 43; refine (isView_any _ _).mono ?_; rintro e w' ⟨rfl, rfl⟩)
    all_goals go_ret
    all_goals exact ⟨reti (by simp [leaderF, h]), rfl⟩
theorem leader_spec (n : Int) (w : World) :
    Calls Try.prog 15 #[.int .i64 n] w fun e w' => e = .returned (.int .i64 (leaderF n)) ∧ w = w' := by
  cases h : inB n 0 1000
  · go_enter Try.func15, Try.ntmps15
    go_wp2_with (go_at_call 42; refine (l1In_any _ _ _ _).mono ?_; rintro e w' ⟨rfl, rfl⟩)
    all_goals go_ret
    all_goals exact ⟨reti (by simp [leaderF, h]), rfl⟩
  · obtain ⟨h1, h2⟩ := inB_true.1 h
    go_enter Try.func15, Try.ntmps15
    go_wp2_with (go_at_call 42; refine (l1In_any _ _ _ _).mono ?_; rintro e w' ⟨rfl, rfl⟩)
    all_goals go_ret
    all_goals exact ⟨reti (by simp [leaderF, h]), rfl⟩

/-- how long is waited behind k views that failed -/
def waitN (first : Int) : Nat → Int
  | 0 => first
  | k + 1 => min (2 * waitN first k) 100000
theorem waitN_bd (first : Int) (h1 : 1 ≤ first) (h2 : first ≤ 100000) (k : Nat) : 1 ≤ waitN first k ∧ waitN first k ≤ 100000 := by
  induction k with
  | zero => exact ⟨h1, h2⟩
  | succ k ih => simp only [waitN]; omega
theorem waitN_stay (first : Int) (h1 : 1 ≤ first) (h2 : first ≤ 100000) (k j : Nat) (h : 100000 ≤ waitN first k) (hj : k ≤ j) : waitN first j = waitN first k := by
  induction hj with
  | refl => rfl
  | step hj ih => simp only [waitN, ih]; have := waitN_bd first h1 h2 k; omega
def waitF (first fails : Int) : Int := if inB first 1 100000 && decide (0 ≤ fails) then waitN first fails.toNat else -1
theorem waitF_yes {first fails : Int} (h1 : 1 ≤ first) (h2 : first ≤ 100000) (h3 : 0 ≤ fails) : waitF first fails = waitN first fails.toNat := by
  unfold waitF; rw [if_pos]; simp [inB, h1, h2, h3]
theorem waitF_no {first fails : Int} (h : inB first 1 100000 = false ∨ fails < 0) : waitF first fails = -1 := by
  unfold waitF; rw [if_neg]; rcases h with h | h
  · simp [h]
  · simp; omega
theorem wait_impl (first fails : Int) (hf : fails ≤ 9223372036854775807) (w : World) :
    Calls Try.prog 18 #[.int .i64 first, .int .i64 fails] w fun e w' => e = .returned (.int .i64 (waitF first fails)) ∧ w = w' := by
  cases h : inB first 1 100000
  · go_enter Try.func18, Try.ntmps18
    go_wp2_with (go_at_call 44; refine (in_any _ _ _ _).mono ?_; rintro e w' ⟨rfl, rfl⟩)
    all_goals go_ret
    all_goals exact ⟨reti (waitF_no (.inl h)).symm, rfl⟩
  · by_cases h0 : fails < 0
    · go_enter Try.func18, Try.ntmps18
      go_wp2_with (go_at_call 44; refine (in_any _ _ _ _).mono ?_; rintro e w' ⟨rfl, rfl⟩)
      all_goals go_ret
      all_goals exact ⟨reti (waitF_no (.inr h0)).symm, rfl⟩
    · obtain ⟨h1, h2⟩ := inB_true.1 h
      have h0' : 0 ≤ fails := by omega
      go_enter Try.func18, Try.ntmps18
      go_wp2_with (go_at_call 44; refine (in_any _ _ _ _).mono ?_; rintro e w' ⟨rfl, rfl⟩)
      go_loop [5, 6] (fun t i => ∃ k : Nat, (k : Int) ≤ fails ∧ i = .int .i64 k ∧ t = .int .i64 (waitN first k)) (fun _ i => (fails - intOf i).toNat)
      case atStart => exact ⟨0, by omega, rfl, rfl⟩
      case round =>
        obtain ⟨k, hk, rfl, rfl⟩ := hrel
        obtain ⟨b1, b2⟩ := waitN_bd first h1 h2 k
        by_cases hlt : (k : Int) < fails
        · by_cases hm : waitN first k < 100000
          · go_wp2
            all_goals
              go_round
              case rel => exact ⟨k + 1, by omega, by go_num, by simp only [waitN]; first | rfl | (congr 1; omega)⟩
              case measure => simp [intOf]; omega
          · go_wp2
            go_ret
            exact ⟨reti (by rw [waitF_yes h1 h2 h0']; exact (waitN_stay first h1 h2 k _ (by omega) (by omega)).symm), rfl⟩
        · go_wp2
          go_ret
          exact ⟨reti (by rw [waitF_yes h1 h2 h0']; congr 1; omega), rfl⟩
theorem wait_spec (first fails : Int) (hf : fails ≤ 9223372036854775807) (w : World) :
    Calls Try.prog 17 #[.int .i64 first, .int .i64 fails] w fun e w' => e = .returned (.int .i64 (waitF first fails)) ∧ w = w' := by
  cases h : inB first 1 100000
  · go_enter Try.func17, Try.ntmps17
    go_wp2_with (go_at_call 42; refine (l1In_any _ _ _ _).mono ?_; rintro e w' ⟨rfl, rfl⟩)
    all_goals go_ret
    all_goals exact ⟨reti (waitF_no (.inl h)).symm, rfl⟩
  · by_cases h0 : fails < 0
    · go_enter Try.func17, Try.ntmps17
      go_wp2_with (go_at_call 42; refine (l1In_any _ _ _ _).mono ?_; rintro e w' ⟨rfl, rfl⟩)
      all_goals go_ret
      all_goals exact ⟨reti (waitF_no (.inr h0)).symm, rfl⟩
    · obtain ⟨h1, h2⟩ := inB_true.1 h
      have h0' : 0 ≤ fails := by omega
      go_enter Try.func17, Try.ntmps17
      go_wp2_with (go_at_call 42; refine (l1In_any _ _ _ _).mono ?_; rintro e w' ⟨rfl, rfl⟩)
      go_loop [5, 6] (fun t i => ∃ k : Nat, (k : Int) ≤ fails ∧ i = .int .i64 k ∧ t = .int .i64 (waitN first k)) (fun _ i => (fails - intOf i).toNat)
      case atStart => exact ⟨0, by omega, rfl, rfl⟩
      case round =>
        obtain ⟨k, hk, rfl, rfl⟩ := hrel
        obtain ⟨b1, b2⟩ := waitN_bd first h1 h2 k
        by_cases hlt : (k : Int) < fails
        · by_cases hm : waitN first k < 100000
          · go_wp2
            all_goals
              go_round
              case rel => exact ⟨k + 1, by omega, by go_num, by simp only [waitN]; first | rfl | (congr 1; omega)⟩
              case measure => simp [intOf]; omega
          · go_wp2
            go_ret
            exact ⟨reti (by rw [waitF_yes h1 h2 h0']; exact (waitN_stay first h1 h2 k _ (by omega) (by omega)).symm), rfl⟩
        · go_wp2
          go_ret
          exact ⟨reti (by rw [waitF_yes h1 h2 h0']; congr 1; omega), rfl⟩

def nextF (view member : Int) : Int :=
  if inB view 0 1000 && inB member 0 3 then (if 1000 < view + (member - view) % 4 then -1 else view + (member - view) % 4) else -1
theorem nextF_no {view member : Int} (h : inB view 0 1000 = false ∨ inB member 0 3 = false) : nextF view member = -1 := by
  unfold nextF; rw [if_neg]; rcases h with h | h <;> simp [h]
theorem nextF_late {view member : Int} (h : 1000 < view + (member - view) % 4) : nextF view member = -1 := by
  unfold nextF; split <;> simp [h]
theorem nextF_yes {view member : Int} (h : inB view 0 1000 = true) (h' : inB member 0 3 = true) (hv : ¬ 1000 < view + (member - view) % 4) : nextF view member = view + (member - view) % 4 := by
  unfold nextF; rw [if_pos (by simp [h, h']), if_neg hv]
theorem next_impl (view member : Int) (w : World) :
    Calls Try.prog 20 #[.int .i64 view, .int .i64 member] w fun e w' => e = .returned (.int .i64 (nextF view member)) ∧ w = w' := by
  cases h : inB view 0 1000
  · go_enter Try.func20, Try.ntmps20
    go_wp2_with (go_at_call 43; refine (isView_any _ _).mono ?_; rintro e w' ⟨rfl, rfl⟩)
    all_goals go_ret
    all_goals exact ⟨reti (nextF_no (.inl h)).symm, rfl⟩
  · cases h' : inB member 0 3
    · go_enter Try.func20, Try.ntmps20
      go_wp2_with (first | (go_at_call 43; refine (isView_any _ _).mono ?_; rintro e w' ⟨rfl, rfl⟩) | (go_at_call 45; refine (isMember_any _ _).mono ?_; rintro e w' ⟨rfl, rfl⟩))
      all_goals go_ret
      all_goals exact ⟨reti (nextF_no (.inr h')).symm, rfl⟩
    · obtain ⟨h1, h2⟩ := inB_true.1 h
      obtain ⟨h3, h4⟩ := inB_true.1 h'
      go_enter Try.func20, Try.ntmps20
      go_wp2_with (first | (go_at_call 43; refine (isView_any _ _).mono ?_; rintro e w' ⟨rfl, rfl⟩) | (go_at_call 45; refine (isMember_any _ _).mono ?_; rintro e w' ⟨rfl, rfl⟩))
      have H := hide h
      have H' := hide h'
      clear h h'
      go_loop [0] (fun v => ∃ k : Int, 0 ≤ k ∧ k ≤ (member - view) % 4 ∧ v = .int .i64 (view + k)) (fun v => (view + 4 - intOf v).toNat)
      case atStart => exact ⟨0, by omega, by omega, by simp⟩
      case round =>
        obtain ⟨k, hk0, hk, rfl⟩ := hrel
        by_cases hv : 1000 < view + k
        · go_wp2
          go_ret
          exact ⟨reti (nextF_late (by omega)).symm, rfl⟩
        · by_cases hm : (view + k) % 4 = member
          · have hd : ((view + k) % 4 != member) = false := by simp [hm]
            have HM := hide hm
            clear hm
            go_wp2
            go_ret
            exact ⟨reti (by have := unhide HM; rw [nextF_yes (unhide H) (unhide H') (by omega)]; omega), rfl⟩
          · have hd : ((view + k) % 4 != member) = true := by simp [hm]
            go_wp2
            go_round
            case rel => exact ⟨k + 1, by omega, by omega, by go_num⟩
            case measure => simp [intOf]; omega
theorem next_spec (view member : Int) (w : World) :
    Calls Try.prog 19 #[.int .i64 view, .int .i64 member] w fun e w' => e = .returned (.int .i64 (nextF view member)) ∧ w = w' := by
  cases h : inB view 0 1000
  · go_enter Try.func19, Try.ntmps19
    go_wp2_with (go_at_call 42; refine (l1In_any _ _ _ _).mono ?_; rintro e w' ⟨rfl, rfl⟩)
    all_goals go_ret
    all_goals exact ⟨reti (nextF_no (.inl h)).symm, rfl⟩
  · cases h' : inB member 0 3
    · go_enter Try.func19, Try.ntmps19
      go_wp2_with (go_at_call 42; refine (l1In_any _ _ _ _).mono ?_; rintro e w' ⟨rfl, rfl⟩)
      all_goals go_ret
      all_goals exact ⟨reti (nextF_no (.inr h')).symm, rfl⟩
    · obtain ⟨h1, h2⟩ := inB_true.1 h
      obtain ⟨h3, h4⟩ := inB_true.1 h'
      go_enter Try.func19, Try.ntmps19
      go_wp2_with (go_at_call 42; refine (l1In_any _ _ _ _).mono ?_; rintro e w' ⟨rfl, rfl⟩)
      have H := hide h
      have H' := hide h'
      clear h h'
      go_loop [0] (fun v => ∃ k : Int, 0 ≤ k ∧ k ≤ (member - view) % 4 ∧ view + k ≤ 1000 ∧ v = .int .i64 (view + k)) (fun v => (view + 4 - intOf v).toNat)
      case atStart => exact ⟨0, by omega, by omega, by omega, by simp⟩
      case round =>
        obtain ⟨k, hk0, hk, hv, rfl⟩ := hrel
        have HL := hide (show leaderF (view + k) = (view + k) % 4 by unfold leaderF; rw [if_pos (inB_true.2 (by omega))])
        by_cases hm : (view + k) % 4 = member
        · have hd : ((view + k) % 4 != member) = false := by simp [hm]
          have HM := hide hm
          clear hm
          go_wp2_with (go_at_call 15; refine (leader_spec _ _).mono ?_; rintro e w' ⟨rfl, rfl⟩; rw [unhide HL])
          go_ret
          exact ⟨reti (by have := unhide HM; rw [nextF_yes (unhide H) (unhide H') (by omega)]; omega), rfl⟩
        · have hd : ((view + k) % 4 != member) = true := by simp [hm]
          by_cases hl : 1000 < view + k + 1
          · go_wp2_with (go_at_call 15; refine (leader_spec _ _).mono ?_; rintro e w' ⟨rfl, rfl⟩; rw [unhide HL])
            go_ret
            exact ⟨reti (nextF_late (by omega)).symm, rfl⟩
          · go_wp2_with (go_at_call 15; refine (leader_spec _ _).mono ?_; rintro e w' ⟨rfl, rfl⟩; rw [unhide HL])
            go_round
            case rel => exact ⟨k + 1, by omega, by omega, by omega, by go_num⟩
            case measure => simp [intOf]; omega
end Go.Proofs.Ytkbbhbgjanfcoaa
