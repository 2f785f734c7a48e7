/- The laws FnLeaderOf, FnWaitTime, FnNextLed. -/
import Derived.Test.YtkbbhbgjanfcoaaDrawB
import Derived.Test.YtkbbhbgjanfcoaaSums
namespace Go.Proofs.Ytkbbhbgjanfcoaa
open Go.RowKit
set_option linter.unusedVariables false
set_option linter.unusedSimpArgs false

theorem law_FnLeaderOf (A : Option Addr) (c : Nat) (bs : List Int) (w : World) (h : Rd w A (bs.map (.int .u8))) (hw : ∀ b ∈ bs, 0 ≤ b ∧ b ≤ 255) (hc : bs.length ≤ c) (hm : c ≤ maxLen) :
    Calls Try.prog 8 #[.slice A bs.length c] w fun e w' => e = .returned (.bool true) ∧ Below w.heap.size w w' := by
  have hm2 : bs.length ≤ 9223372036854775807 := by simp only [maxLen] at hm; omega
  by_cases hl : (1048576 : Int) < (bs.length : Int)
  · clear hw
    go_enter Try.func8, Try.ntmps8
    go_wp2
    go_ret
    exact ⟨rfl, Below.refl _ _⟩
  · have HW := hide hw
    have HC := hide hc
    have HM := hide hm
    clear hw hc hm
    go_enter Try.func8, Try.ntmps8
    go_wp2_with fail
    refine (drawLeader_any A c bs w h (unhide HW) (unhide HC) (unhide HM)).mono ?_
    rintro e w1 ⟨v, hv1, hv2, rfl, b1⟩
    cases hv : inB v 0 1000
    · have HL := hide (show leaderF v = -1 by simp [leaderF, hv])
      clear hv
      go_wp2_with (first | (go_at_call 16; refine (leader_impl _ _).mono ?_; rintro e w' ⟨rfl, rfl⟩; rw [unhide HL]) | (go_at_call 15; refine (leader_spec _ _).mono ?_; rintro e w' ⟨rfl, rfl⟩; rw [unhide HL]) | (go_at_call 31; refine (alive_any _).mono ?_; rintro e w2 ⟨rfl, b2⟩))
      go_ret
      exact ⟨rfl, bthen b1 b2⟩
    · have hvb := inB_true.1 hv
      have HL := hide (show ∀ z, 0 ≤ z → z ≤ 1000 → leaderF z = z % 4 by intro z z1 z2; unfold leaderF; rw [if_pos (inB_true.2 ⟨z1, z2⟩)])
      clear hv
      have HL0 := hide (unhide HL v hvb.1 hvb.2)
      by_cases hb : 1000 < v + 4
      · go_wp2_with (first | (go_at_call 16; refine (leader_impl _ _).mono ?_; rintro e w' ⟨rfl, rfl⟩; rw [unhide HL0]) | (go_at_call 15; refine (leader_spec _ _).mono ?_; rintro e w' ⟨rfl, rfl⟩; rw [unhide HL0]) | (go_at_call 31; refine (alive_any _).mono ?_; rintro e w2 ⟨rfl, b2⟩))
        go_ret
        exact ⟨rfl, bthen b1 b2⟩
      · go_wp2_with (first | (go_at_call 16; refine (leader_impl _ _).mono ?_; rintro e w' ⟨rfl, rfl⟩; rw [unhide HL0]) | (go_at_call 15; refine (leader_spec _ _).mono ?_; rintro e w' ⟨rfl, rfl⟩; rw [unhide HL0]))
        go_loop [5] (fun i => ∃ k : Nat, 1 ≤ k ∧ k ≤ 4 ∧ i = .int .i64 k) (fun i => 4 - (intOf i).toNat)
        case atStart => exact ⟨1, by omega, by omega, rfl⟩
        case round =>
          obtain ⟨k, hk1, hk, rfl⟩ := hrel
          by_cases hlt : k < 4
          · have HLk := hide (unhide HL (v + k) (by omega) (by omega))
            have hne : ((v + (k : Int)) % 4 == v % 4) = false := by rw [beq_eq_false_iff_ne]; omega
            go_wp2_with (go_at_call 16; refine (leader_impl _ _).mono ?_; rintro e w' ⟨rfl, rfl⟩; rw [unhide HLk])
            go_round
            case rel => exact ⟨k + 1, by omega, by omega, by go_num⟩
            case measure => simp [intOf]; omega
          · have HL4 := hide (unhide HL (v + 4) (by omega) (by omega))
            have heq : ((v + 4) % 4 == v % 4) = true := by rw [beq_iff_eq]; omega
            go_wp2_with (go_at_call 16; refine (leader_impl _ _).mono ?_; rintro e w' ⟨rfl, rfl⟩; rw [unhide HL4])
            go_ret
            exact ⟨retb (by first | rfl | assumption | simp), b1⟩
theorem waitN_first (first : Int) (h1 : 1 ≤ first) (h2 : first ≤ 100000) (k : Nat) : first ≤ waitN first k := by
  induction k with
  | zero => exact Int.le_refl _
  | succ k ih => have := waitN_bd first h1 h2 k; simp only [waitN]; omega
theorem law_FnWaitTime (A : Option Addr) (c : Nat) (bs : List Int) (w : World) (h : Rd w A (bs.map (.int .u8))) (hw : ∀ b ∈ bs, 0 ≤ b ∧ b ≤ 255) (hc : bs.length ≤ c) (hm : c ≤ maxLen) :
    Calls Try.prog 10 #[.slice A bs.length c] w fun e w' => e = .returned (.bool true) ∧ Below w.heap.size w w' := by
  have hm2 : bs.length ≤ 9223372036854775807 := by simp only [maxLen] at hm; omega
  by_cases hl : (1048576 : Int) < (bs.length : Int)
  · clear hw
    go_enter Try.func10, Try.ntmps10
    go_wp2
    go_ret
    exact ⟨rfl, Below.refl _ _⟩
  · have HW := hide hw
    have HC := hide hc
    have HM := hide hm
    clear hw hc hm
    go_enter Try.func10, Try.ntmps10
    go_wp2_with fail
    refine (drawWait_any A c bs w h (unhide HW) (unhide HC) (unhide HM)).mono ?_
    rintro e w1 ⟨v, u, hv1, hv2, hu1, hu2, rfl, b1⟩
    by_cases hb : inB v 1 100000 = false ∨ u < 0
    · have HL := hide (waitF_no hb)
      clear hb
      go_wp2_with (first | (go_at_call 18; refine (wait_impl _ _ (by omega) _).mono ?_; rintro e w' ⟨rfl, rfl⟩; rw [unhide HL]) | (go_at_call 17; refine (wait_spec _ _ (by omega) _).mono ?_; rintro e w' ⟨rfl, rfl⟩; rw [unhide HL]) | (go_at_call 31; refine (alive_any _).mono ?_; rintro e w2 ⟨rfl, b2⟩))
      go_ret
      exact ⟨rfl, bthen b1 b2⟩
    · have hvi : inB v 1 100000 = true := by cases hv : inB v 1 100000 <;> simp_all
      have hu0 : 0 ≤ u := by omega
      have hvb := inB_true.1 hvi
      clear hb hvi
      have HL1 := hide (waitF_yes hvb.1 hvb.2 hu0)
      have HL2 := hide (waitF_yes hvb.1 hvb.2 (show 0 ≤ u + 1 by omega))
      have HL3 := hide (show waitF v 0 = v from waitF_yes hvb.1 hvb.2 (Int.le_refl 0))
      have hs : (u + 1).toNat = u.toNat + 1 := by omega
      have p1 := waitN_bd v hvb.1 hvb.2 u.toNat
      have p2 := waitN_first v hvb.1 hvb.2 u.toNat
      have p3 : waitN v (u + 1).toNat = min (2 * waitN v u.toNat) 100000 := by rw [hs]; rfl
      generalize waitN v u.toNat = n at *
      generalize waitN v (u + 1).toNat = m at *
      have p4 : n ≤ m := by omega
      have p5 : m ≤ 2 * n := by omega
      clear p3 hs
      go_wp2_with fail
      refine (wait_impl _ _ (by omega) _).mono ?_
      rintro e w' ⟨rfl, rfl⟩
      rw [unhide HL1]
      go_wp2_with fail
      refine (wait_spec _ _ (by omega) _).mono ?_
      rintro e w' ⟨rfl, rfl⟩
      rw [unhide HL1]
      go_wp2_with fail
      refine (wait_impl _ _ (by omega) _).mono ?_
      rintro e w' ⟨rfl, rfl⟩
      rw [unhide HL2]
      go_wp2_with fail
      refine (wait_impl _ _ (by omega) _).mono ?_
      rintro e w' ⟨rfl, rfl⟩
      rw [unhide HL3]
      go_wp2
      go_ret
      exact ⟨retb (by first | rfl | simp), b1⟩
theorem law_FnNextLed (A : Option Addr) (c : Nat) (bs : List Int) (w : World) (h : Rd w A (bs.map (.int .u8))) (hw : ∀ b ∈ bs, 0 ≤ b ∧ b ≤ 255) (hc : bs.length ≤ c) (hm : c ≤ maxLen) :
    Calls Try.prog 12 #[.slice A bs.length c] w fun e w' => e = .returned (.bool true) ∧ Below w.heap.size w w' := by
  have hm2 : bs.length ≤ 9223372036854775807 := by simp only [maxLen] at hm; omega
  by_cases hl : (1048576 : Int) < (bs.length : Int)
  · clear hw
    go_enter Try.func12, Try.ntmps12
    go_wp2
    go_ret
    exact ⟨rfl, Below.refl _ _⟩
  · have HW := hide hw
    have HC := hide hc
    have HM := hide hm
    clear hw hc hm
    go_enter Try.func12, Try.ntmps12
    go_wp2_with fail
    refine (drawNext_any A c bs w h (unhide HW) (unhide HC) (unhide HM)).mono ?_
    rintro e w1 ⟨v, u, hv1, hv2, hu1, hu2, rfl, b1⟩
    by_cases hb : inB v 0 1000 = true ∧ inB u 0 3 = true ∧ ¬ 1000 < v + (u - v) % 4
    · obtain ⟨hb1, hb2, hb3⟩ := hb
      have hvb := inB_true.1 hb1
      have hub := inB_true.1 hb2
      have HL1 := hide (nextF_yes hb1 hb2 hb3)
      obtain ⟨n, hn⟩ : ∃ n, n = v + (u - v) % 4 := ⟨_, rfl⟩
      have hn1 : 0 ≤ n := by omega
      have hn2 : n ≤ 1000 := by omega
      have hn3 : v ≤ n := by omega
      have hn4 : n - v < 4 := by omega
      have HL2 := hide (show leaderF n = u by unfold leaderF; rw [if_pos (inB_true.2 ⟨hn1, hn2⟩)]; omega)
      have HL3 := hide (show nextF n u = n by rw [nextF_yes (inB_true.2 ⟨hn1, hn2⟩) hb2 (by omega)]; omega)
      rw [← hn] at HL1
      clear hb1 hb2 hb3 hn
      go_wp2_with fail
      refine (next_impl _ _ _).mono ?_
      rintro e w' ⟨rfl, rfl⟩
      rw [unhide HL1]
      go_wp2_with fail
      refine (next_spec _ _ _).mono ?_
      rintro e w' ⟨rfl, rfl⟩
      rw [unhide HL1]
      go_wp2_with fail
      refine (leader_impl _ _).mono ?_
      rintro e w' ⟨rfl, rfl⟩
      rw [unhide HL2]
      go_wp2_with fail
      refine (next_impl _ _ _).mono ?_
      rintro e w' ⟨rfl, rfl⟩
      rw [unhide HL3]
      go_wp2
      go_ret
      exact ⟨retb (by first | rfl | simp), b1⟩
    · have HL := hide (show nextF v u = -1 by
        cases h1 : inB v 0 1000
        · exact nextF_no (.inl h1)
        · cases h2 : inB u 0 3
          · exact nextF_no (.inr h2)
          · exact nextF_late (by simp [h1, h2] at hb; omega))
      clear hb
      go_wp2_with (first | (go_at_call 20; refine (next_impl _ _ _).mono ?_; rintro e w' ⟨rfl, rfl⟩; rw [unhide HL]) | (go_at_call 19; refine (next_spec _ _ _).mono ?_; rintro e w' ⟨rfl, rfl⟩; rw [unhide HL]) | (go_at_call 31; refine (alive_any _).mono ?_; rintro e w2 ⟨rfl, b2⟩))
      go_ret
      exact ⟨rfl, bthen b1 b2⟩
end Go.Proofs.Ytkbbhbgjanfcoaa
