/- Sums of numbers. -/
import Derived.Test.YtefdhlfljpppfaaGreatFuncI
namespace Go.Proofs.YtefdhlfljpppfaaGreat
open Go.RowKit
set_option linter.unusedVariables false
set_option linter.unusedSimpArgs false

def sumStep (s n : Int) : Int := (31 * s + n + 7) % 1000003
theorem sumStep_bd (s n : Int) : 0 ≤ sumStep s n ∧ sumStep s n ≤ 1000002 := by unfold sumStep; omega
def summed (xs : List Int) : Bool := !xs.any fun n => !inB n 0 2000000
def sumF (tag : Int) (xs : List Int) : Int := if inB tag 0 9 && summed xs then xs.foldl sumStep (17 + tag) else -1
theorem sumF_no {tag : Int} {xs : List Int} (h : inB tag 0 9 = false ∨ summed xs = false) : sumF tag xs = -1 := by
  unfold sumF; rw [if_neg]; rcases h with h | h <;> simp [h]
theorem sumF_yes {tag : Int} {xs : List Int} (h : inB tag 0 9 = true) (h' : summed xs = true) : sumF tag xs = xs.foldl sumStep (17 + tag) := by
  unfold sumF; rw [if_pos (by simp [h, h'])]
theorem summed_get {xs : List Int} (h : summed xs = true) {k : Nat} (hk : k < xs.length) : 0 ≤ xs[k] ∧ xs[k] ≤ 2000000 := by
  unfold summed at h
  simp only [Bool.not_eq_true', List.any_eq_false, Bool.not_eq_true, Bool.not_eq_false'] at h
  exact inB_true.1 (by have := h _ (List.getElem_mem hk); simpa using this)
theorem sums_bd (xs : List Int) (s : Int) (h : 0 ≤ s ∧ s ≤ 1000002) : 0 ≤ xs.foldl sumStep s ∧ xs.foldl sumStep s ≤ 1000002 := by
  induction xs generalizing s with
  | nil => exact h
  | cons x xs ih => exact ih _ (sumStep_bd s x)
theorem sumF_bd (tag : Int) (xs : List Int) : -1 ≤ sumF tag xs ∧ sumF tag xs ≤ 1000002 := by
  unfold sumF
  split
  · rename_i h
    simp only [Bool.and_eq_true] at h
    have := inB_true.1 h.1
    have := sums_bd xs (17 + tag) (by omega)
    omega
  · omega

theorem more_any (s n : Int) (w : World) (h1 : 0 ≤ s) (h2 : s ≤ 1000002) (h3 : 0 ≤ n) (h4 : n ≤ 2000000) :
    Calls Tryz.prog 83 #[.int .i64 s, .int .i64 n] w fun e w' => e = .returned (.int .i64 (sumStep s n)) ∧ w = w' := by
  go_enter Tryz.func83, Tryz.ntmps83
  go_wp2
  go_ret
  exact ⟨rfl, rfl⟩
theorem sumClosure (x : Int) (W : World) : Calls Tryz.prog 81 #[.int .i64 x] W fun e W' => e = .returned (.bool (!inB x 0 2000000)) ∧ W = W' := by
  go_enter Tryz.func81, Tryz.ntmps81
  go_wp2_with (go_at_call 82; refine (isSummed_any _ _).mono ?_; rintro e w' ⟨rfl, rfl⟩)
  all_goals go_ret
  all_goals exact ⟨rfl, rfl⟩
theorem sum_impl (tag : Int) (A : Option Addr) (c : Nat) (xs : List Int) (w : World) (h : Rd w A (xs.map (.int .i64))) (hb : xs.length ≤ 4611686018427387904) :
    Calls Tryz.prog 45 #[.int .i64 tag, .slice A xs.length c] w fun e w' => e = .returned (.int .i64 (sumF tag xs)) ∧ w = w' := by
  cases ht : inB tag 0 9
  · go_enter Tryz.func45, Tryz.ntmps45
    go_wp2_with (go_at_call 66; refine (in_any _ _ _ _).mono ?_; rintro e w' ⟨rfl, rfl⟩)
    go_ret
    exact ⟨reti (sumF_no (.inl ht)).symm, rfl⟩
  · have htb := inB_true.1 ht
    cases hs : summed xs
    · have HS := hide (show (xs.any fun n => !inB n 0 2000000) = true by simpa [summed] using hs)
      have HR := hide (sumF_no (tag := tag) (.inr hs))
      clear hs
      go_enter Tryz.func45, Tryz.ntmps45
      go_wp2_with (first | (go_at_call 66; refine (in_any _ _ _ _).mono ?_; rintro e w' ⟨rfl, rfl⟩) | (go_at_call 80; refine (containsFuncI_any A c 81 _ Tryz.call81 sumClosure xs w h hb).mono ?_; rintro e w' ⟨rfl, rfl⟩; rw [unhide HS]))
      go_ret
      exact ⟨reti (unhide HR).symm, rfl⟩
    · have HS := hide (show (xs.any fun n => !inB n 0 2000000) = false by simpa [summed] using hs)
      have HR := hide (sumF_yes ht hs)
      have HG := hide hs
      clear hs
      go_enter Tryz.func45, Tryz.ntmps45
      go_wp2_with (first | (go_at_call 66; refine (in_any _ _ _ _).mono ?_; rintro e w' ⟨rfl, rfl⟩) | (go_at_call 80; refine (containsFuncI_any A c 81 _ Tryz.call81 sumClosure xs w h hb).mono ?_; rintro e w' ⟨rfl, rfl⟩; rw [unhide HS]))
      go_loop [5, 7, 19] (fun s _ i => ∃ (k : Nat) (z : Int), k ≤ xs.length ∧ i = .int .i64 k ∧ s = .int .i64 z ∧ 0 ≤ z ∧ z ≤ 1000002 ∧ xs.foldl sumStep (17 + tag) = (xs.drop k).foldl sumStep z) (fun _ _ i => xs.length - (intOf i).toNat)
      case atStart => exact ⟨0, 17 + tag, Nat.zero_le _, rfl, rfl, by omega, by omega, rfl⟩
      case round =>
        obtain ⟨k, z, hk, rfl, rfl, hz1, hz2, hz⟩ := hrel
        by_cases hlt : k < xs.length
        · obtain ⟨b, off, rfl, hbb, hc⟩ := h.int hlt
          obtain ⟨x1, x2⟩ := summed_get (unhide HG) hlt
          rw [drop_get xs k hlt, List.foldl_cons] at hz
          generalize hxk : xs[k] = xk at *
          clear hxk
          have hst := sumStep_bd z xk
          have HZ := hide hz
          clear hz
          go_wp2_with (go_at_call 83; refine (more_any _ _ _ (by omega) (by omega) (by omega) (by omega)).mono ?_; rintro e w' ⟨rfl, rfl⟩)
          go_round
          case rel => exact ⟨k + 1, _, by omega, by go_num, rfl, hst.1, hst.2, unhide HZ⟩
          case measure => simp [intOf]; omega
        · have hz' : xs.foldl sumStep (17 + tag) = z := by rw [hz, List.drop_of_length_le (by omega)]; rfl
          clear hz
          have HZ := hide hz'
          clear hz'
          go_wp2
          go_ret
          exact ⟨reti ((unhide HR).trans (unhide HZ)).symm, rfl⟩
theorem l1Sum_any (tag : Int) (A : Option Addr) (c : Nat) (xs : List Int) (w : World) (h : Rd w A (xs.map (.int .i64))) (hb : xs.length ≤ 4611686018427387904) (ht : inB tag 0 9 = true) (hs : summed xs = true) :
    Calls Tryz.prog 109 #[.int .i64 tag, .slice A xs.length c] w fun e w' => e = .returned (.int .i64 (sumF tag xs)) ∧ w = w' := by
  have HR := hide (sumF_yes ht hs)
  have HG := hide hs
  have htb := inB_true.1 ht
  clear hs ht
  go_enter Tryz.func109, Tryz.ntmps109
  go_wp2
  go_loop [5, 6] (fun s i => ∃ (k : Nat) (z : Int), k ≤ xs.length ∧ i = .int .i64 k ∧ s = .int .i64 z ∧ 0 ≤ z ∧ z ≤ 1000002 ∧ xs.foldl sumStep (17 + tag) = (xs.drop k).foldl sumStep z) (fun _ i => xs.length - (intOf i).toNat)
  case atStart => exact ⟨0, 17 + tag, Nat.zero_le _, rfl, rfl, by omega, by omega, rfl⟩
  case round =>
    obtain ⟨k, z, hk, rfl, rfl, hz1, hz2, hz⟩ := hrel
    by_cases hlt : k < xs.length
    · obtain ⟨b, off, rfl, hbb, hc⟩ := h.int hlt
      obtain ⟨x1, x2⟩ := summed_get (unhide HG) hlt
      rw [drop_get xs k hlt, List.foldl_cons] at hz
      generalize hxk : xs[k] = xk at *
      clear hxk
      have hst := sumStep_bd z xk
      have HZ := hide hz
      clear hz
      go_wp2
      go_round
      case rel => exact ⟨k + 1, _, by omega, by go_num, rfl, hst.1, hst.2, unhide HZ⟩
      case measure => simp [intOf]; omega
    · have hz' : xs.foldl sumStep (17 + tag) = z := by rw [hz, List.drop_of_length_le (by omega)]; rfl
      clear hz
      have HZ := hide hz'
      clear hz'
      go_wp2
      go_ret
      exact ⟨reti ((unhide HR).trans (unhide HZ)).symm, rfl⟩
theorem alive_any (w : World) : Calls Tryz.prog 12 #[] w fun e w' => e = .returned (.bool true) ∧ Below w.heap.size w w' := by
  go_enter Tryz.func12, Tryz.ntmps12
  go_wp2_with (go_at_call 45; refine (sum_impl 0 _ _ [] _ (Rd.nil _ _) (by simp)).mono ?_; rintro e w' ⟨rfl, rfl⟩; rw [show sumF 0 [] = 17 from rfl])
  go_ret
  exact ⟨rfl, (Below.refl _ _).alloc (Nat.le_refl _) _⟩
end Go.Proofs.YtefdhlfljpppfaaGreat
