/- The law FnCountersValid. -/
import Derived.Test.YtkbbhbgjanfcoaaDrawC
import Derived.Test.YtkbbhbgjanfcoaaSums
namespace Go.Proofs.Ytkbbhbgjanfcoaa
open Go.RowKit
set_option linter.unusedVariables false
set_option linter.unusedSimpArgs false

theorem law_FnCountersValid (A : Option Addr) (c : Nat) (bs : List Int) (w : World) (h : Rd w A (bs.map (.int .u8))) (hw : ∀ b ∈ bs, 0 ≤ b ∧ b ≤ 255) (hc : bs.length ≤ c) (hm : c ≤ maxLen) :
    Calls Try.prog 11 #[.slice A bs.length c] w fun e w' => e = .returned (.bool true) ∧ Below w.heap.size w w' := by
  have hm2 : bs.length ≤ 9223372036854775807 := by simp only [maxLen] at hm; omega
  by_cases hl : (1048576 : Int) < (bs.length : Int)
  · clear hw
    go_enter Try.func11, Try.ntmps11
    go_wp2
    go_ret
    exact ⟨rfl, Below.refl _ _⟩
  · have HW := hide hw
    have HC := hide hc
    have HM := hide hm
    clear hw hc hm
    have hmk := fun W => make_ints 4 (by omega) W
    simp at hmk
    go_enter Try.func11, Try.ntmps11
    go_wp2_with fail
    refine (drawCounters_any A c bs w h (unhide HW) (unhide HC) (unhide HM)).mono ?_
    rintro e w1 ⟨A1, c1, xs, hxl, rfl, r1, b1⟩
    go_wp2_with fail
    refine (counters_impl A1 c1 xs w1 r1 (by omega)).mono ?_
    rintro e w' ⟨rfl, rfl⟩
    go_wp2_with fail
    refine (counters_spec A1 c1 xs w1 r1 (by omega)).mono ?_
    rintro e w' ⟨rfl, rfl⟩
    have C0 := hide (show countersB [0, 0, 0, 0] = true by rfl)
    have hmk4 : ∀ W : World, Rd (W.alloc (.cells #[.int .i64 0, .int .i64 0, .int .i64 0, .int .i64 0] 3)) (some ⟨W.heap.size, 0, none⟩) (([0, 0, 0, 0] : List Int).map (.int .i64)) := fun W => rd_lit W _ _
    have HMK4 := hide hmk4
    clear hmk4
    cases hv : countersB xs
    · go_wp2_with fail
      refine (counters_impl _ 4 [0, 0, 0, 0] _ (unhide HMK4 _) (by simp)).mono ?_
      rintro e w' ⟨rfl, rfl⟩
      rw [unhide C0]
      go_wp2_with fail
      refine (alive_any _).mono ?_
      rintro e w2 ⟨rfl, b2⟩
      go_wp2
      go_ret
      exact ⟨rfl, bthen (b1.alloc b1.size _) b2⟩
    · have C1 := hide (show countersB (xs ++ [0]) = false by
        simp only [countersB, Bool.and_eq_true, decide_eq_true_eq] at hv
        simp [countersB, hv.1])
      go_wp2_with (first
        | (at_builtin; refine wpList_app_if rfl (.tmp 19) (.tmp 20) 26 rfl el_int rfl (own_made (base := w1.heap.size) w1 #[] 0 (Nat.le_refl _) (by simp [maxLen]) rfl) rfl (r1.alloc _) (by simp) (one_ints xs) (by simp only [maxLen]; omega) (by omega) (by simp) ?_; intro A2 c2 w2 o2 ch2 _ _; simp only [Nat.zero_add, List.nil_append] at o2)
        | (at_builtin; refine wpList_app_if rfl (.tmp 21) (.tmp 22) 26 rfl el_int rfl (own_alloc o2 _) rfl (rd_lit w2 [.int .i64 0] _) rfl (one_ints [0]) (by simp only [maxLen]; omega) (by omega) (by have := ch2.size; simp at this; simp; omega) ?_; intro A3 c3 w3 o3 ch3 _ _))
      have b2 : Below w1.heap.size w1 w2 := ((Below.refl _ _).alloc (Nat.le_refl _) _).trans (ch2.below (fun k hk hA => by injection hA with hA; injection hA with hA; omega) (by simp))
      have b3 : Below w1.heap.size w1 w3 := app_below b2 o2 ch3 (Nat.le_refl _)
      have hr3 := own_rd o3
      have e3 : (#[] : Array Value).toList ++ xs.map (Value.int .i64) ++ [Value.int .i64 0] = (xs ++ [0]).map (Value.int .i64) := by simp
      have hr3' : Rd w3 A3 ((xs ++ [0]).map (.int .i64)) := by rw [← e3]; exact hr3
      have C3 := counters_impl A3 c3 (xs ++ [0]) w3 hr3' (by simp; omega)
      rw [unhide C1, show (xs ++ [(0 : Int)]).length = xs.length + 1 by simp] at C3
      have C3' := hide C3
      clear C3 e3 hr3
      refine (unhide C3').mono ?_
      rintro e w' ⟨rfl, rfl⟩
      go_wp2_with fail
      refine (counters_impl _ 4 [0, 0, 0, 0] _ (unhide HMK4 _) (by simp)).mono ?_
      rintro e w' ⟨rfl, rfl⟩
      rw [unhide C0]
      go_wp2_with fail
      refine (alive_any _).mono ?_
      rintro e w4 ⟨rfl, b4⟩
      go_wp2
      go_ret
      exact ⟨rfl, bthen ((bthen b1 b3).alloc (bthen b1 b3).size _) b4⟩
end Go.Proofs.Ytkbbhbgjanfcoaa
