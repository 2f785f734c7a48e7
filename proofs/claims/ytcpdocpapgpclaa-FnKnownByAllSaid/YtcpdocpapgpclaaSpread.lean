/- Spreads: l30Valid, spreadFits; SpreadOnce of impl and spec. -/
import Derived.Test.YtcpdocpapgpclaaFuncI
import Derived.Test.YtcpdocpapgpclaaRdr
import Derived.Test.YtcpdocpapgpclaaViewsEl
import Derived.WalkSpells
namespace Go.Proofs.Ytcpdocpapgpclaa
open Go.RowKit
set_option linter.unusedVariables false
set_option linter.unusedSimpArgs false

/-- four numbers, each in 0..most -/
def l30B (xs : List Int) (most : Int) : Bool := decide (xs.length = 4) && !xs.any fun n => !inB n 0 most
theorem l30_yes {xs : List Int} {most : Int} (h : l30B xs most = true) : xs.length = 4 ∧ ∀ x ∈ xs, 0 ≤ x ∧ x ≤ most := by
  simp only [l30B, Bool.and_eq_true, decide_eq_true_eq, Bool.not_eq_true', List.any_eq_false, Bool.not_eq_true] at h
  exact ⟨h.1, fun x hx => inB_true.1 (by simpa using h.2 x hx)⟩
theorem l30_spec (A : Option Addr) (c : Nat) (xs : List Int) (most : Int) (w : World) (h : Rd w A (xs.map (.int .i64))) (hb : xs.length ≤ 4611686018427387904) :
    Calls Try.prog 24 #[.slice A xs.length c, .int .i64 most] w fun e w' => e = .returned (.bool (l30B xs most)) ∧ w = w' := by
  go_enter Try.func24, Try.ntmps24
  go_wp2
  go_loop [5] (fun i => ∃ k : Nat, k ≤ xs.length ∧ i = .int .i64 k ∧ ∀ j (h1 : j < xs.length), j < k → inB xs[j] 0 most = true) (fun i => xs.length - (intOf i).toNat)
  case atStart => exact ⟨0, Nat.zero_le _, rfl, fun j _ h => absurd h (by omega)⟩
  case round =>
    obtain ⟨k, hk, rfl, hn⟩ := hrel
    have HN := hide hn
    clear hn
    by_cases hlt : k < xs.length
    · obtain ⟨b, off, rfl, hbb, hc⟩ := h.int hlt
      generalize hxk : xs[k] = xk at *
      have HX := hide hxk
      clear hxk
      cases hpx : inB xk 0 most
      · have HC := hide (show l30B xs most = false by
          have h1 : xs.any (fun n => !inB n 0 most) = true := List.any_eq_true.2 ⟨_, List.getElem_mem hlt, by rw [unhide HX, hpx]; rfl⟩
          simp [l30B, h1])
        go_wp2_with (go_at_call 32; refine (l1In_any _ _ _ _).mono ?_; rintro e w' ⟨rfl, rfl⟩)
        go_ret
        exact ⟨retb (unhide HC).symm, rfl⟩
      · go_wp2_with (go_at_call 32; refine (l1In_any _ _ _ _).mono ?_; rintro e w' ⟨rfl, rfl⟩)
        go_round
        case rel =>
          refine ⟨k + 1, by omega, by go_num, fun j h1 h2 => ?_⟩
          rcases Nat.lt_or_ge j k with h3 | h3
          · exact unhide HN j h1 h3
          · have : j = k := by omega
            subst this
            rw [unhide HX]
            exact hpx
        case measure => simp [intOf]; omega
    · have HC := hide (show ((xs.length : Int) == 4) = l30B xs most by
        have h1 : xs.any (fun n => !inB n 0 most) = false := by
          rw [List.any_eq_false]
          intro x hx
          obtain ⟨j, hj, rfl⟩ := List.getElem_of_mem hx
          rw [unhide HN j hj (by omega)]
          simp
        simp only [l30B, h1, Bool.not_false, Bool.and_true]
        by_cases h4 : xs.length = 4 <;> simp [h4]
        omega)
      go_wp2
      go_ret
      exact ⟨retb (unhide HC), rfl⟩
def spreadB (known hears : List Int) : Bool := l30B known 255 && l30B hears 15
theorem fits1 (x : Int) (W : World) : Calls Try.prog 34 #[.int .i64 x] W fun e W' => e = .returned (.bool (!inB x 0 255)) ∧ W = W' := by
  go_enter Try.func34, Try.ntmps34
  go_wp2_with (go_at_call 35; refine (in_any _ _ _ _).mono ?_; rintro e w' ⟨rfl, rfl⟩)
  all_goals go_ret
  all_goals exact ⟨rfl, rfl⟩
theorem isSigners_any (x : Int) (W : World) : Calls Try.prog 37 #[.int .i64 x] W fun e W' => e = .returned (.bool (inB x 0 15)) ∧ W = W' := by
  go_enter Try.func37, Try.ntmps37
  go_wp2_with (go_at_call 35; refine (in_any _ _ _ _).mono ?_; rintro e w' ⟨rfl, rfl⟩)
  all_goals go_ret
  all_goals exact ⟨rfl, rfl⟩
theorem fits2 (x : Int) (W : World) : Calls Try.prog 36 #[.int .i64 x] W fun e W' => e = .returned (.bool (!inB x 0 15)) ∧ W = W' := by
  go_enter Try.func36, Try.ntmps36
  go_wp2_with (go_at_call 37; refine (isSigners_any _ _).mono ?_; rintro e w' ⟨rfl, rfl⟩)
  all_goals go_ret
  all_goals exact ⟨rfl, rfl⟩
theorem fits_any (A B : Option Addr) (c d : Nat) (xs ys : List Int) (w : World) (h : Rd w A (xs.map (.int .i64))) (h' : Rd w B (ys.map (.int .i64))) (hb : xs.length ≤ 4611686018427387904) (hb' : ys.length ≤ 4611686018427387904) :
    Calls Try.prog 25 #[.slice A xs.length c, .slice B ys.length d] w fun e w' => e = .returned (.bool (spreadB xs ys)) ∧ w = w' := by
  by_cases hl : xs.length = 4
  · have hd : ((xs.length : Int) == 4) = true := by simp [hl]
    by_cases hm : ys.length = 4
    · have hd' : ((ys.length : Int) == 4) = true := by simp [hm]
      cases hx : xs.any (fun n => !inB n 0 255)
      · have HX := hide hx
        have HC := hide (show spreadB xs ys = !ys.any (fun n => !inB n 0 15) by simp only [spreadB, l30B, hl, hm, hx]; simp)
        clear hl hm hx
        go_enter Try.func25, Try.ntmps25
        go_wp2_with fail
        refine (containsFuncI_any A c 34 _ Try.call34 fits1 xs w h hb).mono ?_
        rintro e w' ⟨rfl, rfl⟩
        rw [unhide HX]
        go_wp2_with fail
        refine (containsFuncI_any B d 36 _ Try.call36 fits2 ys w h' hb').mono ?_
        rintro e w' ⟨rfl, rfl⟩
        go_wp2
        go_ret
        exact ⟨retb (unhide HC).symm, rfl⟩
      · have HX := hide hx
        have HC := hide (show spreadB xs ys = false by simp only [spreadB, l30B, hx]; simp)
        clear hl hm hx
        go_enter Try.func25, Try.ntmps25
        go_wp2_with fail
        refine (containsFuncI_any A c 34 _ Try.call34 fits1 xs w h hb).mono ?_
        rintro e w' ⟨rfl, rfl⟩
        rw [unhide HX]
        go_wp2
        go_ret
        exact ⟨retb (unhide HC).symm, rfl⟩
    · have hd' : ((ys.length : Int) == 4) = false := by simp; omega
      have HC := hide (show spreadB xs ys = false by simp [spreadB, l30B, hm])
      clear hl hm
      go_enter Try.func25, Try.ntmps25
      go_wp2
      go_ret
      exact ⟨retb (unhide HC).symm, rfl⟩
  · have hd : ((xs.length : Int) == 4) = false := by simp; omega
    have HC := hide (show spreadB xs ys = false by simp [spreadB, l30B, hl])
    clear hl
    go_enter Try.func25, Try.ntmps25
    go_wp2
    go_ret
    exact ⟨retb (unhide HC).symm, rfl⟩
end Go.Proofs.Ytcpdocpapgpclaa
