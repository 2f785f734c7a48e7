/- slices.Clone and slices.Equal at []int. -/
import Derived.Test.YtcpdocpapgpclaaIntS
import Derived.Test.YtcpdocpapgpclaaViewsEl
import Derived.WalkSpells
namespace Go.Proofs.Ytcpdocpapgpclaa
open Go.RowKit
set_option linter.unusedVariables false
set_option linter.unusedSimpArgs false

theorem cloneI_any (A : Option Addr) (c : Nat) (xs : List Int) (w : World) (h : Rd w A (xs.map (.int .i64))) (h0 : 0 < xs.length) (hb : xs.length ≤ 1099511627776) :
    Calls Try.prog 27 #[.slice A xs.length c] w fun e w' => ∃ A' c', e = .returned (.slice A' xs.length c') ∧ w'.ownsRow w.heap.size 3 1 (.slice A' xs.length c') xs.length (xs.map (.int .i64)) ∧ Below w.heap.size w w' := by
  obtain ⟨b, off, rfl, hbb, hc⟩ := h (by simpa using h0)
  have hnil := fun W => Lib.run_eql_slice_nil (P := Try.prog) W 22 3 (some ⟨b, off, none⟩) xs.length c 0 0 Try.underlying22
  go_enter Try.func27, Try.ntmps27
  go_wp2_with (at_builtin; refine wpList_app rfl (.tmp 5) (.tmp 6) 22 rfl el_int rfl (own_made (base := w.heap.size) w #[] 0 (Nat.le_refl _) (by simp [maxLen]) rfl) rfl (h.alloc _) (by simp) (one_ints xs) (by simp only [maxLen]; omega) (by omega) (by simp) ?_; intro A1 c1 w1 o1 ch1 _ _; simp only [Nat.zero_add, List.nil_append] at o1)
  go_ret
  exact ⟨A1, c1, rfl, o1, ((Below.refl _ _).alloc (Nat.le_refl _) _).trans (ch1.below (fun k hk hA => by injection hA with hA; injection hA with hA; omega) (by simp))⟩

theorem equalI_any (A B : Option Addr) (c d : Nat) (xs ys : List Int) (w : World) (h : Rd w A (xs.map (.int .i64))) (h' : Rd w B (ys.map (.int .i64))) (hb : xs.length ≤ 4611686018427387904) (hb' : ys.length ≤ 4611686018427387904) :
    Calls Try.prog 28 #[.slice A xs.length c, .slice B ys.length d] w fun e w' => e = .returned (.bool (decide (xs = ys))) ∧ ∃ m, w.drewN m = w' := by
  by_cases hl : xs.length = ys.length
  · have HL := hide hl
    have hl2 : ((xs.length : Int) != (ys.length : Int)) = false := by simp [hl]
    have hle : xs.length ≤ ys.length := by omega
    clear hl
    go_enter Try.func28, Try.ntmps28
    go_wp2
    go_loopw [13] (fun i wr => ∃ k : Nat, k ≤ xs.length ∧ i = .int .i64 k ∧ (∀ j, j < k → xs[j]? = ys[j]?) ∧ ∃ m, wr = w.drewN m) (fun i _ => xs.length - (intOf i).toNat)
    case atStart => exact ⟨0, Nat.zero_le _, rfl, fun j hj => absurd hj (by omega), 0, rfl⟩
    case round =>
      obtain ⟨k, hk, rfl, hn, m, rfl⟩ := hrel
      have HN := hide hn
      clear hn
      by_cases hlt : k < xs.length
      · have hlt' : k < ys.length := by omega
        obtain ⟨b, off, rfl, hbb, hc⟩ := h.int hlt
        obtain ⟨b', off', rfl, hbb', hc'⟩ := h'.int hlt'
        generalize hxk : xs[k] = xk at *
        generalize hyk : ys[k] = yk at *
        have HX := hide hxk
        have HY := hide hyk
        clear hxk hyk
        have i1 : (k : Int) < (xs.length : Int) := by omega
        have i2 : (k : Int) < (ys.length : Int) := by omega
        by_cases he : xk = yk
        · have g : (xk != yk) = false := by simp [he]
          have HE := hide he
          clear he
          go_wp2
          go_quiet (fail)
          go_wp2
          go_roundw
          case rel =>
            refine ⟨k + 1, by omega, by go_num, fun j hj => ?_, _, rfl⟩
            rcases Nat.lt_or_ge j k with h3 | h3
            · exact unhide HN j h3
            · have : j = k := by omega
              subst this
              rw [List.getElem?_eq_getElem hlt, List.getElem?_eq_getElem hlt', unhide HX, unhide HY, unhide HE]
          case measure => simp [intOf]; omega
        · have g : (xk != yk) = true := by simp [he]
          have HE := hide he
          clear he
          go_wp2
          go_quiet (fail)
          go_wp2
          go_ret
          refine ⟨retb (Eq.symm ?_), _, by rw [World.drewN_drewN]⟩
          rw [decide_eq_false_iff_not]
          intro e
          subst e
          exact unhide HE ((unhide HX).symm.trans (unhide HY))
      · have HE := hide (show decide (xs = ys) = true by
          rw [decide_eq_true_eq]
          apply List.ext_getElem?
          intro j
          rcases Nat.lt_or_ge j k with h3 | h3
          · exact unhide HN j h3
          · rw [List.getElem?_eq_none (by omega), List.getElem?_eq_none (by have := unhide HL; omega)])
        go_wp2
        go_ret
        exact ⟨retb (unhide HE).symm, _, rfl⟩
  · have hl2 : ((xs.length : Int) != (ys.length : Int)) = true := by simp; omega
    have HE := hide (show decide (xs = ys) = false by rw [decide_eq_false_iff_not]; intro e; exact hl (by rw [e]))
    clear hl
    go_enter Try.func28, Try.ntmps28
    go_wp2
    go_ret
    exact ⟨retb (unhide HE).symm, 0, rfl⟩
end Go.Proofs.Ytcpdocpapgpclaa
