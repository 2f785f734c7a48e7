/- slices.Clone and slices.Equal at []int. -/
import Derived.Test.YthddcinpacaacaaIntS
import Derived.Test.YthddcinpacaacaaViewsEl
import Derived.WalkSpells
namespace Go.Proofs.Ythddcinpacaacaa
open Go.RowKit
set_option linter.unusedVariables false
set_option linter.unusedSimpArgs false

theorem cloneI_any (A : Option Addr) (c : Nat) (xs : List Int) (w : World) (h : Rd w A (xs.map (.int .i64))) (h0 : 0 < xs.length) (hb : xs.length ≤ 1099511627776) :
    Calls Try.prog 30 #[.slice A xs.length c] w fun e w' => ∃ A' c', e = .returned (.slice A' xs.length c') ∧ w'.ownsRow w.heap.size 3 1 (.slice A' xs.length c') xs.length (xs.map (.int .i64)) ∧ Below w.heap.size w w' := by
  obtain ⟨b, off, rfl, hbb, hc⟩ := h (by simpa using h0)
  have hnil := fun W => Lib.run_eql_slice_nil (P := Try.prog) W 22 3 (some ⟨b, off, none⟩) xs.length c 0 0 Try.underlying22
  go_enter Try.func30, Try.ntmps30
  go_wp2_with (at_builtin; refine wpList_app rfl (.tmp 5) (.tmp 6) 22 rfl el_int rfl (own_made (base := w.heap.size) w #[] 0 (Nat.le_refl _) (by simp [maxLen]) rfl) rfl (h.alloc _) (by simp) (one_ints xs) (by simp only [maxLen]; omega) (by omega) (by simp) ?_; intro A1 c1 w1 o1 ch1 _ _; simp only [Nat.zero_add, List.nil_append] at o1)
  go_ret
  exact ⟨A1, c1, rfl, o1, ((Below.refl _ _).alloc (Nat.le_refl _) _).trans (ch1.below (fun k hk hA => by injection hA with hA; injection hA with hA; omega) (by simp))⟩

end Go.Proofs.Ythddcinpacaacaa
