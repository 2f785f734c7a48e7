/- Serial runs of the reference: RunSerial. -/
import Derived.Test.YtihlhejencninaaGreatRunSpec
namespace Go.Proofs.YtihlhejencninaaGreat
open Go.RowKit
set_option linter.unusedVariables false
set_option linter.unusedSimpArgs false
attribute [local go_sem ↓] Go.wp_at_zero Go.wp_at_succ

theorem actWrites_sorted (a : Act) : (∃ x, actWrites a = [x]) ∨ ∃ x y, actWrites a = [x, y] ∧ x < y := by
  unfold actWrites
  split
  · exact .inl ⟨_, rfl⟩
  · split
    · exact .inl ⟨_, rfl⟩
    · exact .inr ⟨_, _, rfl, by omega⟩
theorem runV_diffB {v : List Int} {a : Act} (hv : valOk v) (ha : actB a = true) : diffB (runV v a).writes = true := by
  have hb := runV_writes hv ha
  show evOk 0 (-1) _ = true
  cases hdn : actDone a (atV v a.src) (atV v a.dst)
  · rw [runV_no hdn]; rfl
  · rw [runV_yes hdn] at hb ⊢
    rcases actWrites_sorted a with ⟨x, hx⟩ | ⟨x, y, hx, hlt⟩
    · rw [hx] at hb ⊢
      have h1 := hb _ (by simp [List.map_cons]; rfl)
      exact evOk_mk (by have := h1.1.1; simp only at this ⊢; omega) h1.1.2 h1.2.1 h1.2.2 rfl
    · rw [hx] at hb ⊢
      have h1 := hb ⟨x, _⟩ (by simp [List.map_cons]; exact .inl rfl)
      have h2 := hb ⟨y, _⟩ (by simp [List.map_cons]; exact .inr rfl)
      exact evOk_mk (by have := h1.1.1; simp only at this ⊢; omega) h1.1.2 h1.2.1 h1.2.2 (evOk_mk hlt h2.1.2 h2.2.1 h2.2.2 rfl)
end Go.Proofs.YtihlhejencninaaGreat
