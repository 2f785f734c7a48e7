/- One element of a row of things is changed. -/
import Derived.Test.YtihlhejencninaaGreatGeff
namespace Go.Proofs.YtihlhejencninaaGreat
open Go.RowKit
set_option linter.unusedVariables false
set_option linter.unusedSimpArgs false

theorem set_flatD (s : Nat) (vs : List (List Value)) (hv : ∀ v ∈ vs, v.length = s) (k : Nat) (hk : k < vs.length) (j : Nat) (hj : j < s) (u : Value) : vs.flatten.set (k * s + j) u = (vs.set k (vs[k].set j u)).flatten := by
 induction vs generalizing k with
 | nil => simp at hk
 | cons y vs ih =>
   have hy := hv y (by simp)
   cases k with
   | zero => simp only [Nat.zero_mul, Nat.zero_add, List.flatten_cons, List.set_cons_zero, List.getElem_cons_zero]; rw [List.set_append_left _ _ (by omega)]
   | succ k =>
     have h1 : y.length ≤ (k + 1) * s + j := by rw [hy, Nat.add_mul]; omega
     rw [List.flatten_cons, List.set_append_right _ _ h1, show (k + 1) * s + j - y.length = k * s + j by rw [hy, Nat.add_mul]; omega, ih (fun v h => hv v (by simp [h])) k (by simpa using hk)]
     simp
/-- all but one element are as they were -/
theorem AllO.set_rd {α : Type} {O : ORel α} {R : Rel α} {P : Nat → Prop} {w w' : World} {xs : List α} {vs : List (List Value)} {fs : List (List Nat)} {s : Nat} (G : OGood O R) (GR : Good R s) (h : AllO O w xs vs fs) (k : Nat) {x : α} {cs : List Value} (hP : ∀ q ∈ fs.flatten, P q) (hx : R P x w' cs)
   (hk : ∀ (j : Nat) (hj : j < fs.length), j ≠ k → ∀ q ∈ fs[j], q < w.heap.size → w'.heap[q]? = w.heap[q]?) : AllR R P w' (xs.set k x) (vs.set k cs) := by
 induction xs generalizing vs fs k with
 | nil =>
   cases vs with
   | nil => exact trivial
   | cons => cases fs <;> exact h.elim
 | cons y xs ih =>
   cases vs with
   | nil => cases fs <;> exact h.elim
   | cons v vs =>
     cases fs with
     | nil => exact h.elim
     | cons f fs =>
       have hPr : ∀ q ∈ fs.flatten, P q := fun q hq => hP q (by rw [List.flatten_cons]; exact List.mem_append_right _ hq)
       cases k with
       | zero =>
         refine ⟨hx, (h.2.keep G fun q hq hqw => ?_).rd G GR hPr⟩
         obtain ⟨f', hf', hqf⟩ := List.mem_flatten.1 hq
         obtain ⟨j, hj, rfl⟩ := List.getElem_of_mem hf'
         exact hk (j + 1) (by simpa using hj) (by omega) q (by simpa using hqf) hqw
       | succ k =>
         refine ⟨GR.mono (G.rd (G.keep h.1 fun q hq hqw => hk 0 (by simp) (by omega) q (by simpa using hq) hqw)) fun q hq _ => hP q (by simp [hq]), ?_⟩
         exact ih h.2 k hPr fun j hj hne q hq hqw => hk (j + 1) (by simpa using hj) (by omega) q (by simpa using hq) hqw
end Go.Proofs.YtihlhejencninaaGreat
