/- One element of a row of things is changed. -/
import Derived.Test.YtihlhejencninaaGreatGeff
namespace Go.Proofs.YtihlhejencninaaGreat
open Go.RowKit
set_option linter.unusedVariables false
set_option linter.unusedSimpArgs false

theorem set_flatD (s : Nat) (vs : List (List Value)) (hv : ∀ v ∈ vs, v.length = s) (k : Nat) (hk : k < vs.length) (j : Nat) (hj : j < s) (u : Value) : vs.flatten.set (k * s + j) u = (vs.set k (vs[k].set j u)).flatten := by
  induction vs generalizing k with
  | nil => simp at hk
  | cons y vs ih =>
    have hy := hv y (by simp)
    cases k with
    | zero => simp only [Nat.zero_mul, Nat.zero_add, List.flatten_cons, List.set_cons_zero, List.getElem_cons_zero]; rw [List.set_append_left _ _ (by omega)]
    | succ k =>
      have h1 : y.length ≤ (k + 1) * s + j := by rw [hy, Nat.add_mul]; omega
      rw [List.flatten_cons, List.set_append_right _ _ h1, show (k + 1) * s + j - y.length = k * s + j by rw [hy, Nat.add_mul]; omega, ih (fun v h => hv v (by simp [h])) k (by simpa using hk)]
      simp
end Go.Proofs.YtihlhejencninaaGreat
