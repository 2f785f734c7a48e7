/- Slices of blocks, in the laws: mark. -/
import Derived.Test.YtefdhlfljpppfaaGreatEffM
import Derived.Test.YtefdhlfljpppfaaGreatBkS
namespace Go.Proofs.YtefdhlfljpppfaaGreat
open Go.RowKit
set_option linter.unusedVariables false
set_option linter.unusedSimpArgs false

def markBk1 (k : Int) (x : Bk) : Bk := ⟨k, k + 1, k + 1 + 1, markAct (k + 1 + 1 + 1) x.list.length, k + 1 + 1 + 1 + x.list.length * 4, k + 1 + 1 + 1 + x.list.length * 4 + 1⟩
def markBkN (k : Int) (x : Bk) : Int := k + 1 + 1 + 1 + x.list.length * 4 + 1 + 1
def markBks : Int → List Bk → List Bk
  | _, [] => []
  | k, x :: xs => markBk1 k x :: markBks (markBkN k x) xs
def markBkE : Int → List Bk → Int
  | k, [] => k
  | k, x :: xs => markBkE (markBkN k x) xs
theorem markBkE_eq (k : Int) (xs : List Bk) : markBkE k xs = k + (5 * xs.length + 4 * bkTot xs : Nat) := by
  induction xs generalizing k with
  | nil => simp [markBkE, bkTot]
  | cons x xs ih => rw [markBkE, ih, markBkN, bkTot, List.length_cons]; omega
theorem markBks_len (k : Int) (xs : List Bk) : (markBks k xs).length = xs.length := by
  induction xs generalizing k with
  | nil => rfl
  | cons x xs ih => rw [markBks, List.length_cons, ih, List.length_cons]
theorem markBks_snoc (k : Int) (xs : List Bk) (x : Bk) : markBks k (xs ++ [x]) = markBks k xs ++ [markBk1 (markBkE k xs) x] ∧ markBkE k (xs ++ [x]) = markBkN (markBkE k xs) x := by
  induction xs generalizing k with
  | nil => exact ⟨rfl, rfl⟩
  | cons y xs ih =>
    obtain ⟨h1, h2⟩ := ih (markBkN k y)
    exact ⟨by rw [List.cons_append, markBks, h1, markBks, markBkE, List.cons_append], by rw [List.cons_append, markBkE, h2, markBkE]⟩
theorem bkTot_append (xs ys : List Bk) : bkTot (xs ++ ys) = bkTot xs + bkTot ys := by
  induction xs with
  | nil => simp [bkTot]
  | cons x xs ih => rw [List.cons_append, bkTot, bkTot, ih]; omega
theorem set_step (s : Nat) (us : List (List Value)) (hu : ∀ v ∈ us, v.length = s) (k : Nat) (hk : k < us.length) (cs : List Value) (hc : cs.length = s) (j : Nat) (hj : j < s) (u : Value) : (us.set k cs).flatten.set (k * s + j) u = (us.set k (cs.set j u)).flatten := by
  rw [set_flatten s (us.set k cs) (fun v hv => by
    rcases List.mem_or_eq_of_mem_set hv with h | h
    · exact hu v h
    · rw [h]; exact hc) k (by simpa using hk) j hj u]
  simp
end Go.Proofs.YtefdhlfljpppfaaGreat
