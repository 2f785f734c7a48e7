/- Slices of effects, in the laws: mark, held. -/
import Derived.Test.YtefdhlfljpppfaaGreatEffS
namespace Go.Proofs.YtefdhlfljpppfaaGreat
open Go.RowKit
set_option linter.unusedVariables false
set_option linter.unusedSimpArgs false

def markEff1 (k : Int) (x : Eff) : Eff := ⟨k % 3 == 0, markEnt (k + 1) x.reads.length, markEnt (k + 1 + x.reads.length * 2) x.writes.length⟩
def markNext (k : Int) (x : Eff) : Int := k + 1 + x.reads.length * 2 + x.writes.length * 2
def markEffs : Int → List Eff → List Eff
  | _, [] => []
  | k, x :: xs => markEff1 k x :: markEffs (markNext k x) xs
def markEnd : Int → List Eff → Int
  | k, [] => k
  | k, x :: xs => markEnd (markNext k x) xs
theorem markEnd_eq (k : Int) (xs : List Eff) : markEnd k xs = k + (xs.length + 2 * effTot xs : Nat) := by
  induction xs generalizing k with
  | nil => simp [markEnd, effTot]
  | cons x xs ih => rw [markEnd, ih, markNext, effTot, List.length_cons]; omega
theorem markEffs_len (k : Int) (xs : List Eff) : (markEffs k xs).length = xs.length := by
  induction xs generalizing k with
  | nil => rfl
  | cons x xs ih => rw [markEffs, List.length_cons, ih, List.length_cons]
theorem markEffs_tot (k : Int) (xs : List Eff) : effTot (markEffs k xs) = effTot xs := by
  induction xs generalizing k with
  | nil => rfl
  | cons x xs ih => rw [markEffs, effTot, effTot, ih, markEff1, markEnt_length, markEnt_length]
theorem markEffs_snoc (k : Int) (xs : List Eff) (x : Eff) : markEffs k (xs ++ [x]) = markEffs k xs ++ [markEff1 (markEnd k xs) x] ∧ markEnd k (xs ++ [x]) = markNext (markEnd k xs) x := by
  induction xs generalizing k with
  | nil => exact ⟨rfl, rfl⟩
  | cons y xs ih =>
    obtain ⟨h1, h2⟩ := ih (markNext k y)
    exact ⟨by rw [List.cons_append, markEffs, h1, markEffs, markEnd, List.cons_append], by rw [List.cons_append, markEnd, h2, markEnd]⟩
theorem markEffs_get (k : Int) (xs : List Eff) (j : Nat) (hj : j < xs.length) : (markEffs k xs)[j]? = some (markEff1 (markEnd k (xs.take j)) xs[j]) := by
  induction xs generalizing k j with
  | nil => simp at hj
  | cons x xs ih =>
    cases j with
    | zero => rfl
    | succ j => simpa [markEffs, markEnd] using ih (markNext k x) j (by simpa using hj)
theorem effTot_append (xs ys : List Eff) : effTot (xs ++ ys) = effTot xs + effTot ys := by
  induction xs with
  | nil => simp [effTot]
  | cons x xs ih => rw [List.cons_append, effTot, effTot, ih]; omega
theorem set_flatten (s : Nat) (vs : List (List Value)) (hv : ∀ v ∈ vs, v.length = s) (k : Nat) (hk : k < vs.length) (j : Nat) (hj : j < s) (u : Value) : vs.flatten.set (k * s + j) u = (vs.set k (vs[k].set j u)).flatten := by
  induction vs generalizing k with
  | nil => simp at hk
  | cons y vs ih =>
    have hy := hv y (by simp)
    cases k with
    | zero =>
      rw [Nat.zero_mul, Nat.zero_add, List.flatten_cons, List.set_append_left _ _ (by omega)]
      rfl
    | succ k =>
      rw [List.flatten_cons, List.set_append_right _ _ (by rw [hy, Nat.add_mul]; omega), hy, show (k + 1) * s + j - s = k * s + j by rw [Nat.add_mul]; omega, ih (fun v h => hv v (by simp [h])) k (by simpa using hk)]
      rfl
theorem AllO.set {α : Type} {O : ORel α} {w : World} {xs : List α} {vs : List (List Value)} {fs : List (List Nat)} (h : AllO O w xs vs fs) {k : Nat} (hk : k < xs.length) {x : α} {cs : List Value} (hx : ∀ f, fs[k]? = some f → O x w cs f) : AllO O w (xs.set k x) (vs.set k cs) fs := by
  induction xs generalizing vs fs k with
  | nil => simp at hk
  | cons y xs ih =>
    cases vs with
    | nil => cases fs <;> exact h.elim
    | cons v vs =>
      cases fs with
      | nil => exact h.elim
      | cons f fs =>
        cases k with
        | zero => exact ⟨hx f rfl, h.2⟩
        | succ k => exact ⟨h.1, ih h.2 (by simpa using hk) fun f hf => hx f (by simpa using hf)⟩
/-- one thing changes its cells and its own blocks; the others do not -/
theorem AllO.upd {α : Type} {O : ORel α} {R : Rel α} (G : OGood O R) {w w' : World} {xs : List α} {vs : List (List Value)} {fs : List (List Nat)} (h : AllO O w xs vs fs) (hnd : fs.flatten.Nodup) {k : Nat} (hk : k < xs.length) {x : α} {cs : List Value} {f : List Nat}
    (hf : fs[k]? = some f) (hx : O x w' cs f) (hkeep : ∀ q, q ∉ f → q ∈ fs.flatten → q < w.heap.size → w'.heap[q]? = w.heap[q]?) : AllO O w' (xs.set k x) (vs.set k cs) fs := by
  induction xs generalizing vs fs k with
  | nil => simp at hk
  | cons y xs ih =>
    cases vs with
    | nil => cases fs <;> exact h.elim
    | cons v vs =>
      cases fs with
      | nil => exact h.elim
      | cons g fs =>
        rw [List.flatten_cons, List.nodup_append] at hnd
        obtain ⟨n1, n2, n3⟩ := hnd
        cases k with
        | zero =>
          have : g = f := by simpa using hf
          subst this
          exact ⟨hx, h.2.keep G fun q hq hqw => hkeep q (fun hg => n3 q hg q hq rfl) (by rw [List.flatten_cons]; exact List.mem_append_right _ hq) hqw⟩
        | succ k =>
          have hf' : fs[k]? = some f := by simpa using hf
          have hmem : ∀ q ∈ f, q ∈ fs.flatten := fun q hq => List.mem_flatten.2 ⟨f, List.mem_of_getElem? hf', hq⟩
          exact ⟨G.keep h.1 fun q hq hqw => hkeep q (fun hqf => n3 q hq q (hmem q hqf) rfl) (by rw [List.flatten_cons]; exact List.mem_append_left _ hq) hqw,
            ih h.2 n2 (by simpa using hk) hf' fun q hq hq2 hqw => hkeep q hq (by rw [List.flatten_cons]; exact List.mem_append_right _ hq2) hqw⟩
end Go.Proofs.YtefdhlfljpppfaaGreat
