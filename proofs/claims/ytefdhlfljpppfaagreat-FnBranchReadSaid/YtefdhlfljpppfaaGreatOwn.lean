/- Deep data of the call's own: every block once. No program is in sight here. -/
import Derived.Test.YtefdhlfljpppfaaGreatDeep
namespace Go.Proofs.YtefdhlfljpppfaaGreat
open Go.RowKit
set_option linter.unusedVariables false
set_option linter.unusedSimpArgs false

def blk : Option Addr → List Nat
  | none => []
  | some a => [a.block]
theorem blk_mem {A : Option Addr} {k : Nat} (h : k ∈ blk A) : ∃ a, A = some a ∧ a.block = k := by
  cases A with
  | none => cases h
  | some a => exact ⟨a, rfl, (show k = a.block by simpa [blk] using h).symm⟩
theorem blk_own {w : World} {base : Nat} {e : TypeId} {size n c : Nat} {A : Option Addr} {xs : List Value} (h : w.ownsRow base e size (.slice A n c) n xs) {k : Nat} (hk : k ∈ blk A) : A = some ⟨k, 0, none⟩ ∧ base ≤ k ∧ k < w.heap.size := by
  obtain ⟨a, rfl, ha⟩ := blk_mem hk
  rcases h.2 with ⟨hv, _⟩ | ⟨g, cap, cur, hv, hg, hh, _⟩
  · cases hv
  · injection hv with hv
    injection hv with hv
    subst hv
    simp only at ha
    subst ha
    exact ⟨rfl, hg, (Array.getElem?_eq_some_iff.1 hh).1⟩
theorem mem_blk {A : Option Addr} {k : Nat} (h : A = some ⟨k, 0, none⟩) : k ∈ blk A := by subst h; simp [blk]
theorem blk_nodup (A : Option Addr) : (blk A).Nodup := by cases A <;> simp [blk]
/-- how a thing of the call's own lies in cells, and in which blocks -/
abbrev ORel (α : Type) := α → World → List Value → List Nat → Prop
structure OGood {α : Type} (O : ORel α) (R : Rel α) : Prop where
  rd : ∀ {x w cs fp}, O x w cs fp → R (fun k => k ∈ fp) x w cs
  keep : ∀ {x w w' cs fp}, O x w cs fp → (∀ k ∈ fp, k < w.heap.size → w'.heap[k]? = w.heap[k]?) → O x w' cs fp
  lt : ∀ {x w cs fp}, O x w cs fp → ∀ k ∈ fp, k < w.heap.size
def AllO {α : Type} (O : ORel α) (w : World) : List α → List (List Value) → List (List Nat) → Prop
  | [], [], [] => True
  | x :: xs, v :: vs, f :: fs => O x w v f ∧ AllO O w xs vs fs
  | _, _, _ => False
section
variable {α : Type} {O : ORel α} {R : Rel α} {w w' : World} {xs ys : List α} {vs us : List (List Value)} {fs gs : List (List Nat)} {s : Nat}
theorem AllO.len (h : AllO O w xs vs fs) : vs.length = xs.length ∧ fs.length = xs.length := by
  induction xs generalizing vs fs with
  | nil => cases vs <;> cases fs <;> simp_all [AllO]
  | cons x xs ih =>
    cases vs with
    | nil => cases fs <;> exact h.elim
    | cons v vs =>
      cases fs with
      | nil => exact h.elim
      | cons f fs => obtain ⟨h1, h2⟩ := ih h.2; simp [h1, h2]
theorem AllO.append (h : AllO O w xs vs fs) (g : AllO O w ys us gs) : AllO O w (xs ++ ys) (vs ++ us) (fs ++ gs) := by
  induction xs generalizing vs fs with
  | nil =>
    cases vs with
    | nil => cases fs with | nil => exact g | cons => exact h.elim
    | cons => cases fs <;> exact h.elim
  | cons x xs ih =>
    cases vs with
    | nil => cases fs <;> exact h.elim
    | cons v vs => cases fs with | nil => exact h.elim | cons f fs => exact ⟨h.1, ih h.2⟩
theorem AllO.one {x : α} {cs : List Value} {f : List Nat} (h : O x w cs f) : AllO O w [x] [cs] [f] := ⟨h, trivial⟩
theorem AllO.keep (G : OGood O R) (h : AllO O w xs vs fs) (hk : ∀ k ∈ fs.flatten, k < w.heap.size → w'.heap[k]? = w.heap[k]?) : AllO O w' xs vs fs := by
  induction xs generalizing vs fs with
  | nil =>
    cases vs with
    | nil => cases fs with | nil => trivial | cons => exact h.elim
    | cons => cases fs <;> exact h.elim
  | cons x xs ih =>
    cases vs with
    | nil => cases fs <;> exact h.elim
    | cons v vs =>
      cases fs with
      | nil => exact h.elim
      | cons f fs => exact ⟨G.keep h.1 fun k hk' => hk k (by simp [hk']), ih h.2 fun k hk' => hk k (by rw [List.flatten_cons]; exact List.mem_append_right _ hk')⟩
theorem AllO.lt (G : OGood O R) (h : AllO O w xs vs fs) : ∀ k ∈ fs.flatten, k < w.heap.size := by
  induction xs generalizing vs fs with
  | nil =>
    cases vs with
    | nil => cases fs with | nil => intro k hk; cases hk | cons => exact h.elim
    | cons => cases fs <;> exact h.elim
  | cons x xs ih =>
    cases vs with
    | nil => cases fs <;> exact h.elim
    | cons v vs =>
      cases fs with
      | nil => exact h.elim
      | cons f fs =>
        intro k hk
        rw [List.flatten_cons] at hk
        rcases List.mem_append.1 hk with hk | hk
        · exact G.lt h.1 k hk
        · exact ih h.2 k hk
theorem AllO.rd {P : Nat → Prop} (G : OGood O R) (GR : Good R s) (h : AllO O w xs vs fs) (hP : ∀ k ∈ fs.flatten, P k) : AllR R P w xs vs := by
  induction xs generalizing vs fs with
  | nil =>
    cases vs with
    | nil => trivial
    | cons => cases fs <;> exact h.elim
  | cons x xs ih =>
    cases vs with
    | nil => cases fs <;> exact h.elim
    | cons v vs =>
      cases fs with
      | nil => exact h.elim
      | cons f fs => exact ⟨GR.mono (G.rd h.1) fun k hk _ => hP k (by simp [hk]), ih h.2 fun k hk => hP k (by rw [List.flatten_cons]; exact List.mem_append_right _ hk)⟩
/-- the k-th one, and all others -/
theorem AllO.split (h : AllO O w xs vs fs) (k : Nat) (hk : k < xs.length) : ∃ (hv : k < vs.length) (hf : k < fs.length), AllO O w (xs.take k) (vs.take k) (fs.take k) ∧ O xs[k] w vs[k] fs[k] ∧ AllO O w (xs.drop (k + 1)) (vs.drop (k + 1)) (fs.drop (k + 1)) := by
  induction xs generalizing vs fs k with
  | nil => simp at hk
  | cons x xs ih =>
    cases vs with
    | nil => cases fs <;> exact h.elim
    | cons v vs =>
      cases fs with
      | nil => exact h.elim
      | cons f fs =>
        cases k with
        | zero => exact ⟨by simp, by simp, by simp [AllO], h.1, by simpa using h.2⟩
        | succ k =>
          obtain ⟨h1, h2, h3, h4, h5⟩ := ih h.2 k (by simpa using hk)
          exact ⟨by simpa using h1, by simpa using h2, ⟨h.1, h3⟩, h4, h5⟩
theorem AllO.flat_len (G : OGood O R) (GR : Good R s) (h : AllO O w xs vs fs) : vs.flatten.length = xs.length * s := (h.rd G GR (P := fun _ => True) fun _ _ => trivial).flat_len GR
theorem AllO.each (G : OGood O R) (GR : Good R s) (h : AllO O w xs vs fs) : ∀ v ∈ vs, v.length = s := by
  induction xs generalizing vs fs with
  | nil =>
    cases vs with
    | nil => intro v hv; cases hv
    | cons => cases fs <;> exact h.elim
  | cons x xs ih =>
    cases vs with
    | nil => cases fs <;> exact h.elim
    | cons v vs =>
      cases fs with
      | nil => exact h.elim
      | cons f fs =>
        intro u hu
        rcases List.mem_cons.1 hu with rfl | hu
        · exact GR.len (G.rd h.1)
        · exact ih h.2 u hu
end
/-- cells of one thing of several, set -/
theorem setAt_flatten (s : Nat) (vs : List (List Value)) (hv : ∀ v ∈ vs, v.length = s) (k : Nat) (hk : k < vs.length) (x : List Value) (hx : x.length = s) : setAt vs.flatten (k * s) x = (vs.set k x).flatten := by
  induction vs generalizing k with
  | nil => simp at hk
  | cons y vs ih =>
    have hy := hv y (by simp)
    cases k with
    | zero => simp only [Nat.zero_mul, List.flatten_cons, List.set_cons_zero]; exact setAt_left _ _ _ (by rw [hx, hy])
    | succ k =>
      rw [List.flatten_cons, List.set_cons_succ, List.flatten_cons, ← ih (fun v h => hv v (by simp [h])) k (by simpa using hk), ← setAt_right, hy]
      congr 1
      rw [Nat.add_mul]; omega
/-- A slice of the call's own, with all that hangs on it. -/
def OwnD {α : Type} (O : ORel α) (e : TypeId) (s : Nat) (w : World) (A : Option Addr) (c : Nat) (xs : List α) (fp : List Nat) : Prop :=
  ∃ vs fs, AllO O w xs vs fs ∧ w.ownsRow 0 e s (.slice A xs.length c) xs.length vs.flatten ∧ fp = blk A ++ fs.flatten ∧ fp.Nodup
section
variable {α : Type} {O : ORel α} {R : Rel α} {w w' : World} {xs : List α} {s : Nat} {e : TypeId} {A : Option Addr} {c : Nat} {fp : List Nat}
theorem OwnD.lt (G : OGood O R) (h : OwnD O e s w A c xs fp) : ∀ k ∈ fp, k < w.heap.size := by
  obtain ⟨vs, fs, h1, h2, rfl, h4⟩ := h
  intro k hk
  rcases List.mem_append.1 hk with hk | hk
  · exact (blk_own h2 hk).2.2
  · exact h1.lt G k hk
theorem OwnD.keep (G : OGood O R) (h : OwnD O e s w A c xs fp) (hk : ∀ k ∈ fp, k < w.heap.size → w'.heap[k]? = w.heap[k]?) : OwnD O e s w' A c xs fp := by
  obtain ⟨vs, fs, h1, h2, rfl, h4⟩ := h
  exact ⟨vs, fs, h1.keep G fun k hk' => hk k (List.mem_append_right _ hk'), own_keep h2 fun g hA hg => hk g (List.mem_append_left _ (mem_blk hA)) hg, rfl, h4⟩
theorem OwnD.rd {P : Nat → Prop} (G : OGood O R) (GR : Good R s) (h : OwnD O e s w A c xs fp) (hP : ∀ k ∈ fp, P k) : RdD R P w A xs := by
  obtain ⟨vs, fs, h1, h2, rfl, h4⟩ := h
  exact ⟨vs, h1.rd G GR fun k hk => hP k (List.mem_append_right _ hk), (own_rdP h2).mono fun k hk _ => hP k (List.mem_append_left _ (mem_blk hk.2))⟩
theorem OwnD.new (G : OGood O R) (h : OwnD O e s w A c xs fp) (hb : Below w.heap.size w w') : OwnD O e s w' A c xs fp := h.keep G fun k _ hk => hb.block k hk
theorem OwnD.cap (h : OwnD O e s w A c xs fp) : xs.length ≤ c ∧ c ≤ maxLen := by
  obtain ⟨vs, fs, h1, h2, h3, h4⟩ := h
  exact own_cap h2
end
theorem own_base0 {w : World} {base : Nat} {e : TypeId} {size n c : Nat} {A : Option Addr} {xs : List Value} (h : w.ownsRow base e size (.slice A n c) n xs) : w.ownsRow 0 e size (.slice A n c) n xs := own_base h (Nat.zero_le _)
theorem fresh_nodup {a b : List Nat} {m : Nat} (ha : a.Nodup) (hb : b.Nodup) (h1 : ∀ k ∈ a, k < m) (h2 : ∀ k ∈ b, m ≤ k) : (a ++ b).Nodup := by
  rw [List.nodup_append]
  exact ⟨ha, hb, fun x hx y hy e => by have := h1 x hx; have := h2 y hy; omega⟩
end Go.Proofs.YtefdhlfljpppfaaGreat
