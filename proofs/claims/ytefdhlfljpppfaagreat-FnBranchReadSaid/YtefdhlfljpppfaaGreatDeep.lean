/- Deep data: slices whose elements hold slices. What is read, and in which blocks it may lie. No program is in sight here. -/
import Derived.Test.YtefdhlfljpppfaaGreatMem
namespace Go.Proofs.YtefdhlfljpppfaaGreat
open Go.RowKit
set_option linter.unusedVariables false
set_option linter.unusedSimpArgs false

/-- The slice value with the address A reads as the cells xs, which lie in a block of P. -/
def RdP (P : Nat → Prop) (w : World) (A : Option Addr) (xs : List Value) : Prop :=
  0 < xs.length → ∃ b off, A = some ⟨b, off, none⟩ ∧ P b ∧ b < w.heap.size ∧ ∀ j u, xs[j]? = some u → w.cell? ⟨b, off + j, none⟩ = some u
/-- the blocks of P that are there are as they were -/
def Kp (P : Nat → Prop) (w w' : World) : Prop := w.heap.size ≤ w'.heap.size ∧ ∀ k, P k → k < w.heap.size → w'.heap[k]? = w.heap[k]?
section
variable {P Q S : Nat → Prop} {w w' w'' : World} {A : Option Addr} {xs : List Value}
theorem Kp.below (h : Below w.heap.size w w') : Kp P w w' := ⟨h.size, fun k _ hk => h.block k hk⟩
theorem Kp.chg (h : Chg S w w') (hS : ∀ k, P k → ¬ S k) : Kp P w w' := ⟨h.size, fun k hp hk => h.block k hk (hS k hp)⟩
theorem Kp.trans (h : Kp P w w') (g : Kp P w' w'') : Kp P w w'' := ⟨Nat.le_trans h.1 g.1, fun k hp hk => (g.2 k hp (Nat.lt_of_lt_of_le hk h.1)).trans (h.2 k hp hk)⟩
theorem Kp.mono (h : Kp Q w w') (hPQ : ∀ k, P k → k < w.heap.size → Q k) : Kp P w w' := ⟨h.1, fun k hp hk => h.2 k (hPQ k hp hk) hk⟩
theorem Kp.refl (P : Nat → Prop) (w : World) : Kp P w w := ⟨Nat.le_refl _, fun _ _ _ => rfl⟩
theorem Kp.drewN (P : Nat → Prop) (w : World) (n : Nat) : Kp P w (w.drewN n) := ⟨Nat.le_refl _, fun _ _ _ => rfl⟩
theorem Kp.alloc (P : Nat → Prop) (w : World) (o : Obj) : Kp P w (w.alloc o) := Kp.below ((Below.refl _ _).alloc (Nat.le_refl _) o)
theorem RdP.rd (h : RdP P w A xs) : Rd w A xs := fun h0 => by
  obtain ⟨b, off, e, _, hb, hc⟩ := h h0
  exact ⟨b, off, e, hb, hc⟩
theorem RdP.of_rd (h : Rd w A xs) (hP : ∀ b off, A = some ⟨b, off, none⟩ → P b) : RdP P w A xs := fun h0 => by
  obtain ⟨b, off, e, hb, hc⟩ := h h0
  exact ⟨b, off, e, hP b off e, hb, hc⟩
theorem RdP.nil (P : Nat → Prop) (w : World) (A : Option Addr) : RdP P w A [] := fun h => absurd h (by simp)
theorem RdP.mono (h : RdP P w A xs) (hPQ : ∀ k, P k → k < w.heap.size → Q k) : RdP Q w A xs := fun h0 => by
  obtain ⟨b, off, e, hp, hb, hc⟩ := h h0
  exact ⟨b, off, e, hPQ b hp hb, hb, hc⟩
theorem RdP.keep (h : RdP P w A xs) (hk : Kp P w w') : RdP P w' A xs := fun h0 => by
  obtain ⟨b, off, e, hp, hb, hc⟩ := h h0
  exact ⟨b, off, e, hp, Nat.lt_of_lt_of_le hb hk.1, fun j u hu => (World.cell?_of_block (hk.2 b hp hb)).trans (hc j u hu)⟩
theorem RdP.take (h : RdP P w A xs) (n : Nat) : RdP P w A (xs.take n) := fun h0 => by
  have h1 : 0 < xs.length := by simp at h0; omega
  obtain ⟨b, off, e, hp, hb, hc⟩ := h h1
  refine ⟨b, off, e, hp, hb, fun j u hu => hc j u ?_⟩
  rw [List.getElem?_take] at hu
  split at hu
  · exact hu
  · cases hu
theorem RdP.drop {b off : Nat} (h : RdP P w (some ⟨b, off, none⟩) xs) (k : Nat) : RdP P w (some ⟨b, off + k, none⟩) (xs.drop k) := fun h0 => by
  obtain ⟨b', off', hA, hp, hb, hc⟩ := h (by simp at h0; omega)
  injection hA with hA
  injection hA with q1 q2
  subst q1
  subst q2
  refine ⟨b, off + k, rfl, hp, hb, fun j u hu => ?_⟩
  rw [Nat.add_assoc]
  exact hc _ u (by rw [← hu, List.getElem?_drop])
theorem own_rdP {base : Nat} {e : TypeId} {size c n : Nat} (h : w.ownsRow base e size (.slice A n c) n xs) : RdP (fun k => base ≤ k ∧ A = some ⟨k, 0, none⟩) w A xs := by
  refine RdP.of_rd (own_rd h) fun b off hA => ?_
  rcases h.2 with ⟨hv, _⟩ | ⟨g, cap, cur, hv, hg, _⟩
  · injection hv with hv; rw [hA] at hv; cases hv
  · injection hv with hv
    rw [hA] at hv
    injection hv with hv
    injection hv with h1 h2
    subst h1; subst h2
    exact ⟨hg, hA⟩
theorem own_rdB {base base' : Nat} {e : TypeId} {size c n : Nat} (h : w.ownsRow base e size (.slice A n c) n xs) (hb : base' ≤ base) : RdP (fun k => base' ≤ k) w A xs := (own_rdP h).mono fun _ hk _ => Nat.le_trans hb hk.1
end

/-- how a thing lies in cells, with all that hangs on it in blocks of P -/
abbrev Rel (α : Type) := (Nat → Prop) → α → World → List Value → Prop
structure Good {α : Type} (R : Rel α) (s : Nat) : Prop where
  len : ∀ {P x w cs}, R P x w cs → cs.length = s
  mono : ∀ {P Q : Nat → Prop} {x w cs}, R P x w cs → (∀ k, P k → k < w.heap.size → Q k) → R Q x w cs
  keep : ∀ {P : Nat → Prop} {x w w' cs}, R P x w cs → Kp P w w' → R P x w' cs
def AllR {α : Type} (R : Rel α) (P : Nat → Prop) (w : World) : List α → List (List Value) → Prop
  | [], [] => True
  | x :: xs, v :: vs => R P x w v ∧ AllR R P w xs vs
  | _, _ => False
section
variable {α : Type} {R : Rel α} {P Q : Nat → Prop} {w w' : World} {xs ys : List α} {vs us : List (List Value)} {s : Nat}
theorem AllR.length (h : AllR R P w xs vs) : vs.length = xs.length := by
  induction xs generalizing vs with
  | nil => cases vs with | nil => rfl | cons => exact h.elim
  | cons x xs ih => cases vs with | nil => exact h.elim | cons v vs => simp [ih h.2]
theorem AllR.get (h : AllR R P w xs vs) {k : Nat} (hk : k < xs.length) : ∃ hv : k < vs.length, R P xs[k] w vs[k] := by
  induction xs generalizing vs k with
  | nil => simp at hk
  | cons x xs ih =>
    cases vs with
    | nil => exact h.elim
    | cons v vs =>
      cases k with
      | zero => exact ⟨by simp, h.1⟩
      | succ k =>
        obtain ⟨h1, h2⟩ := ih h.2 (k := k) (by simpa using hk)
        exact ⟨by simpa using h1, h2⟩
theorem AllR.of_get (hl : vs.length = xs.length) (h : ∀ k (hk : k < xs.length) (hv : k < vs.length), R P xs[k] w vs[k]) : AllR R P w xs vs := by
  induction xs generalizing vs with
  | nil => cases vs with | nil => trivial | cons => simp at hl
  | cons x xs ih =>
    cases vs with
    | nil => simp at hl
    | cons v vs => exact ⟨h 0 (by simp) (by simp), ih (by simpa using hl) fun k hk hv => h (k + 1) (by simpa using hk) (by simpa using hv)⟩
theorem AllR.append (h : AllR R P w xs vs) (g : AllR R P w ys us) : AllR R P w (xs ++ ys) (vs ++ us) := by
  induction xs generalizing vs with
  | nil => cases vs with | nil => exact g | cons => exact h.elim
  | cons x xs ih => cases vs with | nil => exact h.elim | cons v vs => exact ⟨h.1, ih h.2⟩
theorem AllR.one {x : α} {cs : List Value} (h : R P x w cs) : AllR R P w [x] [cs] := ⟨h, trivial⟩
theorem AllR.map {R' : Rel α} {P' : Nat → Prop} (h : AllR R P w xs vs) (f : ∀ x cs, R P x w cs → R' P' x w' cs) : AllR R' P' w' xs vs := by
  induction xs generalizing vs with
  | nil => cases vs with | nil => trivial | cons => exact h.elim
  | cons x xs ih => cases vs with | nil => exact h.elim | cons v vs => exact ⟨f _ _ h.1, ih h.2⟩
theorem AllR.mono (G : Good R s) (h : AllR R P w xs vs) (hPQ : ∀ k, P k → k < w.heap.size → Q k) : AllR R Q w xs vs := h.map fun _ _ r => G.mono r hPQ
theorem AllR.keep (G : Good R s) (h : AllR R P w xs vs) (hk : Kp P w w') : AllR R P w' xs vs := h.map fun _ _ r => G.keep r hk
theorem AllR.take (h : AllR R P w xs vs) (n : Nat) : AllR R P w (xs.take n) (vs.take n) := by
  induction n generalizing xs vs with
  | zero => simp [AllR]
  | succ n ih =>
    cases xs with
    | nil => cases vs with | nil => simp [AllR] | cons => exact h.elim
    | cons x xs => cases vs with | nil => exact h.elim | cons v vs => exact ⟨h.1, ih h.2⟩
theorem AllR.drop (h : AllR R P w xs vs) (n : Nat) : AllR R P w (xs.drop n) (vs.drop n) := by
  induction n generalizing xs vs with
  | zero => exact h
  | succ n ih =>
    cases xs with
    | nil => cases vs with | nil => simp [AllR] | cons => exact h.elim
    | cons x xs => cases vs with | nil => exact h.elim | cons v vs => exact ih h.2
theorem AllR.set (h : AllR R P w xs vs) {k : Nat} {x : α} {cs : List Value} (hx : R P x w cs) : AllR R P w (xs.set k x) (vs.set k cs) := by
  induction xs generalizing vs k with
  | nil => cases vs with | nil => exact trivial | cons => exact h.elim
  | cons y xs ih =>
    cases vs with
    | nil => exact h.elim
    | cons v vs =>
      cases k with
      | zero => exact ⟨hx, h.2⟩
      | succ k => exact ⟨h.1, ih h.2⟩
theorem AllR.flat_len (G : Good R s) (h : AllR R P w xs vs) : vs.flatten.length = xs.length * s := by
  induction xs generalizing vs with
  | nil => cases vs with | nil => simp | cons => exact h.elim
  | cons x xs ih =>
    cases vs with
    | nil => exact h.elim
    | cons v vs => rw [List.flatten_cons, List.length_append, G.len h.1, ih h.2, List.length_cons, Nat.add_mul]; omega
theorem AllR.flat_get (G : Good R s) (h : AllR R P w xs vs) {k : Nat} (hk : k < vs.length) {j : Nat} (hj : j < s) : vs.flatten[k * s + j]? = vs[k][j]? := by
  induction xs generalizing vs k with
  | nil => cases vs with | nil => simp at hk | cons => exact h.elim
  | cons x xs ih =>
    cases vs with
    | nil => exact h.elim
    | cons v vs =>
      have hv := G.len h.1
      cases k with
      | zero => simp [List.getElem?_append, hv, hj]
      | succ k =>
        have e : (k + 1) * s + j = s + (k * s + j) := by rw [Nat.add_mul]; omega
        rw [List.flatten_cons, e, List.getElem?_append_right (by rw [hv]; omega), hv, Nat.add_sub_cancel_left]
        simpa using ih h.2 (k := k) (by simpa using hk)
end
/-- The slice value with the address A reads as the things xs. -/
def RdD {α : Type} (R : Rel α) (P : Nat → Prop) (w : World) (A : Option Addr) (xs : List α) : Prop := ∃ vs, AllR R P w xs vs ∧ RdP P w A vs.flatten
section
variable {α : Type} {R : Rel α} {P Q : Nat → Prop} {w w' : World} {xs ys : List α} {s : Nat} {A : Option Addr}
theorem RdD.nil (R : Rel α) (P : Nat → Prop) (w : World) (A : Option Addr) : RdD R P w A [] := ⟨[], trivial, RdP.nil _ _ _⟩
theorem RdD.mono (G : Good R s) (h : RdD R P w A xs) (hPQ : ∀ k, P k → k < w.heap.size → Q k) : RdD R Q w A xs := by
  obtain ⟨vs, h1, h2⟩ := h
  exact ⟨vs, h1.mono G hPQ, h2.mono hPQ⟩
theorem RdD.keep (G : Good R s) (h : RdD R P w A xs) (hk : Kp P w w') : RdD R P w' A xs := by
  obtain ⟨vs, h1, h2⟩ := h
  exact ⟨vs, h1.keep G hk, h2.keep hk⟩
theorem RdD.new (G : Good R s) (h : RdD R P w A xs) (hb : Below w.heap.size w w') : RdD R P w' A xs := h.keep G (Kp.below hb)
theorem RdD.drewN (G : Good R s) (h : RdD R P w A xs) (n : Nat) : RdD R P (w.drewN n) A xs := h.keep G (Kp.drewN P w n)
/-- the cells of one element, and what they are -/
theorem RdD.get (G : Good R s) (hs : 0 < s) (h : RdD R P w A xs) {k : Nat} (hk : k < xs.length) :
    ∃ b off cs, A = some ⟨b, off, none⟩ ∧ P b ∧ b < w.heap.size ∧ R P xs[k] w cs ∧ ∀ j u, cs[j]? = some u → w.cell? ⟨b, off + (k * s + j), none⟩ = some u := by
  obtain ⟨vs, h1, h2⟩ := h
  obtain ⟨hv, hr⟩ := h1.get hk
  obtain ⟨b, off, rfl, hp, hb, hc⟩ := h2 (by rw [h1.flat_len G]; exact Nat.mul_pos (by omega) hs)
  refine ⟨b, off, vs[k], rfl, hp, hb, hr, fun j u hu => hc _ u ?_⟩
  have hj : j < s := by
    have := (List.getElem?_eq_some_iff.1 hu).1
    rwa [G.len hr] at this
  rw [h1.flat_get G hv hj, hu]
theorem RdD.take (G : Good R s) (h : RdD R P w A xs) (n : Nat) : RdD R P w A (xs.take n) := by
  obtain ⟨vs, h1, h2⟩ := h
  refine ⟨vs.take n, h1.take n, ?_⟩
  have hl : (vs.take n).flatten = vs.flatten.take ((xs.take n).length * s) := by
    have e1 := (h1.take n).flat_len G
    have e2 : vs.flatten = (vs.take n).flatten ++ (vs.drop n).flatten := by rw [← List.flatten_append, List.take_append_drop]
    rw [e2, ← e1, List.take_left]
  rw [hl]
  exact h2.take _
theorem RdD.drop {b off : Nat} (G : Good R s) (h : RdD R P w (some ⟨b, off, none⟩) xs) (n : Nat) (hn : n ≤ xs.length) : RdD R P w (some ⟨b, off + n * s, none⟩) (xs.drop n) := by
  obtain ⟨vs, h1, h2⟩ := h
  refine ⟨vs.drop n, h1.drop n, ?_⟩
  have hl : (vs.drop n).flatten = vs.flatten.drop (n * s) := by
    have e1 := (h1.take n).flat_len G
    have e2 : vs.flatten = (vs.take n).flatten ++ (vs.drop n).flatten := by rw [← List.flatten_append, List.take_append_drop]
    rw [List.length_take, Nat.min_eq_left hn] at e1
    rw [e2, ← e1, List.drop_left]
  rw [hl]
  exact h2.drop _
end
/-- flat things -/
def flatR {α : Type} (f : α → List Value) : Rel α := fun _ x _ cs => cs = f x
theorem flat_good {α : Type} (f : α → List Value) (s : Nat) (hf : ∀ x, (f x).length = s) : Good (flatR f) s := ⟨fun h => by rw [h, hf], fun h _ => h, fun h _ => h⟩
/-- a row of numbers, behind a slice -/
def rowR : Rel (List Int) := fun P xs w cs => ∃ A c, cs = [.slice A xs.length c] ∧ xs.length ≤ c ∧ c ≤ maxLen ∧ RdP P w A (xs.map (.int .i64))
theorem row_good : Good rowR 1 :=
  ⟨fun ⟨_, _, h, _⟩ => by rw [h]; rfl, fun ⟨A, c, h1, h2, h3, h4⟩ hPQ => ⟨A, c, h1, h2, h3, h4.mono hPQ⟩, fun ⟨A, c, h1, h2, h3, h4⟩ hk => ⟨A, c, h1, h2, h3, h4.keep hk⟩⟩
/-- the blocks that a row of the call's own does not use: what hangs on its elements -/
def Off (base : Nat) (A : Option Addr) (k : Nat) : Prop := base ≤ k ∧ A ≠ some ⟨k, 0, none⟩
section
variable {α : Type} {R : Rel α} {s base s5 : Nat} {A A6 : Option Addr} {w w6 : World} {o : Obj} {xs : List α} {vs : List (List Value)} {x : α} {cs : List Value} {T0 : Prop}
theorem off_new (hs : base ≤ s5) (hr : ∀ g, A = some ⟨g, 0, none⟩ → base ≤ g ∧ g < s5) (hd : A6 = A ∨ (A6 = some ⟨(w.alloc o).heap.size, 0, none⟩ ∧ T0)) : ∀ k, s5 ≤ k → k < w.heap.size → Off base A6 k := fun k hk hkw => ⟨by omega, fun e => by
  rcases hd with hd | ⟨hd, _⟩
  · have := hr k (by rw [← hd, e]); omega
  · rw [e] at hd
    injection hd with hd
    injection hd with hd
    simp at hd
    omega⟩
theorem off_old (hd : A6 = A ∨ (A6 = some ⟨(w.alloc o).heap.size, 0, none⟩ ∧ T0)) : ∀ k, Off base A k → k < w.heap.size → Off base A6 k := fun k hk hkw => ⟨hk.1, fun e => by
  rcases hd with hd | ⟨hd, _⟩
  · exact hk.2 (by rw [← hd, e])
  · rw [e] at hd
    injection hd with hd
    injection hd with hd
    simp at hd
    omega⟩
theorem off_kp (hc : Chg (fun k => A = some ⟨k, 0, none⟩) (w.alloc o) w6) : Kp (Off base A) w w6 := (Kp.alloc _ w o).trans (Kp.chg hc fun k hk => hk.2)
theorem new_kp (hr : ∀ g, A = some ⟨g, 0, none⟩ → base ≤ g ∧ g < s5) (hc : Chg (fun k => A = some ⟨k, 0, none⟩) (w.alloc o) w6) : Kp (fun k => s5 ≤ k) w w6 :=
  (Kp.alloc _ w o).trans (Kp.chg hc fun k hk e => by have := hr k e; omega)
/-- one more thing, made behind the row's block, is put behind the row -/
theorem deep_app (G : Good R s) (hall : AllR R (Off base A) w xs vs) (hx : R (fun k => s5 ≤ k) x w cs) (hs : base ≤ s5) (hr : ∀ g, A = some ⟨g, 0, none⟩ → base ≤ g ∧ g < s5)
    (hc : Chg (fun k => A = some ⟨k, 0, none⟩) (w.alloc o) w6) (hd : A6 = A ∨ (A6 = some ⟨(w.alloc o).heap.size, 0, none⟩ ∧ T0)) : AllR R (Off base A6) w6 (xs ++ [x]) (vs ++ [cs]) := by
  have h1 : AllR R (fun k => Off base A6 k ∧ A ≠ some ⟨k, 0, none⟩) w xs vs := hall.mono G fun k hk hkw => ⟨off_old hd k hk hkw, hk.2⟩
  have h2 : R (fun k => Off base A6 k ∧ A ≠ some ⟨k, 0, none⟩) x w cs := G.mono hx fun k hk hkw => ⟨off_new hs hr hd k hk hkw, fun e => by have := hr k e; omega⟩
  exact ((h1.append (AllR.one h2)).keep G ((Kp.alloc _ w o).trans (Kp.chg hc fun k hk => hk.2))).mono G fun k hk _ => hk.1
end
end Go.Proofs.YtefdhlfljpppfaaGreat
