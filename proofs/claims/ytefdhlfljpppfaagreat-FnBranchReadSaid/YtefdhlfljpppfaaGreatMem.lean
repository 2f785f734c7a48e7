/- Words for memory: what a slice value reads as, rows that the call owns, worlds that differ in some blocks alone. No program is in sight here. -/
import Derived.WalkKit
import Derived.Below
import Derived.Laws.OwnMore
import Derived.Laws.MakeOwn
import Derived.Laws.Entries
import Derived.Deep.AppendLies
import Derived.Deep.Draws
import Derived.Maps.AppendAt
import Derived.Deep.QuietTactic
import Derived.BigQuiet
namespace Go.Proofs.YtefdhlfljpppfaaGreat
open Go.RowKit
set_option linter.unusedVariables false
set_option linter.unusedSimpArgs false

theorem retb {a b : Bool} (h : a = b) : Ending.returned (Value.bool a) = Ending.returned (Value.bool b) := by rw [h]
theorem reti {a b : Int} (h : a = b) : Ending.returned (Value.int .i64 a) = Ending.returned (Value.int .i64 b) := by rw [h]

def inB (n lo hi : Int) : Bool := decide (lo ≤ n) && decide (n ≤ hi)
theorem inB_true {n lo hi : Int} : inB n lo hi = true ↔ lo ≤ n ∧ n ≤ hi := by simp [inB]
theorem inB_false {n lo hi : Int} : inB n lo hi = false ↔ n < lo ∨ hi < n := by simp [inB]; omega

/-- hide a fact from the walk, and get it back -/
theorem hide {p : Prop} (h : p) : Hid p := h
theorem unhide {p : Prop} (h : Hid p) : p := h

/-- Only blocks of S differ, and there are new ones. -/
structure Chg (S : Nat → Prop) (w w' : World) : Prop where
  os : w'.os = w.os
  tape : w'.tape = w.tape
  output : w'.output = w.output
  size : w.heap.size ≤ w'.heap.size
  block : ∀ k, k < w.heap.size → ¬ S k → w'.heap[k]? = w.heap[k]?

section
variable {S T : Nat → Prop} {w w' a b c : World}
theorem Chg.refl (S : Nat → Prop) (w : World) : Chg S w w := ⟨rfl, rfl, rfl, Nat.le_refl _, fun _ _ _ => rfl⟩
theorem Chg.trans (h : Chg S a b) (k : Chg S b c) : Chg S a c :=
  ⟨k.os.trans h.os, k.tape.trans h.tape, k.output.trans h.output, Nat.le_trans h.size k.size, fun i hi hn => (k.block i (Nat.lt_of_lt_of_le hi h.size) hn).trans (h.block i hi hn)⟩
theorem Chg.mono (h : Chg S a b) (hST : ∀ k, k < a.heap.size → S k → T k) : Chg T a b := ⟨h.os, h.tape, h.output, h.size, fun k hk hn => h.block k hk fun hs => hn (hST k hk hs)⟩
theorem Chg.of_below {B : Nat} (h : Below B a b) (hB : ∀ k, B ≤ k → k < a.heap.size → S k) : Chg S a b :=
  ⟨h.os, h.tape, h.output, h.size, fun k hk hn => h.block k (by rcases Nat.lt_or_ge k B with h1 | h1; exact h1; exact absurd (hB k h1 hk) hn)⟩
theorem Chg.of_new (h : Below a.heap.size a b) : Chg S a b := Chg.of_below h fun k h1 h2 => by omega
theorem Chg.below {B : Nat} (h : Chg S a b) (hB : ∀ k, k < B → ¬ S k) (hs : B ≤ a.heap.size) : Below B a b :=
  ⟨h.os, h.tape, h.output, h.size, fun k hk => h.block k (by omega) (hB k hk)⟩
theorem Chg.new (h : Chg (fun _ => False) a b) : Below a.heap.size a b := h.below (fun _ _ => id) (Nat.le_refl _)
theorem Chg.of_grown {row : Option Nat} (h : a.grownBy b row) (hr : ∀ k, row = some k → S k) : Chg S a b :=
  ⟨h.os, h.tape, h.output, h.size, fun k hk hn => h.block k hk fun e => hn (hr k e.symm)⟩
theorem Chg.grown {n : Nat} (h : Chg (fun k => k = n) a b) : a.grownBy b (some n) := ⟨h.os, h.tape, h.output, h.size, fun k hk hn => h.block k hk fun e => hn (by rw [e])⟩
theorem Chg.drew (h : Chg S a w) : Chg S a w.drew := ⟨h.os, h.tape, h.output, h.size, h.block⟩
theorem Chg.drewN (h : Chg S a w) (n : Nat) : Chg S a (w.drewN n) := ⟨h.os, h.tape, h.output, h.size, h.block⟩
theorem Chg.alloc (h : Chg S a w) (o : Obj) : Chg S a (w.alloc o) :=
  h.trans ⟨rfl, rfl, rfl, by simp, fun k hk _ => Below.heap_alloc _ _ _ hk⟩
theorem Chg.setCell (h : Chg S a w) {p : Addr} (hp : S p.block ∨ a.heap.size ≤ p.block) (u : Value) : Chg S a (w.setCell p u) :=
  ⟨h.os, h.tape, h.output, by simpa [World.setCell] using h.size, fun k hk hn => (Below.heap_setCell _ _ _ _ (fun e => by subst e; rcases hp with h1 | h1; exact hn h1; omega)).trans (h.block k hk hn)⟩
theorem Chg.cell (h : Chg S a b) {p : Addr} {u : Value} (hc : a.cell? p = some u) (hp : ¬ S p.block) : b.cell? p = some u :=
  (World.cell?_of_block (w := a) (h.block p.block (World.block_lt_of_cell? a p hc) hp)).trans hc
end

theorem below_drewN {B : Nat} {a w : World} (h : Below B a w) (n : Nat) : Below B a (w.drewN n) := ⟨h.os, h.tape, h.output, h.size, h.block⟩
theorem below_then {B : Nat} {a b c : World} (h : Below B a b) (k : Below b.heap.size b c) (hB : B ≤ b.heap.size) : Below B a c := h.trans (k.mono hB)

theorem bthen {a b c : World} (h : Below a.heap.size a b) (k : Below b.heap.size b c) : Below a.heap.size a c := below_then h k h.size

section
variable {P : Program} {f : FuncId} {args : Array Value} {w : World} {a n : Nat} {v : Value}
/-- contracts, handed to a quiet region -/
theorem quiet_add (h : Calls P f args (w.drewN (a + n)) fun e w' => e = .returned v ∧ ∃ m, (w.drewN (a + n)).drewN m = w') :
    Calls P f args (w.drewN (a + n)) fun e w'' => e = .returned v ∧ ∃ m, w'' = w.drewN (a + m) :=
  h.mono fun _ _ ⟨he, m, hm⟩ => ⟨he, n + m, by rw [← hm, World.drewN_drewN, Nat.add_assoc]⟩
theorem quiet_add_left (h : Calls P f args (w.drewN (a + n)) fun e w' => e = .returned v ∧ w.drewN (a + n) = w') :
    Calls P f args (w.drewN (a + n)) fun e w'' => e = .returned v ∧ ∃ m, w'' = w.drewN (a + m) :=
  h.mono fun _ _ ⟨he, hm⟩ => ⟨he, n, hm.symm⟩
theorem quiet_left (h : Calls P f args (w.drewN n) fun e w' => e = .returned v ∧ w.drewN n = w') : Calls P f args (w.drewN n) fun e w'' => e = .returned v ∧ ∃ m, w'' = w.drewN m :=
  h.mono fun _ _ ⟨he, hm⟩ => ⟨he, n, hm.symm⟩
theorem quiet_draws (h : Calls P f args (w.drewN n) fun e w' => e = .returned v ∧ ∃ m, (w.drewN n).drewN m = w') : Calls P f args (w.drewN n) fun e w'' => e = .returned v ∧ ∃ m, w'' = w.drewN m :=
  h.mono fun _ _ ⟨he, m, hm⟩ => ⟨he, n + m, by rw [← hm, World.drewN_drewN]⟩
end

/-- The slice value with the address A reads as the cells xs. -/
def Rd (w : World) (A : Option Addr) (xs : List Value) : Prop :=
  0 < xs.length → ∃ b off, A = some ⟨b, off, none⟩ ∧ b < w.heap.size ∧ ∀ j u, xs[j]? = some u → w.cell? ⟨b, off + j, none⟩ = some u

section
variable {w w' : World} {A : Option Addr} {xs : List Value}
theorem Rd.nil (w : World) (A : Option Addr) : Rd w A [] := fun h => absurd h (by simp)
theorem Rd.keep (h : Rd w A xs) (hk : ∀ p : Addr, p.block < w.heap.size → w'.cell? p = w.cell? p) (hs : w.heap.size ≤ w'.heap.size) : Rd w' A xs := fun h0 => by
  obtain ⟨b, off, e, hb, hc⟩ := h h0
  exact ⟨b, off, e, Nat.lt_of_lt_of_le hb hs, fun j u hu => (hk _ hb).trans (hc j u hu)⟩
theorem Rd.below {B : Nat} (h : Rd w A xs) (hb : Below B w w') (hB : w.heap.size ≤ B) : Rd w' A xs := h.keep (fun p hp => hb.cell (p := p) (by omega)) hb.size
theorem Rd.new (h : Rd w A xs) (hb : Below w.heap.size w w') : Rd w' A xs := h.below hb (Nat.le_refl _)
theorem Rd.alloc (h : Rd w A xs) (o : Obj) : Rd (w.alloc o) A xs := h.keep (fun p hp => World.cell?_alloc_lt w o p hp) (by simp)
theorem Rd.drew (h : Rd w A xs) : Rd w.drew A xs := h
theorem Rd.drewN (h : Rd w A xs) (n : Nat) : Rd (w.drewN n) A xs := h
theorem Rd.below' {w0 : World} {B : Nat} (h : Rd w0 A xs) (hb : Below B w0 w) (hB : w0.heap.size ≤ B) : Rd w A xs := h.below hb hB
/-- what is read by cells of structs -/
theorem Rd.take (h : Rd w A xs) (n : Nat) : Rd w A (xs.take n) := fun h0 => by
  have h1 : 0 < xs.length := by simp at h0; omega
  obtain ⟨b, off, e, hb, hc⟩ := h h1
  refine ⟨b, off, e, hb, fun j u hu => hc j u ?_⟩
  rw [List.getElem?_take] at hu
  split at hu
  · exact hu
  · cases hu
theorem Rd.int {zs : List Int} (h : Rd w A (zs.map (Value.int .i64))) {k : Nat} (hk : k < zs.length) :
    ∃ b off, A = some ⟨b, off, none⟩ ∧ b < w.heap.size ∧ w.cell? ⟨b, off + k, none⟩ = some (.int .i64 zs[k]) := by
  obtain ⟨b, off, rfl, hb, hc⟩ := h (by simp; omega)
  exact ⟨b, off, rfl, hb, hc k _ (by simp [hk])⟩
end

/-- The cells of a list of things, each of which has s cells. -/
theorem length_flat {α : Type} (f : α → List Value) (s : Nat) (hf : ∀ x, (f x).length = s) (xs : List α) : (xs.flatMap f).length = xs.length * s := by
  induction xs with
  | nil => simp
  | cons x xs ih => simp [hf, ih, Nat.add_mul]; omega
theorem get_flat {α : Type} (f : α → List Value) (s : Nat) (hf : ∀ x, (f x).length = s) (xs : List α) (k : Nat) (hk : k < xs.length) (j : Nat) (hj : j < s) : (xs.flatMap f)[k * s + j]? = (f xs[k])[j]? := by
  induction xs generalizing k with
  | nil => simp at hk
  | cons x xs ih =>
    cases k with
    | zero => simp [List.getElem?_append, hf, hj]
    | succ k =>
      have hk' : k < xs.length := by simpa using hk
      have e : (k + 1) * s + j = s + (k * s + j) := by rw [Nat.add_mul]; omega
      rw [List.flatMap_cons, e, List.getElem?_append_right (by rw [hf]; omega), hf, Nat.add_sub_cancel_left]
      simpa using ih k hk'
theorem Rd.flat {α : Type} {w : World} {A : Option Addr} (f : α → List Value) (s : Nat) (hf : ∀ x, (f x).length = s) (hs : 0 < s) {xs : List α} (h : Rd w A (xs.flatMap f)) {k : Nat} (hk : k < xs.length) :
    ∃ b off, A = some ⟨b, off, none⟩ ∧ b < w.heap.size ∧ ∀ j u, (f xs[k])[j]? = some u → w.cell? ⟨b, off + (k * s + j), none⟩ = some u := by
  obtain ⟨b, off, rfl, hb, hc⟩ := h (by rw [length_flat f s hf]; exact Nat.mul_pos (by omega) hs)
  refine ⟨b, off, rfl, hb, fun j u hu => hc _ _ ?_⟩
  have hj : j < s := by
    have := (List.getElem?_eq_some_iff.1 hu).1
    rw [hf] at this
    exact this
  rw [get_flat f s hf xs k hk j hj, hu]

section
variable {w w' : World} {base base' : Nat} {e : TypeId} {size : Nat} {A : Option Addr} {c n : Nat} {xs : List Value}
theorem own_base (h : w.ownsRow base e size (.slice A n c) n xs) (hb : base' ≤ base) : w.ownsRow base' e size (.slice A n c) n xs := by
  refine ⟨h.1, ?_⟩
  rcases h.2 with h2 | ⟨g, cap, cur, hv, hg, r⟩
  · exact .inl h2
  · exact .inr ⟨g, cap, cur, hv, Nat.le_trans hb hg, r⟩
theorem own_addr (h : w.ownsRow base e size (.slice A n c) n xs) (hn : 0 < n) : ∃ g, A = some ⟨g, 0, none⟩ ∧ base ≤ g ∧ g < w.heap.size := by
  rcases h.2 with ⟨_, h2⟩ | ⟨g, cap, cur, hv, hg, hh, _⟩
  · omega
  · injection hv with hA
    exact ⟨g, hA, hg, (Array.getElem?_eq_some_iff.1 hh).1⟩
theorem own_cell {g : Nat} (h : w.ownsRow base e size (.slice (some ⟨g, 0, none⟩) n c) n xs) (j : Nat) (hj : j < xs.length) : w.cell? ⟨g, j, none⟩ = some xs[j] := by
  have := h.cells (g := g) rfl j xs[j] (List.getElem?_eq_getElem hj)
  have hadd : (⟨g, 0, none⟩ : Addr).add j = ⟨g, j, none⟩ := by unfold Addr.add; split <;> simp_all
  rwa [hadd] at this
theorem own_frozen {g : Nat} (h : w.ownsRow base e size (.slice (some ⟨g, 0, none⟩) n c) n xs) (j : Nat) : w.frozen? ⟨g, j, none⟩ = false := by
  rcases h.2 with ⟨hv, _⟩ | ⟨g', cap, cur, hv, hg, hh, _⟩
  · cases hv
  · injection hv with hA
    injection hA with hA
    injection hA with hA
    subst hA
    simp [World.frozen?, hh]
theorem own_rd (h : w.ownsRow base e size (.slice A n c) n xs) : Rd w A xs := fun h0 => by
  rcases h.2 with ⟨hv, h2⟩ | ⟨g, cap, cur, hv, hg, hh, _⟩
  · have := h.1
    subst h2
    omega
  · injection hv with hA
    subst hA
    refine ⟨g, 0, rfl, (Array.getElem?_eq_some_iff.1 hh).1, fun j u hu => ?_⟩
    obtain ⟨hj, rfl⟩ := List.getElem?_eq_some_iff.1 hu
    rw [Nat.zero_add]
    exact own_cell h j hj
/-- the row is kept while its block is -/
theorem own_keep (h : w.ownsRow base e size (.slice A n c) n xs) (hk : ∀ g, A = some ⟨g, 0, none⟩ → g < w.heap.size → w'.heap[g]? = w.heap[g]?) : w'.ownsRow base e size (.slice A n c) n xs := by
  refine ⟨h.1, ?_⟩
  rcases h.2 with h2 | ⟨g, cap, cur, hv, hg, hh, r⟩
  · exact .inl h2
  · injection hv with hA
    exact .inr ⟨g, cap, cur, by rw [hA]; congr, hg, (hk g hA (Array.getElem?_eq_some_iff.1 hh).1).trans hh, r⟩
theorem own_new (h : w.ownsRow base e size (.slice A n c) n xs) (hb : Below w.heap.size w w') : w'.ownsRow base e size (.slice A n c) n xs := own_keep h fun g _ hg => hb.block g hg
theorem own_alloc (h : w.ownsRow base e size (.slice A n c) n xs) (o : Obj) : (w.alloc o).ownsRow base e size (.slice A n c) n xs := own_keep h fun g _ hg => Below.heap_alloc _ _ _ hg
theorem own_chg {S : Nat → Prop} (h : w.ownsRow base e size (.slice A n c) n xs) (hb : Chg S w w') (hS : ∀ g, A = some ⟨g, 0, none⟩ → ¬ S g) : w'.ownsRow base e size (.slice A n c) n xs := own_keep h fun g hA hg => hb.block g hg (hS g hA)
theorem own_set {g : Nat} (h : w.ownsRow base e size (.slice (some ⟨g, 0, none⟩) n c) n xs) (j : Nat) (u : Value) : (w.setCell ⟨g, j, none⟩ u).ownsRow base e size (.slice (some ⟨g, 0, none⟩) n c) n (xs.set j u) := by
  refine ⟨by rw [List.length_set]; exact h.1, ?_⟩
  rcases h.2 with ⟨hv, _⟩ | ⟨g', cap, cur, hv, hg, hh, hc, hm, hsz, ht⟩
  · cases hv
  · injection hv with hA hn hcap
    injection hA with hA
    injection hA with hA
    subst hA
    subst hcap
    refine .inr ⟨g, c, cur.setIfInBounds j u, rfl, hg, ?_, hc, hm, by rw [Array.size_setIfInBounds]; exact hsz, ?_⟩
    · simp [World.setCell, Array.getElem?_modify, hh]
    · rw [← ht]
      simp [List.take_set]
theorem own_far {p : Addr} (h : w.ownsRow base e size (.slice A n c) n xs) (hp : ∀ g, A = some ⟨g, 0, none⟩ → p.block ≠ g) (u : Value) : (w.setCell p u).ownsRow base e size (.slice A n c) n xs :=
  own_keep h fun _ hA _ => Below.heap_setCell _ _ _ _ (fun e => hp _ hA e.symm)
theorem own_nil (w : World) (base : Nat) (e : TypeId) (size : Nat) : w.ownsRow base e size (.slice none 0 0) 0 [] := World.ownsRow_nil w base e size
/-- a row that 'make' or a literal has just made, whole -/
theorem own_made (w : World) (cur : Array Value) (n : Nat) (hb : base ≤ w.heap.size) (hm : n ≤ maxLen) (hs : cur.size = n * size) :
    (w.alloc (.cells cur e)).ownsRow base e size (.slice (some ⟨w.heap.size, 0, none⟩) n n) n cur.toList :=
  ⟨by simpa using hs, .inr ⟨w.heap.size, n, cur, rfl, hb, heap_alloc_new w _, Nat.le_refl _, hm, hs, by rw [← hs, ← Array.length_toList, List.take_length]⟩⟩
theorem own_form {v : Value} (h : w.ownsRow base e size v n xs) : ∃ A c, v = .slice A n c := by
  rcases h.2 with ⟨rfl, rfl⟩ | ⟨g, cap, cur, rfl, _⟩
  · exact ⟨none, 0, rfl⟩
  · exact ⟨_, _, rfl⟩
theorem own_block (h : w.ownsRow base e size (.slice A n c) n xs) : ∀ k, (Value.slice A n c).ownBlock = some k → base ≤ k := fun k hk => (h.lt k hk).1
end

theorem run_make_rowN {P : Program} (t e : TypeId) (i : TypeInfo) (z : Value) (ht : P.underlying t = some (.slice e)) (hi : P.info? e = some i) (hz : i.zero = some z)
    (kl kc : IntKind) (n c : Nat) (hnc : n ≤ c) (hbytes : i.bytes * c ≤ 281474976710656) (h63 : c ≤ 9223372036854775807) (w : World) :
    (Instr.makeSlice t (.int kl (n : Int)) (.int kc (c : Int))).run P w = .ok (.slice (some ⟨w.heap.size, 0, none⟩) n c) (w.alloc (.cells (madeCells z.cells (c * i.size)) e)) := by
  have hb : (i.bytes : Int) * (c : Int) ≤ 281474976710656 := by
    have h : ((i.bytes * c : Nat) : Int) ≤ 281474976710656 := by omega
    rwa [Int.natCast_mul] at h
  have hr := run_make (P := P) w t e i z ht hi hz kl kc n c (by omega) (by omega) hb (by omega)
  simp only [Int.toNat_natCast] at hr
  exact hr
theorem madeCells_one (u : Value) (n : Nat) : madeCells #[u] n = Array.replicate n u := by
  unfold madeCells
  apply Array.ext
  · simp
  · intro i h1 h2
    simp [Nat.mod_one]

theorem drop_get {α : Type} (xs : List α) (k : Nat) (hk : k < xs.length) : xs.drop k = xs[k] :: xs.drop (k + 1) := List.drop_eq_getElem_cons hk

/-- set several places that follow each other -/
def setAt (L : List Value) (j : Nat) : List Value → List Value
  | [] => L
  | u :: us => setAt (L.set j u) (j + 1) us
theorem setAt_right (a b : List Value) (j : Nat) (us : List Value) : setAt (a ++ b) (a.length + j) us = a ++ setAt b j us := by
  induction us generalizing b j with
  | nil => rfl
  | cons u us ih =>
    simp only [setAt]
    rw [List.set_append_right _ _ (by omega), Nat.add_sub_cancel_left, Nat.add_assoc, ih]
theorem setAt_left (a b us : List Value) (h : us.length = a.length) : setAt (a ++ b) 0 us = us ++ b := by
  induction us generalizing a with
  | nil =>
    have : a = [] := List.eq_nil_of_length_eq_zero (by simpa using h.symm)
    subst this
    rfl
  | cons u us ih =>
    cases a with
    | nil => simp at h
    | cons y a =>
      simp only [setAt, List.cons_append, List.set_cons_zero]
      have := setAt_right [u] (a ++ b) 0 us
      simp only [List.length_singleton, Nat.add_zero, List.singleton_append] at this
      rw [show (0 + 1 : Nat) = 1 from rfl, this, ih a (by simpa using h)]
theorem setAt_flat {α : Type} (f : α → List Value) (s : Nat) (hf : ∀ x, (f x).length = s) (xs : List α) (k : Nat) (hk : k < xs.length) (x : α) : setAt (xs.flatMap f) (k * s) (f x) = (xs.set k x).flatMap f := by
  induction xs generalizing k with
  | nil => simp at hk
  | cons y xs ih =>
    cases k with
    | zero => simp only [Nat.zero_mul, List.flatMap_cons, List.set_cons_zero]; exact setAt_left _ _ _ (by rw [hf, hf])
    | succ k =>
      rw [List.flatMap_cons, List.set_cons_succ, List.flatMap_cons, ← ih k (by simpa using hk), ← setAt_right, hf]
      congr 1
      rw [Nat.add_mul]; omega

/-- 'fill': the first k are done, the rest are as they were -/
def fill {α : Type} (xs : List α) (z : α) (k : Nat) : List α := xs.take k ++ List.replicate (xs.length - k) z
theorem fill_zero {α : Type} (xs : List α) (z : α) : fill xs z 0 = List.replicate xs.length z := by simp [fill]
theorem fill_all {α : Type} (xs : List α) (z : α) : fill xs z xs.length = xs := by simp [fill]
theorem fill_length {α : Type} (xs : List α) (z : α) (k : Nat) (h : k ≤ xs.length) : (fill xs z k).length = xs.length := by simp [fill]; omega
theorem fill_succ {α : Type} (xs : List α) (z : α) (k : Nat) (h : k < xs.length) : fill xs z (k + 1) = (fill xs z k).set k xs[k] := by
  apply List.ext_getElem
  · simp [fill]; omega
  · intro i h1 h2
    rw [List.getElem_set]
    simp only [fill]
    split
    · subst i
      rw [List.getElem_append_left (by simp; omega)]
      simp
    · rcases Nat.lt_or_ge i k with hik | hik
      · rw [List.getElem_append_left (by simp; omega), List.getElem_append_left (by simp; omega)]
        simp
      · rw [List.getElem_append_right (by simp; omega), List.getElem_append_right (by simp; omega)]
        simp
/-- a map over a list, with one place set -/
theorem map_set_ {α β : Type} (f : α → β) (xs : List α) (k : Nat) (x : α) : (xs.set k x).map f = (xs.map f).set k (f x) := by simp [List.map_set]

/-- a slice type's number, its element's, the element's cells and bytes -/
def El (P : Program) (t e : TypeId) (size bytes : Nat) : Prop :=
  P.underlying t = some (.slice e) ∧ ∃ i z, P.info? e = some i ∧ i.zero = some z ∧ i.size = size ∧ i.bytes = bytes ∧ z.cells.size = size ∧ 0 < size
theorem El.mk_ {P : Program} {t e : TypeId} {size bytes : Nat} {z : Value} (ht : P.underlying t = some (.slice e)) (hi : (P.info? e).map (fun i => (i.zero, i.size, i.bytes)) = some (some z, size, bytes)) (hz : z.cells.size = size) (hs : 0 < size) : El P t e size bytes := by
  obtain ⟨i, h1, h2, h3, h4⟩ := info_parts hi
  exact ⟨ht, i, z, h1, h2, h3, h4, hz, hs⟩

theorem plain_add (b o i : Nat) : (⟨b, o, none⟩ : Addr).add i = ⟨b, o + i, none⟩ := by
  unfold Addr.add
  split
  · simp [*]
  · rfl
theorem own_front {w : World} {base : Nat} {e : TypeId} {size n cap : Nat} {xs : List Value} {rest : Array Value} (hb : base ≤ w.heap.size) (hl : xs.length = n * size) (hn : n ≤ cap) (hm : cap ≤ maxLen) (hr : rest.size = (cap - n) * size) :
    (w.drew.alloc (.cells (xs.toArray ++ rest) e)).ownsRow base e size (.slice (some ⟨w.heap.size, 0, none⟩) n cap) n xs := by
  refine ⟨hl, .inr ⟨w.heap.size, cap, _, rfl, hb, heap_alloc_new w.drew _, hn, hm, ?_, ?_⟩⟩
  · rw [Array.size_append, List.size_toArray, hl, hr, ← Nat.add_mul]
    congr 1
    omega
  · rw [Array.toList_append, ← hl]
    exact List.take_left
theorem run_app {P : Program} {w : World} {t e ty : TypeId} {size bytes base n c m c2 : Nat} {A A2 : Option Addr} {xs news : List Value} (hel : El P t e size bytes)
    (hown : w.ownsRow base e size (.slice A n c) n xs) (hr : Rd w A2 news) (hl : news.length = m * size) (h1 : ∀ u ∈ news, u.oneCell' = true)
    (h63 : n + m ≤ maxLen) (hbytes : (n + m) * bytes ≤ 140737488355328) (hbase : base ≤ w.heap.size) :
    ∃ A' c' w', (Builtin.append_ #[t, t] ty #[.slice A n c, .slice A2 m c2]).run P w = .ok (.slice A' (n + m) c') w' ∧ w'.ownsRow base e size (.slice A' (n + m) c') (n + m) (xs ++ news) ∧ Chg (fun g => A = some ⟨g, 0, none⟩) w w' ∧
      (A' = A ∨ (A' = some ⟨w.heap.size, 0, none⟩ ∧ Below w.heap.size w w')) ∧ Rd w' A xs := by
  obtain ⟨ht, i, z, hi, hz, rfl, rfl, hzs, hsz⟩ := hel
  have hsmall : n + m ≤ 9223372036854775807 := by simp only [maxLen] at h63; omega
  have hcells : ∀ ad, A2 = some ad → ∀ j u, news[j]? = some u → w.cell? (ad.add j) = some u := by
    intro ad hA j u hu
    obtain ⟨b, off, hA', hb, hc⟩ := hr (by have := (List.getElem?_eq_some_iff.1 hu).1; omega)
    rw [hA'] at hA
    injection hA with hA
    subst hA
    rw [plain_add]
    exact hc j u hu
  rcases Nat.eq_zero_or_pos m with h0 | h0
  · subst h0
    have hn : news = [] := List.eq_nil_of_length_eq_zero (by simpa using hl)
    subst hn
    refine ⟨A, c, w, ?_, by simpa using hown, Chg.refl _ _, .inl rfl, own_rd hown⟩
    have hload : ∀ (a : Addr), (loadCells a 0).run P w = .ok #[] w := fun a => by simp [loadCells, loadCellsFrom]
    rcases hown.2 with ⟨hv, rfl⟩ | ⟨g, cap, cur, hv, hb, hg, hnc, hm, hsz2, htk⟩
    · injection hv with e1 e2 e3
      subst e1
      subst e3
      cases A2 <;> simp [Builtin.append_, run_underlying ht, sizeOf, typeInfo, hi, Builtin.lenOf, Builtin.firstCells, hload]
    · injection hv with e1 e2 e3
      subst e1
      subst e3
      cases A2 <;> simp [Builtin.append_, run_underlying ht, sizeOf, typeInfo, hi, Builtin.lenOf, Builtin.firstCells, hload, hnc, storeCells]
  · have hnl : 0 < news.length := by rw [hl]; exact Nat.mul_pos h0 hsz
    obtain ⟨b, off, rfl, hb, hc⟩ := hr hnl
    have hnews := hcells _ rfl
    have hzr : ∀ cap, n + m ≤ cap → (Builtin.zeroCells z.cells (cap - (n + m))).size = (cap - (n + m)) * i.size := fun cap _ => by rw [size_zeroCells, hzs]
    have hlen : (xs ++ news).length = (n + m) * i.size := by rw [List.length_append, hown.1, hl, Nat.add_mul]
    rcases hown.2 with ⟨hv, rfl⟩ | ⟨g, cap, cur, hv, hbg, hg, hnc, hcm, hcs, htake⟩
    · injection hv with e1 e2 e3
      subst e1
      subst e3
      have hx : xs = [] := List.eq_nil_of_length_eq_zero (by simpa using hown.1)
      subst hx
      have hrun := run_append_nil (P := P) w t ty e i z ht hi hz ⟨b, off, none⟩ m c2 news hl hnews h0 (by omega) (by simp only [Nat.zero_add] at hbytes; omega)
      have hge := grownCap_ge w m 0 e
      have hcm := grownCap_le_maxLen w m 0 e (by omega)
      have hbel : Below w.heap.size w (w.drew.alloc (.cells (news.toArray ++ Builtin.zeroCells z.cells (grownCap w m 0 e - m)) e)) := (Below.refl _ _).drew.alloc (Nat.le_refl _) _
      refine ⟨_, _, _, by rw [Nat.zero_add]; exact hrun, ?_, Chg.of_new hbel, .inr ⟨rfl, hbel⟩, Rd.nil _ _⟩
      rw [Nat.zero_add]
      have := own_front (w := w) (base := base) (e := e) (rest := Builtin.zeroCells z.cells (grownCap w m 0 e - m)) hbase hl hge hcm (by rw [size_zeroCells, hzs])
      simpa using this
    · injection hv with e1 e2 e3
      subst e1
      subst e3
      by_cases hroom : n + m ≤ c
      · have hfit : n * i.size + news.length ≤ cur.size := by rw [hl, hcs, ← Nat.add_mul]; exact Nat.mul_le_mul_right _ hroom
        have hrun := run_append_room (P := P) w t ty e i ht hi g n c cur hg ⟨b, off, none⟩ m c2 news hl hnews h1 hroom hfit
        have hown' : (w.setRow g (cur.toList.take (n * i.size) ++ news ++ cur.toList.drop (n * i.size + news.length)).toArray).ownsRow base e i.size (.slice (some ⟨g, 0, none⟩) (n + m) c) (n + m) (xs ++ news) := by
          refine ⟨hlen, .inr ⟨g, c, _, rfl, hbg, setRow_heap w g cur _ e _ hg, hroom, hcm, ?_, ?_⟩⟩
          · simp only [List.size_toArray, List.length_append, List.length_take, List.length_drop, Array.length_toList]
            omega
          · rw [htake, ← hlen]
            exact List.take_left
        refine ⟨_, _, _, hrun, hown', ⟨rfl, rfl, rfl, by simp, fun k _ hk => setRow_other w g k _ (fun e => hk (by rw [e]))⟩, .inl rfl, ?_⟩
        have := (own_rd hown').take xs.length
        rwa [List.take_left] at this
      · have holds : ∀ j u, xs[j]? = some u → w.cell? ((⟨g, 0, none⟩ : Addr).add j) = some u := hown.cells (g := g) rfl
        have hrun := run_append_grow (P := P) w t ty e i z ht hi hz ⟨g, 0, none⟩ n c xs hown.1 holds ⟨b, off, none⟩ m c2 news hl hnews (by omega) (by omega) (growslice_fits (by omega) hbytes)
        have hge := grownCap_ge w (n + m) c e
        have hcm := grownCap_le_maxLen w (n + m) c e h63
        have hbel : Below w.heap.size w (w.drew.alloc (.cells (xs.toArray ++ news.toArray ++ Builtin.zeroCells z.cells (grownCap w (n + m) c e - (n + m))) e)) := (Below.refl _ _).drew.alloc (Nat.le_refl _) _
        refine ⟨_, _, _, hrun, ?_, Chg.of_new hbel, .inr ⟨rfl, hbel⟩, (own_rd hown).new hbel⟩
        have := own_front (w := w) (base := base) (e := e) (rest := Builtin.zeroCells z.cells (grownCap w (n + m) c e - (n + m))) hbase hlen hge hcm (by rw [size_zeroCells, hzs])
        simpa using this

theorem wp_app {P : Program} {w : World} {o : Oper} {a : Act} {K : Act → World → Prop} {Q : Exit → Act → World → Prop} (s x : Operand) (t : TypeId)
    (ho : o.op = .call { callee := .builtin .append, args := #[s, x], argTypes := #[t, t] })
    {e : TypeId} {size bytes base n c m c2 : Nat} {A A2 : Option Addr} {xs news : List Value} (hel : El P t e size bytes) (hs : a.eval s = .slice A n c)
    (hown : w.ownsRow base e size (.slice A n c) n xs) (hx : a.eval x = .slice A2 m c2) (hr : Rd w A2 news) (hl : news.length = m * size) (h1 : ∀ u ∈ news, u.oneCell' = true)
    (h63 : n + m ≤ maxLen) (hbytes : (n + m) * bytes ≤ 140737488355328) (hbase : base ≤ w.heap.size)
    (h : ∀ A' c' w', w'.ownsRow base e size (.slice A' (n + m) c') (n + m) (xs ++ news) → Chg (fun g => A = some ⟨g, 0, none⟩) w w' → (A' = A ∨ (A' = some ⟨w.heap.size, 0, none⟩ ∧ Below w.heap.size w w')) → Rd w' A xs → K (a.put o.dst (.slice A' (n + m) c')) w') : o.wp P a w K Q := by
  obtain ⟨A', c', w', hrun, h2, h3, h4, h5⟩ := run_app (P := P) (ty := o.type) (c2 := c2) hel hown hr hl h1 h63 hbytes hbase
  unfold Oper.wp execOp
  simp only [ho, resolve, invoke, builtin, Sem.run_bind, Sem.run_pure, Result.andThen_ok, List.map_toArray, List.map_cons, List.map_nil, hs, hx, hrun]
  exact h A' c' w' h2 h3 h4 h5

/-- append, as the walk meets it -/
theorem wpList_app {P : Program} {w : World} {ops : Array Oper} {rest : List Oper} {o : Oper} {a : Act} {Q : Exit → Act → World → Prop} (hgd : o.guard = none) (s x : Operand) (t : TypeId)
    (ho : o.op = .call { callee := .builtin .append, args := #[s, x], argTypes := #[t, t] })
    {e : TypeId} {size bytes base n c m c2 : Nat} {A A2 : Option Addr} {xs news : List Value} (hel : El P t e size bytes) (hs : a.eval s = .slice A n c)
    (hown : w.ownsRow base e size (.slice A n c) n xs) (hx : a.eval x = .slice A2 m c2) (hr : Rd w A2 news) (hl : news.length = m * size) (h1 : ∀ u ∈ news, u.oneCell' = true)
    (h63 : n + m ≤ maxLen) (hbytes : (n + m) * bytes ≤ 140737488355328) (hbase : base ≤ w.heap.size)
    (h : ∀ A' c' w', w'.ownsRow base e size (.slice A' (n + m) c') (n + m) (xs ++ news) → Chg (fun g => A = some ⟨g, 0, none⟩) w w' → (A' = A ∨ (A' = some ⟨w.heap.size, 0, none⟩ ∧ Below w.heap.size w w')) → Rd w' A xs → wpList P ops Q rest (a.put o.dst (.slice A' (n + m) c')) w') : wpList P ops Q (o :: rest) a w :=
  wpList_plain hgd fun _ hK => wp_app s x t ho hel hs hown hx hr hl h1 h63 hbytes hbase fun A' c' w' h2 h3 h4 h5 => hK _ _ (h A' c' w' h2 h3 h4 h5)
/-- the same, behind a guard that holds -/
theorem wpList_app_if {P : Program} {w : World} {ops : Array Oper} {rest : List Oper} {o : Oper} {a : Act} {Q : Exit → Act → World → Prop} (hw : Region.wanted o (yielded ops a.tmps) = true) (s x : Operand) (t : TypeId)
    (ho : o.op = .call { callee := .builtin .append, args := #[s, x], argTypes := #[t, t] })
    {e : TypeId} {size bytes base n c m c2 : Nat} {A A2 : Option Addr} {xs news : List Value} (hel : El P t e size bytes) (hs : a.eval s = .slice A n c)
    (hown : w.ownsRow base e size (.slice A n c) n xs) (hx : a.eval x = .slice A2 m c2) (hr : Rd w A2 news) (hl : news.length = m * size) (h1 : ∀ u ∈ news, u.oneCell' = true)
    (h63 : n + m ≤ maxLen) (hbytes : (n + m) * bytes ≤ 140737488355328) (hbase : base ≤ w.heap.size)
    (h : ∀ A' c' w', w'.ownsRow base e size (.slice A' (n + m) c') (n + m) (xs ++ news) → Chg (fun g => A = some ⟨g, 0, none⟩) w w' → (A' = A ∨ (A' = some ⟨w.heap.size, 0, none⟩ ∧ Below w.heap.size w w')) → Rd w' A xs → wpList P ops Q rest (a.put o.dst (.slice A' (n + m) c')) w') : wpList P ops Q (o :: rest) a w :=
  wpList_step fun K hK => by
    rw [if_pos hw]
    exact wp_app s x t ho hel hs hown hx hr hl h1 h63 hbytes hbase fun A' c' w' h2 h3 h4 h5 => hK _ _ (h A' c' w' h2 h3 h4 h5)
theorem one_ints (zs : List Int) : ∀ u ∈ zs.map (Value.int .i64), u.oneCell' = true := by
  intro u hu
  obtain ⟨z, _, rfl⟩ := List.mem_map.1 hu
  rfl
/-- a literal's block reads as what was put into it -/
theorem rd_lit (w : World) (cs : List Value) (t : TypeId) : Rd (w.alloc (.cells cs.toArray t)) (some ⟨w.heap.size, 0, none⟩) cs := fun h0 => by
  refine ⟨w.heap.size, 0, rfl, by simp, fun j u hu => ?_⟩
  rw [Nat.zero_add, cell_of_row (w.alloc (.cells cs.toArray t)) w.heap.size j cs.toArray t (0, 0) (heap_alloc_new w _)]
  simpa using hu
/-- behind an append onto a row of the call's own, the source a block just laid, or an older one -/
theorem app_below {base : Nat} {a wr w1 : World} {o : Obj} {e : TypeId} {size n c : Nat} {A : Option Addr} {xs : List Value} (hbel : Below a.heap.size a wr) (hown : wr.ownsRow base e size (.slice A n c) n xs)
    (ch : Chg (fun g => A = some ⟨g, 0, none⟩) (wr.alloc o) w1) (hB : a.heap.size ≤ base) : Below a.heap.size a w1 :=
  hbel.trans (((Below.refl _ _).alloc hbel.size _).trans (ch.below (fun q hq hq2 => by have := own_block hown q (by rw [hq2]; rfl); omega) (by have := hbel.size; simp; omega)))
theorem app_below' {base : Nat} {a wr w1 : World} {e : TypeId} {size n c : Nat} {A : Option Addr} {xs : List Value} (hbel : Below a.heap.size a wr) (hown : wr.ownsRow base e size (.slice A n c) n xs)
    (ch : Chg (fun g => A = some ⟨g, 0, none⟩) wr w1) (hB : a.heap.size ≤ base) : Below a.heap.size a w1 :=
  hbel.trans (ch.below (fun q hq hq2 => by have := own_block hown q (by rw [hq2]; rfl); omega) hbel.size)
theorem calls_left {P : Program} {f : FuncId} {args : Array Value} {w : World} {v : Value} (h : Calls P f args w fun e w' => e = .returned v ∧ w = w') : Calls P f args w fun e w' => e = .returned v ∧ w' = w := h.mono fun _ _ ⟨he, hw⟩ => ⟨he, hw.symm⟩
/-- append, as a step of a region that draws its order -/
theorem step_app {P : Program} {w : World} {ops : Array Oper} {o : Oper} {a : Act} {K : Act → World → Prop} {Q : Exit → Act → World → Prop} {E : Prop} (hgd : o.guard = none) (s x : Operand) (t : TypeId)
    (ho : o.op = .call { callee := .builtin .append, args := #[s, x], argTypes := #[t, t] })
    {e : TypeId} {size bytes base n c m c2 : Nat} {A A2 : Option Addr} {xs news : List Value} (hel : El P t e size bytes) (hs : a.eval s = .slice A n c)
    (hown : w.ownsRow base e size (.slice A n c) n xs) (hx : a.eval x = .slice A2 m c2) (hr : Rd w A2 news) (hl : news.length = m * size) (h1 : ∀ u ∈ news, u.oneCell' = true)
    (h63 : n + m ≤ maxLen) (hbytes : (n + m) * bytes ≤ 140737488355328) (hbase : base ≤ w.heap.size)
    (h : ∀ A' c' w', w'.ownsRow base e size (.slice A' (n + m) c') (n + m) (xs ++ news) → Chg (fun g => A = some ⟨g, 0, none⟩) w w' → (A' = A ∨ (A' = some ⟨w.heap.size, 0, none⟩ ∧ Below w.heap.size w w')) → Rd w' A xs → K (a.put o.dst (.slice A' (n + m) c')) w') :
    if Region.wanted o (yielded ops a.tmps) = true then Oper.wp P o a w K Q else E := by
  have hw : Region.wanted o (yielded ops a.tmps) = true := by simp [Region.wanted, hgd]
  rw [if_pos hw]
  exact wp_app s x t ho hel hs hown hx hr hl h1 h63 hbytes hbase h
theorem own_cap {w : World} {base : Nat} {e : TypeId} {size n c : Nat} {A : Option Addr} {xs : List Value} (h : w.ownsRow base e size (.slice A n c) n xs) : n ≤ c ∧ c ≤ maxLen := by
  rcases h.2 with ⟨hv, rfl⟩ | ⟨g, cap, cur, hv, _, _, h1, h2, _⟩
  · injection hv with _ _ hc
    subst hc
    simp [maxLen]
  · injection hv with _ _ hc
    subst hc
    exact ⟨h1, h2⟩
theorem Rd.drop {w : World} {b off : Nat} {xs : List Value} (h : Rd w (some ⟨b, off, none⟩) xs) (k : Nat) : Rd w (some ⟨b, off + k, none⟩) (xs.drop k) := fun h0 => by
  obtain ⟨b', off', hA, hb, hc⟩ := h (by simp at h0; omega)
  injection hA with hA
  injection hA with q1 q2
  subst q1
  subst q2
  refine ⟨b, off + k, rfl, hb, fun j u hu => ?_⟩
  rw [Nat.add_assoc]
  exact hc _ u (by rw [← hu, List.getElem?_drop])
theorem rd_at {s : Nat} (W : World) (cs : List Value) (t : TypeId) (h : W.heap.size = s) : Rd (W.alloc (.cells cs.toArray t)) (some ⟨s, 0, none⟩) cs := by
  subst h
  exact rd_lit W cs t
theorem own_reader {g base : Nat} {w w' : World} {e : TypeId} {size n c : Nat} {A : Option Addr} {xs : List Value} (hown : w.ownsRow base e size (.slice A n c) n xs) (hc : Chg (fun k => k = g) w w') (hg : g < base) : w'.ownsRow base e size (.slice A n c) n xs :=
  own_chg hown hc fun k hA e => by have := own_block hown k (by rw [hA]; rfl); omega
theorem chg_g {g : Nat} {a wr w1 : World} {base : Nat} {e : TypeId} {size n c : Nat} {A : Option Addr} {xs : List Value} (h : Chg (fun k => k = g) a wr) (hown : wr.ownsRow base e size (.slice A n c) n xs)
    (ch : Chg (fun k => A = some ⟨k, 0, none⟩) wr w1) (hB : a.heap.size ≤ base) : Chg (fun k => k = g) a w1 :=
  ⟨ch.os.trans h.os, ch.tape.trans h.tape, ch.output.trans h.output, Nat.le_trans h.size ch.size, fun k hk hn => (ch.block k (Nat.lt_of_lt_of_le hk h.size) (fun hA => by have := own_block hown k (by rw [hA]; rfl); omega)).trans (h.block k hk hn)⟩
theorem chg_undrew {S : Nat → Prop} {w w' : World} (h : Chg S w.drew w') : Chg S w w' := ⟨h.os, h.tape, h.output, h.size, h.block⟩
/-- an append onto a row of the call's own, behind changes of S alone -/
theorem chg_app {S : Nat → Prop} {a wr w2 : World} {A : Option Addr} (h : Chg S a wr) (ch : Chg (fun k => A = some ⟨k, 0, none⟩) wr w2) (hA : ∀ q, A = some ⟨q, 0, none⟩ → S q ∨ a.heap.size ≤ q) : Chg S a w2 :=
  ⟨ch.os.trans h.os, ch.tape.trans h.tape, ch.output.trans h.output, Nat.le_trans h.size ch.size, fun k hk hn => (ch.block k (Nat.lt_of_lt_of_le hk h.size) (fun hq => by rcases hA k hq with h1 | h1; exact hn h1; omega)).trans (h.block k hk hn)⟩
/-- where a row of the call's own may lie, behind an append -/
theorem app_at {S : Nat → Prop} {a wr : World} {s : Nat} {T0 : Prop} {A A' : Option Addr} (h : Chg S a wr) (hd : A' = A ∨ (A' = some ⟨s, 0, none⟩ ∧ T0)) (hs : wr.heap.size ≤ s) (hA : ∀ q, A = some ⟨q, 0, none⟩ → S q ∨ a.heap.size ≤ q) : ∀ q, A' = some ⟨q, 0, none⟩ → S q ∨ a.heap.size ≤ q := by
  intro q hq
  rcases hd with hd | ⟨hd, _⟩
  · exact hA q (by rw [← hd, hq])
  · rw [hq] at hd
    injection hd with hd
    injection hd with hd
    have := h.size
    exact .inr (by omega)
theorem own_drewN {w : World} {base : Nat} {e : TypeId} {size : Nat} {A : Option Addr} {c n : Nat} {xs : List Value} (h : w.ownsRow base e size (.slice A n c) n xs) (m : Nat) : (w.drewN m).ownsRow base e size (.slice A n c) n xs := h
theorem own_rng {w : World} {base : Nat} {e : TypeId} {size : Nat} {A : Option Addr} {c n : Nat} {xs : List Value} (h : w.ownsRow base e size (.slice A n c) n xs) : ∀ g, A = some ⟨g, 0, none⟩ → base ≤ g ∧ g < w.heap.size := fun g hg => h.lt g (by rw [hg]; rfl)
theorem take_flat {α : Type} (f : α → List Value) (s : Nat) (hf : ∀ x, (f x).length = s) (xs : List α) (k : Nat) : (xs.flatMap f).take (k * s) = (xs.take k).flatMap f := by
  induction xs generalizing k with
  | nil => simp
  | cons x xs ih =>
    cases k with
    | zero => simp
    | succ k =>
      rw [List.flatMap_cons, List.take_append, hf, List.take_of_length_le (by rw [hf, Nat.add_mul]; omega)]
      rw [show (k + 1) * s - s = k * s by rw [Nat.add_mul]; omega, ih k]
      rfl
theorem drop_flat {α : Type} (f : α → List Value) (s : Nat) (hf : ∀ x, (f x).length = s) (xs : List α) (k : Nat) : (xs.flatMap f).drop (k * s) = (xs.drop k).flatMap f := by
  induction xs generalizing k with
  | nil => simp
  | cons x xs ih =>
    cases k with
    | zero => simp
    | succ k =>
      rw [List.flatMap_cons, List.drop_append, hf, List.drop_of_length_le (by rw [hf, Nat.add_mul]; omega)]
      rw [show (k + 1) * s - s = k * s by rw [Nat.add_mul]; omega, ih k]
      rfl
end Go.Proofs.YtefdhlfljpppfaaGreat
