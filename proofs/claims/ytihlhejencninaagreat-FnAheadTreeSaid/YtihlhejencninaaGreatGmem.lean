/- Words for memory: what a slice value reads as, rows that the call owns, worlds that differ in some blocks alone. No program is in sight here. A region that draws its order: an invariant in the place of the orders. No program is in sight here. Deep data: slices whose elements hold slices. What is read, and in which blocks it may lie. No program is in sight here. Deep data of the call's own: every block once. No program is in sight here. An append of zeros to nothing (slices.Grow): the operation's law. An append to a slice without room: only new memory. No program is in sight here. -/
import Derived.WalkKit
import Derived.Below
import Derived.Laws.OwnMore
import Derived.Laws.MakeOwn
import Derived.Laws.Entries
import Derived.Deep.AppendLies
import Derived.Deep.Draws
import Derived.Maps.AppendAt
import Derived.Deep.QuietTactic
import Derived.BigQuiet
import Derived.Orders
namespace Go.Proofs.YtihlhejencninaaGreat
open Go.RowKit
set_option linter.unusedVariables false
set_option linter.unusedSimpArgs false

theorem retb {a b : Bool} (h : a = b) : Ending.returned (Value.bool a) = Ending.returned (Value.bool b) := by rw [h]
theorem reti {a b : Int} (h : a = b) : Ending.returned (Value.int .i64 a) = Ending.returned (Value.int .i64 b) := by rw [h]

def inB (n lo hi : Int) : Bool := decide (lo ≤ n) && decide (n ≤ hi)
theorem inB_true {n lo hi : Int} : inB n lo hi = true ↔ lo ≤ n ∧ n ≤ hi := by simp [inB]
/-- hide a fact from the walk, and get it back -/
theorem hide {p : Prop} (h : p) : Hid p := h
theorem unhide {p : Prop} (h : Hid p) : p := h

/-- Only blocks of S differ, and there are new ones. -/
structure Chg (S : Nat → Prop) (w w' : World) : Prop where
 os : w'.os = w.os
 tape : w'.tape = w.tape
 output : w'.output = w.output
 size : w.heap.size ≤ w'.heap.size
 block : ∀ k, k < w.heap.size → ¬ S k → w'.heap[k]? = w.heap[k]?

section
variable {S T : Nat → Prop} {w w' a b c : World}
theorem Chg.refl (S : Nat → Prop) (w : World) : Chg S w w := ⟨rfl, rfl, rfl, Nat.le_refl _, fun _ _ _ => rfl⟩
theorem Chg.trans (h : Chg S a b) (k : Chg S b c) : Chg S a c :=
 ⟨k.os.trans h.os, k.tape.trans h.tape, k.output.trans h.output, Nat.le_trans h.size k.size, fun i hi hn => (k.block i (Nat.lt_of_lt_of_le hi h.size) hn).trans (h.block i hi hn)⟩
theorem Chg.mono (h : Chg S a b) (hST : ∀ k, k < a.heap.size → S k → T k) : Chg T a b := ⟨h.os, h.tape, h.output, h.size, fun k hk hn => h.block k hk fun hs => hn (hST k hk hs)⟩
theorem Chg.of_below {B : Nat} (h : Below B a b) (hB : ∀ k, B ≤ k → k < a.heap.size → S k) : Chg S a b :=
 ⟨h.os, h.tape, h.output, h.size, fun k hk hn => h.block k (by rcases Nat.lt_or_ge k B with h1 | h1; exact h1; exact absurd (hB k h1 hk) hn)⟩
theorem Chg.of_new (h : Below a.heap.size a b) : Chg S a b := Chg.of_below h fun k h1 h2 => by omega
theorem Chg.below {B : Nat} (h : Chg S a b) (hB : ∀ k, k < B → ¬ S k) (hs : B ≤ a.heap.size) : Below B a b :=
 ⟨h.os, h.tape, h.output, h.size, fun k hk => h.block k (by omega) (hB k hk)⟩
theorem Chg.drewN (h : Chg S a w) (n : Nat) : Chg S a (w.drewN n) := ⟨h.os, h.tape, h.output, h.size, h.block⟩
theorem Chg.alloc (h : Chg S a w) (o : Obj) : Chg S a (w.alloc o) :=
 h.trans ⟨rfl, rfl, rfl, by simp, fun k hk _ => Below.heap_alloc _ _ _ hk⟩
theorem Chg.setCell (h : Chg S a w) {p : Addr} (hp : S p.block ∨ a.heap.size ≤ p.block) (u : Value) : Chg S a (w.setCell p u) :=
 ⟨h.os, h.tape, h.output, by simpa [World.setCell] using h.size, fun k hk hn => (Below.heap_setCell _ _ _ _ (fun e => by subst e; rcases hp with h1 | h1; exact hn h1; omega)).trans (h.block k hk hn)⟩
theorem Chg.cell (h : Chg S a b) {p : Addr} {u : Value} (hc : a.cell? p = some u) (hp : ¬ S p.block) : b.cell? p = some u :=
 (World.cell?_of_block (w := a) (h.block p.block (World.block_lt_of_cell? a p hc) hp)).trans hc
end

theorem below_drewN {B : Nat} {a w : World} (h : Below B a w) (n : Nat) : Below B a (w.drewN n) := ⟨h.os, h.tape, h.output, h.size, h.block⟩
theorem below_then {B : Nat} {a b c : World} (h : Below B a b) (k : Below b.heap.size b c) (hB : B ≤ b.heap.size) : Below B a c := h.trans (k.mono hB)

theorem bthen {a b c : World} (h : Below a.heap.size a b) (k : Below b.heap.size b c) : Below a.heap.size a c := below_then h k h.size

section
variable {P : Program} {f : FuncId} {args : Array Value} {w : World} {a n : Nat} {v : Value}
theorem quiet_add_left (h : Calls P f args (w.drewN (a + n)) fun e w' => e = .returned v ∧ w.drewN (a + n) = w') :
   Calls P f args (w.drewN (a + n)) fun e w'' => e = .returned v ∧ ∃ m, w'' = w.drewN (a + m) :=
 h.mono fun _ _ ⟨he, hm⟩ => ⟨he, n, hm.symm⟩
theorem quiet_left (h : Calls P f args (w.drewN n) fun e w' => e = .returned v ∧ w.drewN n = w') : Calls P f args (w.drewN n) fun e w'' => e = .returned v ∧ ∃ m, w'' = w.drewN m :=
 h.mono fun _ _ ⟨he, hm⟩ => ⟨he, n, hm.symm⟩
end

/-- The slice value with the address A reads as the cells xs. -/
def Rd (w : World) (A : Option Addr) (xs : List Value) : Prop :=
 0 < xs.length → ∃ b off, A = some ⟨b, off, none⟩ ∧ b < w.heap.size ∧ ∀ j u, xs[j]? = some u → w.cell? ⟨b, off + j, none⟩ = some u

section
variable {w w' : World} {A : Option Addr} {xs : List Value}
theorem Rd.nil (w : World) (A : Option Addr) : Rd w A [] := fun h => absurd h (by simp)
theorem Rd.keep (h : Rd w A xs) (hk : ∀ p : Addr, p.block < w.heap.size → w'.cell? p = w.cell? p) (hs : w.heap.size ≤ w'.heap.size) : Rd w' A xs := fun h0 => by
 obtain ⟨b, off, e, hb, hc⟩ := h h0
 exact ⟨b, off, e, Nat.lt_of_lt_of_le hb hs, fun j u hu => (hk _ hb).trans (hc j u hu)⟩
theorem Rd.below {B : Nat} (h : Rd w A xs) (hb : Below B w w') (hB : w.heap.size ≤ B) : Rd w' A xs := h.keep (fun p hp => hb.cell (p := p) (by omega)) hb.size
theorem Rd.new (h : Rd w A xs) (hb : Below w.heap.size w w') : Rd w' A xs := h.below hb (Nat.le_refl _)
theorem Rd.alloc (h : Rd w A xs) (o : Obj) : Rd (w.alloc o) A xs := h.keep (fun p hp => World.cell?_alloc_lt w o p hp) (by simp)
theorem Rd.drew (h : Rd w A xs) : Rd w.drew A xs := h
theorem Rd.drewN (h : Rd w A xs) (n : Nat) : Rd (w.drewN n) A xs := h
/-- what is read by cells of structs -/
theorem Rd.take (h : Rd w A xs) (n : Nat) : Rd w A (xs.take n) := fun h0 => by
 have h1 : 0 < xs.length := by simp at h0; omega
 obtain ⟨b, off, e, hb, hc⟩ := h h1
 refine ⟨b, off, e, hb, fun j u hu => hc j u ?_⟩
 rw [List.getElem?_take] at hu
 split at hu
 · exact hu
 · cases hu
theorem Rd.int {zs : List Int} (h : Rd w A (zs.map (Value.int .i64))) {k : Nat} (hk : k < zs.length) :
   ∃ b off, A = some ⟨b, off, none⟩ ∧ b < w.heap.size ∧ w.cell? ⟨b, off + k, none⟩ = some (.int .i64 zs[k]) := by
 obtain ⟨b, off, rfl, hb, hc⟩ := h (by simp; omega)
 exact ⟨b, off, rfl, hb, hc k _ (by simp [hk])⟩
end

/-- The cells of a list of things, each of which has s cells. -/
theorem length_flat {α : Type} (f : α → List Value) (s : Nat) (hf : ∀ x, (f x).length = s) (xs : List α) : (xs.flatMap f).length = xs.length * s := by
 induction xs with
 | nil => simp
 | cons x xs ih => simp [hf, ih, Nat.add_mul]; omega
theorem get_flat {α : Type} (f : α → List Value) (s : Nat) (hf : ∀ x, (f x).length = s) (xs : List α) (k : Nat) (hk : k < xs.length) (j : Nat) (hj : j < s) : (xs.flatMap f)[k * s + j]? = (f xs[k])[j]? := by
 induction xs generalizing k with
 | nil => simp at hk
 | cons x xs ih =>
   cases k with
   | zero => simp [List.getElem?_append, hf, hj]
   | succ k =>
     have hk' : k < xs.length := by simpa using hk
     have e : (k + 1) * s + j = s + (k * s + j) := by rw [Nat.add_mul]; omega
     rw [List.flatMap_cons, e, List.getElem?_append_right (by rw [hf]; omega), hf, Nat.add_sub_cancel_left]
     simpa using ih k hk'
theorem Rd.flat {α : Type} {w : World} {A : Option Addr} (f : α → List Value) (s : Nat) (hf : ∀ x, (f x).length = s) (hs : 0 < s) {xs : List α} (h : Rd w A (xs.flatMap f)) {k : Nat} (hk : k < xs.length) :
   ∃ b off, A = some ⟨b, off, none⟩ ∧ b < w.heap.size ∧ ∀ j u, (f xs[k])[j]? = some u → w.cell? ⟨b, off + (k * s + j), none⟩ = some u := by
 obtain ⟨b, off, rfl, hb, hc⟩ := h (by rw [length_flat f s hf]; exact Nat.mul_pos (by omega) hs)
 refine ⟨b, off, rfl, hb, fun j u hu => hc _ _ ?_⟩
 have hj : j < s := by
   have := (List.getElem?_eq_some_iff.1 hu).1
   rw [hf] at this
   exact this
 rw [get_flat f s hf xs k hk j hj, hu]

section
variable {w w' : World} {base base' : Nat} {e : TypeId} {size : Nat} {A : Option Addr} {c n : Nat} {xs : List Value}
theorem own_base (h : w.ownsRow base e size (.slice A n c) n xs) (hb : base' ≤ base) : w.ownsRow base' e size (.slice A n c) n xs := by
 refine ⟨h.1, ?_⟩
 rcases h.2 with h2 | ⟨g, cap, cur, hv, hg, r⟩
 · exact .inl h2
 · exact .inr ⟨g, cap, cur, hv, Nat.le_trans hb hg, r⟩
theorem own_addr (h : w.ownsRow base e size (.slice A n c) n xs) (hn : 0 < n) : ∃ g, A = some ⟨g, 0, none⟩ ∧ base ≤ g ∧ g < w.heap.size := by
 rcases h.2 with ⟨_, h2⟩ | ⟨g, cap, cur, hv, hg, hh, _⟩
 · omega
 · injection hv with hA
   exact ⟨g, hA, hg, (Array.getElem?_eq_some_iff.1 hh).1⟩
theorem own_cell {g : Nat} (h : w.ownsRow base e size (.slice (some ⟨g, 0, none⟩) n c) n xs) (j : Nat) (hj : j < xs.length) : w.cell? ⟨g, j, none⟩ = some xs[j] := by
 have := h.cells (g := g) rfl j xs[j] (List.getElem?_eq_getElem hj)
 have hadd : (⟨g, 0, none⟩ : Addr).add j = ⟨g, j, none⟩ := by unfold Addr.add; split <;> simp_all
 rwa [hadd] at this
theorem own_frozen {g : Nat} (h : w.ownsRow base e size (.slice (some ⟨g, 0, none⟩) n c) n xs) (j : Nat) : w.frozen? ⟨g, j, none⟩ = false := by
 rcases h.2 with ⟨hv, _⟩ | ⟨g', cap, cur, hv, hg, hh, _⟩
 · cases hv
 · injection hv with hA
   injection hA with hA
   injection hA with hA
   subst hA
   simp [World.frozen?, hh]
theorem own_rd (h : w.ownsRow base e size (.slice A n c) n xs) : Rd w A xs := fun h0 => by
 rcases h.2 with ⟨hv, h2⟩ | ⟨g, cap, cur, hv, hg, hh, _⟩
 · have := h.1
   subst h2
   omega
 · injection hv with hA
   subst hA
   refine ⟨g, 0, rfl, (Array.getElem?_eq_some_iff.1 hh).1, fun j u hu => ?_⟩
   obtain ⟨hj, rfl⟩ := List.getElem?_eq_some_iff.1 hu
   rw [Nat.zero_add]
   exact own_cell h j hj
/-- the row is kept while its block is -/
theorem own_keep (h : w.ownsRow base e size (.slice A n c) n xs) (hk : ∀ g, A = some ⟨g, 0, none⟩ → g < w.heap.size → w'.heap[g]? = w.heap[g]?) : w'.ownsRow base e size (.slice A n c) n xs := by
 refine ⟨h.1, ?_⟩
 rcases h.2 with h2 | ⟨g, cap, cur, hv, hg, hh, r⟩
 · exact .inl h2
 · injection hv with hA
   exact .inr ⟨g, cap, cur, by rw [hA]; congr, hg, (hk g hA (Array.getElem?_eq_some_iff.1 hh).1).trans hh, r⟩
theorem own_new (h : w.ownsRow base e size (.slice A n c) n xs) (hb : Below w.heap.size w w') : w'.ownsRow base e size (.slice A n c) n xs := own_keep h fun g _ hg => hb.block g hg
theorem own_alloc (h : w.ownsRow base e size (.slice A n c) n xs) (o : Obj) : (w.alloc o).ownsRow base e size (.slice A n c) n xs := own_keep h fun g _ hg => Below.heap_alloc _ _ _ hg
theorem own_chg {S : Nat → Prop} (h : w.ownsRow base e size (.slice A n c) n xs) (hb : Chg S w w') (hS : ∀ g, A = some ⟨g, 0, none⟩ → ¬ S g) : w'.ownsRow base e size (.slice A n c) n xs := own_keep h fun g hA hg => hb.block g hg (hS g hA)
theorem own_set {g : Nat} (h : w.ownsRow base e size (.slice (some ⟨g, 0, none⟩) n c) n xs) (j : Nat) (u : Value) : (w.setCell ⟨g, j, none⟩ u).ownsRow base e size (.slice (some ⟨g, 0, none⟩) n c) n (xs.set j u) := by
 refine ⟨by rw [List.length_set]; exact h.1, ?_⟩
 rcases h.2 with ⟨hv, _⟩ | ⟨g', cap, cur, hv, hg, hh, hc, hm, hsz, ht⟩
 · cases hv
 · injection hv with hA hn hcap
   injection hA with hA
   injection hA with hA
   subst hA
   subst hcap
   refine .inr ⟨g, c, cur.setIfInBounds j u, rfl, hg, ?_, hc, hm, by rw [Array.size_setIfInBounds]; exact hsz, ?_⟩
   · simp [World.setCell, Array.getElem?_modify, hh]
   · rw [← ht]
     simp [List.take_set]
theorem own_far {p : Addr} (h : w.ownsRow base e size (.slice A n c) n xs) (hp : ∀ g, A = some ⟨g, 0, none⟩ → p.block ≠ g) (u : Value) : (w.setCell p u).ownsRow base e size (.slice A n c) n xs :=
 own_keep h fun _ hA _ => Below.heap_setCell _ _ _ _ (fun e => hp _ hA e.symm)
theorem own_nil (w : World) (base : Nat) (e : TypeId) (size : Nat) : w.ownsRow base e size (.slice none 0 0) 0 [] := World.ownsRow_nil w base e size
/-- a row that 'make' or a literal has just made, whole -/
theorem own_made (w : World) (cur : Array Value) (n : Nat) (hb : base ≤ w.heap.size) (hm : n ≤ maxLen) (hs : cur.size = n * size) :
   (w.alloc (.cells cur e)).ownsRow base e size (.slice (some ⟨w.heap.size, 0, none⟩) n n) n cur.toList :=
 ⟨by simpa using hs, .inr ⟨w.heap.size, n, cur, rfl, hb, heap_alloc_new w _, Nat.le_refl _, hm, hs, by rw [← hs, ← Array.length_toList, List.take_length]⟩⟩
theorem own_block (h : w.ownsRow base e size (.slice A n c) n xs) : ∀ k, (Value.slice A n c).ownBlock = some k → base ≤ k := fun k hk => (h.lt k hk).1
end

theorem run_make_rowN {P : Program} (t e : TypeId) (i : TypeInfo) (z : Value) (ht : P.underlying t = some (.slice e)) (hi : P.info? e = some i) (hz : i.zero = some z)
   (kl kc : IntKind) (n c : Nat) (hnc : n ≤ c) (hbytes : i.bytes * c ≤ 281474976710656) (h63 : c ≤ 9223372036854775807) (w : World) :
   (Instr.makeSlice t (.int kl (n : Int)) (.int kc (c : Int))).run P w = .ok (.slice (some ⟨w.heap.size, 0, none⟩) n c) (w.alloc (.cells (madeCells z.cells (c * i.size)) e)) := by
 have hb : (i.bytes : Int) * (c : Int) ≤ 281474976710656 := by
   have h : ((i.bytes * c : Nat) : Int) ≤ 281474976710656 := by omega
   rwa [Int.natCast_mul] at h
 have hr := run_make (P := P) w t e i z ht hi hz kl kc n c (by omega) (by omega) hb (by omega)
 simp only [Int.toNat_natCast] at hr
 exact hr
theorem drop_get {α : Type} (xs : List α) (k : Nat) (hk : k < xs.length) : xs.drop k = xs[k] :: xs.drop (k + 1) := List.drop_eq_getElem_cons hk

/-- set several places that follow each other -/
def setAt (L : List Value) (j : Nat) : List Value → List Value
 | [] => L
 | u :: us => setAt (L.set j u) (j + 1) us
theorem setAt_right (a b : List Value) (j : Nat) (us : List Value) : setAt (a ++ b) (a.length + j) us = a ++ setAt b j us := by
 induction us generalizing b j with
 | nil => rfl
 | cons u us ih =>
   simp only [setAt]
   rw [List.set_append_right _ _ (by omega), Nat.add_sub_cancel_left, Nat.add_assoc, ih]
theorem setAt_left (a b us : List Value) (h : us.length = a.length) : setAt (a ++ b) 0 us = us ++ b := by
 induction us generalizing a with
 | nil =>
   have : a = [] := List.eq_nil_of_length_eq_zero (by simpa using h.symm)
   subst this
   rfl
 | cons u us ih =>
   cases a with
   | nil => simp at h
   | cons y a =>
     simp only [setAt, List.cons_append, List.set_cons_zero]
     have := setAt_right [u] (a ++ b) 0 us
     simp only [List.length_singleton, Nat.add_zero, List.singleton_append] at this
     rw [show (0 + 1 : Nat) = 1 from rfl, this, ih a (by simpa using h)]
/-- a map over a list, with one place set -/
theorem map_set_ {α β : Type} (f : α → β) (xs : List α) (k : Nat) (x : α) : (xs.set k x).map f = (xs.map f).set k (f x) := by simp [List.map_set]

/-- a slice type's number, its element's, the element's cells and bytes -/
def El (P : Program) (t e : TypeId) (size bytes : Nat) : Prop :=
 P.underlying t = some (.slice e) ∧ ∃ i z, P.info? e = some i ∧ i.zero = some z ∧ i.size = size ∧ i.bytes = bytes ∧ z.cells.size = size ∧ 0 < size
theorem El.mk_ {P : Program} {t e : TypeId} {size bytes : Nat} {z : Value} (ht : P.underlying t = some (.slice e)) (hi : (P.info? e).map (fun i => (i.zero, i.size, i.bytes)) = some (some z, size, bytes)) (hz : z.cells.size = size) (hs : 0 < size) : El P t e size bytes := by
 obtain ⟨i, h1, h2, h3, h4⟩ := info_parts hi
 exact ⟨ht, i, z, h1, h2, h3, h4, hz, hs⟩

theorem plain_add (b o i : Nat) : (⟨b, o, none⟩ : Addr).add i = ⟨b, o + i, none⟩ := by
 unfold Addr.add
 split
 · simp [*]
 · rfl
theorem own_front {w : World} {base : Nat} {e : TypeId} {size n cap : Nat} {xs : List Value} {rest : Array Value} (hb : base ≤ w.heap.size) (hl : xs.length = n * size) (hn : n ≤ cap) (hm : cap ≤ maxLen) (hr : rest.size = (cap - n) * size) :
   (w.drew.alloc (.cells (xs.toArray ++ rest) e)).ownsRow base e size (.slice (some ⟨w.heap.size, 0, none⟩) n cap) n xs := by
 refine ⟨hl, .inr ⟨w.heap.size, cap, _, rfl, hb, heap_alloc_new w.drew _, hn, hm, ?_, ?_⟩⟩
 · rw [Array.size_append, List.size_toArray, hl, hr, ← Nat.add_mul]
   congr 1
   omega
 · rw [Array.toList_append, ← hl]
   exact List.take_left
theorem run_app {P : Program} {w : World} {t e ty : TypeId} {size bytes base n c m c2 : Nat} {A A2 : Option Addr} {xs news : List Value} (hel : El P t e size bytes)
   (hown : w.ownsRow base e size (.slice A n c) n xs) (hr : Rd w A2 news) (hl : news.length = m * size) (h1 : ∀ u ∈ news, u.oneCell' = true)
   (h63 : n + m ≤ maxLen) (hbytes : (n + m) * bytes ≤ 140737488355328) (hbase : base ≤ w.heap.size) :
   ∃ A' c' w', (Builtin.append_ #[t, t] ty #[.slice A n c, .slice A2 m c2]).run P w = .ok (.slice A' (n + m) c') w' ∧ w'.ownsRow base e size (.slice A' (n + m) c') (n + m) (xs ++ news) ∧ Chg (fun g => A = some ⟨g, 0, none⟩) w w' ∧
     (A' = A ∨ (A' = some ⟨w.heap.size, 0, none⟩ ∧ Below w.heap.size w w')) ∧ Rd w' A xs := by
 obtain ⟨ht, i, z, hi, hz, rfl, rfl, hzs, hsz⟩ := hel
 have hsmall : n + m ≤ 9223372036854775807 := by simp only [maxLen] at h63; omega
 have hcells : ∀ ad, A2 = some ad → ∀ j u, news[j]? = some u → w.cell? (ad.add j) = some u := by
   intro ad hA j u hu
   obtain ⟨b, off, hA', hb, hc⟩ := hr (by have := (List.getElem?_eq_some_iff.1 hu).1; omega)
   rw [hA'] at hA
   injection hA with hA
   subst hA
   rw [plain_add]
   exact hc j u hu
 rcases Nat.eq_zero_or_pos m with h0 | h0
 · subst h0
   have hn : news = [] := List.eq_nil_of_length_eq_zero (by simpa using hl)
   subst hn
   refine ⟨A, c, w, ?_, by simpa using hown, Chg.refl _ _, .inl rfl, own_rd hown⟩
   have hload : ∀ (a : Addr), (loadCells a 0).run P w = .ok #[] w := fun a => by simp [loadCells, loadCellsFrom]
   rcases hown.2 with ⟨hv, rfl⟩ | ⟨g, cap, cur, hv, hb, hg, hnc, hm, hsz2, htk⟩
   · injection hv with e1 e2 e3
     subst e1
     subst e3
     cases A2 <;> simp [Builtin.append_, run_underlying ht, sizeOf, typeInfo, hi, Builtin.lenOf, Builtin.firstCells, hload]
   · injection hv with e1 e2 e3
     subst e1
     subst e3
     cases A2 <;> simp [Builtin.append_, run_underlying ht, sizeOf, typeInfo, hi, Builtin.lenOf, Builtin.firstCells, hload, hnc, storeCells]
 · have hnl : 0 < news.length := by rw [hl]; exact Nat.mul_pos h0 hsz
   obtain ⟨b, off, rfl, hb, hc⟩ := hr hnl
   have hnews := hcells _ rfl
   have hzr : ∀ cap, n + m ≤ cap → (Builtin.zeroCells z.cells (cap - (n + m))).size = (cap - (n + m)) * i.size := fun cap _ => by rw [size_zeroCells, hzs]
   have hlen : (xs ++ news).length = (n + m) * i.size := by rw [List.length_append, hown.1, hl, Nat.add_mul]
   rcases hown.2 with ⟨hv, rfl⟩ | ⟨g, cap, cur, hv, hbg, hg, hnc, hcm, hcs, htake⟩
   · injection hv with e1 e2 e3
     subst e1
     subst e3
     have hx : xs = [] := List.eq_nil_of_length_eq_zero (by simpa using hown.1)
     subst hx
     have hrun := run_append_nil (P := P) w t ty e i z ht hi hz ⟨b, off, none⟩ m c2 news hl hnews h0 (by omega) (by simp only [Nat.zero_add] at hbytes; omega)
     have hge := grownCap_ge w m 0 e
     have hcm := grownCap_le_maxLen w m 0 e (by omega)
     have hbel : Below w.heap.size w (w.drew.alloc (.cells (news.toArray ++ Builtin.zeroCells z.cells (grownCap w m 0 e - m)) e)) := (Below.refl _ _).drew.alloc (Nat.le_refl _) _
     refine ⟨_, _, _, by rw [Nat.zero_add]; exact hrun, ?_, Chg.of_new hbel, .inr ⟨rfl, hbel⟩, Rd.nil _ _⟩
     rw [Nat.zero_add]
     have := own_front (w := w) (base := base) (e := e) (rest := Builtin.zeroCells z.cells (grownCap w m 0 e - m)) hbase hl hge hcm (by rw [size_zeroCells, hzs])
     simpa using this
   · injection hv with e1 e2 e3
     subst e1
     subst e3
     by_cases hroom : n + m ≤ c
     · have hfit : n * i.size + news.length ≤ cur.size := by rw [hl, hcs, ← Nat.add_mul]; exact Nat.mul_le_mul_right _ hroom
       have hrun := run_append_room (P := P) w t ty e i ht hi g n c cur hg ⟨b, off, none⟩ m c2 news hl hnews h1 hroom hfit
       have hown' : (w.setRow g (cur.toList.take (n * i.size) ++ news ++ cur.toList.drop (n * i.size + news.length)).toArray).ownsRow base e i.size (.slice (some ⟨g, 0, none⟩) (n + m) c) (n + m) (xs ++ news) := by
         refine ⟨hlen, .inr ⟨g, c, _, rfl, hbg, setRow_heap w g cur _ e _ hg, hroom, hcm, ?_, ?_⟩⟩
         · simp only [List.size_toArray, List.length_append, List.length_take, List.length_drop, Array.length_toList]
           omega
         · rw [htake, ← hlen]
           exact List.take_left
       refine ⟨_, _, _, hrun, hown', ⟨rfl, rfl, rfl, by simp, fun k _ hk => setRow_other w g k _ (fun e => hk (by rw [e]))⟩, .inl rfl, ?_⟩
       have := (own_rd hown').take xs.length
       rwa [List.take_left] at this
     · have holds : ∀ j u, xs[j]? = some u → w.cell? ((⟨g, 0, none⟩ : Addr).add j) = some u := hown.cells (g := g) rfl
       have hrun := run_append_grow (P := P) w t ty e i z ht hi hz ⟨g, 0, none⟩ n c xs hown.1 holds ⟨b, off, none⟩ m c2 news hl hnews (by omega) (by omega) (growslice_fits (by omega) hbytes)
       have hge := grownCap_ge w (n + m) c e
       have hcm := grownCap_le_maxLen w (n + m) c e h63
       have hbel : Below w.heap.size w (w.drew.alloc (.cells (xs.toArray ++ news.toArray ++ Builtin.zeroCells z.cells (grownCap w (n + m) c e - (n + m))) e)) := (Below.refl _ _).drew.alloc (Nat.le_refl _) _
       refine ⟨_, _, _, hrun, ?_, Chg.of_new hbel, .inr ⟨rfl, hbel⟩, (own_rd hown).new hbel⟩
       have := own_front (w := w) (base := base) (e := e) (rest := Builtin.zeroCells z.cells (grownCap w (n + m) c e - (n + m))) hbase hlen hge hcm (by rw [size_zeroCells, hzs])
       simpa using this

theorem wp_app {P : Program} {w : World} {o : Oper} {a : Act} {K : Act → World → Prop} {Q : Exit → Act → World → Prop} (s x : Operand) (t : TypeId)
   (ho : o.op = .call { callee := .builtin .append, args := #[s, x], argTypes := #[t, t] })
   {e : TypeId} {size bytes base n c m c2 : Nat} {A A2 : Option Addr} {xs news : List Value} (hel : El P t e size bytes) (hs : a.eval s = .slice A n c)
   (hown : w.ownsRow base e size (.slice A n c) n xs) (hx : a.eval x = .slice A2 m c2) (hr : Rd w A2 news) (hl : news.length = m * size) (h1 : ∀ u ∈ news, u.oneCell' = true)
   (h63 : n + m ≤ maxLen) (hbytes : (n + m) * bytes ≤ 140737488355328) (hbase : base ≤ w.heap.size)
   (h : ∀ A' c' w', w'.ownsRow base e size (.slice A' (n + m) c') (n + m) (xs ++ news) → Chg (fun g => A = some ⟨g, 0, none⟩) w w' → (A' = A ∨ (A' = some ⟨w.heap.size, 0, none⟩ ∧ Below w.heap.size w w')) → Rd w' A xs → K (a.put o.dst (.slice A' (n + m) c')) w') : o.wp P a w K Q := by
 obtain ⟨A', c', w', hrun, h2, h3, h4, h5⟩ := run_app (P := P) (ty := o.type) (c2 := c2) hel hown hr hl h1 h63 hbytes hbase
 unfold Oper.wp execOp
 simp only [ho, resolve, invoke, builtin, Sem.run_bind, Sem.run_pure, Result.andThen_ok, List.map_toArray, List.map_cons, List.map_nil, hs, hx, hrun]
 exact h A' c' w' h2 h3 h4 h5

/-- append, as the walk meets it -/
theorem wpList_app {P : Program} {w : World} {ops : Array Oper} {rest : List Oper} {o : Oper} {a : Act} {Q : Exit → Act → World → Prop} (hgd : o.guard = none) (s x : Operand) (t : TypeId)
   (ho : o.op = .call { callee := .builtin .append, args := #[s, x], argTypes := #[t, t] })
   {e : TypeId} {size bytes base n c m c2 : Nat} {A A2 : Option Addr} {xs news : List Value} (hel : El P t e size bytes) (hs : a.eval s = .slice A n c)
   (hown : w.ownsRow base e size (.slice A n c) n xs) (hx : a.eval x = .slice A2 m c2) (hr : Rd w A2 news) (hl : news.length = m * size) (h1 : ∀ u ∈ news, u.oneCell' = true)
   (h63 : n + m ≤ maxLen) (hbytes : (n + m) * bytes ≤ 140737488355328) (hbase : base ≤ w.heap.size)
   (h : ∀ A' c' w', w'.ownsRow base e size (.slice A' (n + m) c') (n + m) (xs ++ news) → Chg (fun g => A = some ⟨g, 0, none⟩) w w' → (A' = A ∨ (A' = some ⟨w.heap.size, 0, none⟩ ∧ Below w.heap.size w w')) → Rd w' A xs → wpList P ops Q rest (a.put o.dst (.slice A' (n + m) c')) w') : wpList P ops Q (o :: rest) a w :=
 wpList_plain hgd fun _ hK => wp_app s x t ho hel hs hown hx hr hl h1 h63 hbytes hbase fun A' c' w' h2 h3 h4 h5 => hK _ _ (h A' c' w' h2 h3 h4 h5)
theorem one_ints (zs : List Int) : ∀ u ∈ zs.map (Value.int .i64), u.oneCell' = true := by
 intro u hu
 obtain ⟨z, _, rfl⟩ := List.mem_map.1 hu
 rfl
/-- a literal's block reads as what was put into it -/
theorem rd_lit (w : World) (cs : List Value) (t : TypeId) : Rd (w.alloc (.cells cs.toArray t)) (some ⟨w.heap.size, 0, none⟩) cs := fun h0 => by
 refine ⟨w.heap.size, 0, rfl, by simp, fun j u hu => ?_⟩
 rw [Nat.zero_add, cell_of_row (w.alloc (.cells cs.toArray t)) w.heap.size j cs.toArray t (0, 0) (heap_alloc_new w _)]
 simpa using hu
/-- behind an append onto a row of the call's own, the source a block just laid, or an older one -/
theorem app_below {base : Nat} {a wr w1 : World} {o : Obj} {e : TypeId} {size n c : Nat} {A : Option Addr} {xs : List Value} (hbel : Below a.heap.size a wr) (hown : wr.ownsRow base e size (.slice A n c) n xs)
   (ch : Chg (fun g => A = some ⟨g, 0, none⟩) (wr.alloc o) w1) (hB : a.heap.size ≤ base) : Below a.heap.size a w1 :=
 hbel.trans (((Below.refl _ _).alloc hbel.size _).trans (ch.below (fun q hq hq2 => by have := own_block hown q (by rw [hq2]; rfl); omega) (by have := hbel.size; simp; omega)))
theorem app_below' {base : Nat} {a wr w1 : World} {e : TypeId} {size n c : Nat} {A : Option Addr} {xs : List Value} (hbel : Below a.heap.size a wr) (hown : wr.ownsRow base e size (.slice A n c) n xs)
   (ch : Chg (fun g => A = some ⟨g, 0, none⟩) wr w1) (hB : a.heap.size ≤ base) : Below a.heap.size a w1 :=
 hbel.trans (ch.below (fun q hq hq2 => by have := own_block hown q (by rw [hq2]; rfl); omega) hbel.size)
theorem own_cap {w : World} {base : Nat} {e : TypeId} {size n c : Nat} {A : Option Addr} {xs : List Value} (h : w.ownsRow base e size (.slice A n c) n xs) : n ≤ c ∧ c ≤ maxLen := by
 rcases h.2 with ⟨hv, rfl⟩ | ⟨g, cap, cur, hv, _, _, h1, h2, _⟩
 · injection hv with _ _ hc
   subst hc
   simp [maxLen]
 · injection hv with _ _ hc
   subst hc
   exact ⟨h1, h2⟩
theorem rd_at {s : Nat} (W : World) (cs : List Value) (t : TypeId) (h : W.heap.size = s) : Rd (W.alloc (.cells cs.toArray t)) (some ⟨s, 0, none⟩) cs := by
 subst h
 exact rd_lit W cs t
theorem own_reader {g base : Nat} {w w' : World} {e : TypeId} {size n c : Nat} {A : Option Addr} {xs : List Value} (hown : w.ownsRow base e size (.slice A n c) n xs) (hc : Chg (fun k => k = g) w w') (hg : g < base) : w'.ownsRow base e size (.slice A n c) n xs :=
 own_chg hown hc fun k hA e => by have := own_block hown k (by rw [hA]; rfl); omega
theorem chg_g {g : Nat} {a wr w1 : World} {base : Nat} {e : TypeId} {size n c : Nat} {A : Option Addr} {xs : List Value} (h : Chg (fun k => k = g) a wr) (hown : wr.ownsRow base e size (.slice A n c) n xs)
   (ch : Chg (fun k => A = some ⟨k, 0, none⟩) wr w1) (hB : a.heap.size ≤ base) : Chg (fun k => k = g) a w1 :=
 ⟨ch.os.trans h.os, ch.tape.trans h.tape, ch.output.trans h.output, Nat.le_trans h.size ch.size, fun k hk hn => (ch.block k (Nat.lt_of_lt_of_le hk h.size) (fun hA => by have := own_block hown k (by rw [hA]; rfl); omega)).trans (h.block k hk hn)⟩
theorem chg_undrew {S : Nat → Prop} {w w' : World} (h : Chg S w.drew w') : Chg S w w' := ⟨h.os, h.tape, h.output, h.size, h.block⟩
/-- an append onto a row of the call's own, behind changes of S alone -/
theorem chg_app {S : Nat → Prop} {a wr w2 : World} {A : Option Addr} (h : Chg S a wr) (ch : Chg (fun k => A = some ⟨k, 0, none⟩) wr w2) (hA : ∀ q, A = some ⟨q, 0, none⟩ → S q ∨ a.heap.size ≤ q) : Chg S a w2 :=
 ⟨ch.os.trans h.os, ch.tape.trans h.tape, ch.output.trans h.output, Nat.le_trans h.size ch.size, fun k hk hn => (ch.block k (Nat.lt_of_lt_of_le hk h.size) (fun hq => by rcases hA k hq with h1 | h1; exact hn h1; omega)).trans (h.block k hk hn)⟩
theorem own_drewN {w : World} {base : Nat} {e : TypeId} {size : Nat} {A : Option Addr} {c n : Nat} {xs : List Value} (h : w.ownsRow base e size (.slice A n c) n xs) (m : Nat) : (w.drewN m).ownsRow base e size (.slice A n c) n xs := h
theorem own_rng {w : World} {base : Nat} {e : TypeId} {size : Nat} {A : Option Addr} {c n : Nat} {xs : List Value} (h : w.ownsRow base e size (.slice A n c) n xs) : ∀ g, A = some ⟨g, 0, none⟩ → base ≤ g ∧ g < w.heap.size := fun g hg => h.lt g (by rw [hg]; rfl)
end Go.Proofs.YtihlhejencninaaGreat
namespace Go.Proofs.YtihlhejencninaaGreat
open Go.RowKit
set_option linter.unusedVariables false
set_option linter.unusedSimpArgs false

/-- how many operations have not come up yet -/
def unl (listed : Array Bool) : Nat := (listed.toList.filter (fun b => !b)).length
theorem unl_set_list (l : List Bool) (i : Nat) (h : l[i]? = some false) : ((l.set i true).filter (fun b => !b)).length + 1 = (l.filter (fun b => !b)).length := by
 induction l generalizing i with
 | nil => simp at h
 | cons b l ih =>
   cases i with
   | zero =>
     have : b = false := by simpa using h
     subst this
     simp
   | succ i =>
     have := ih i (by simpa using h)
     cases b <;> simp at this ⊢ <;> omega
theorem unl_set {listed : Array Bool} {i : Nat} (h : listed[i]? = some false) : unl (listed.setIfInBounds i true) + 1 = unl listed := by
 unfold unl
 rw [Array.toList_setIfInBounds]
 exact unl_set_list _ _ (by simpa using h)
theorem ready_get {md : Region.Mode} {ops : Array Oper} {listed : Array Bool} {i : Nat} (h : i ∈ Region.ready md ops listed) : listed[i]? = some false ∧ i < ops.size := by
 unfold Region.ready at h
 rw [List.mem_filter] at h
 obtain ⟨h1, h2⟩ := h
 rw [Bool.and_eq_true] at h2
 obtain ⟨h2, _⟩ := h2
 refine ⟨?_, by simpa using h1⟩
 rw [Array.getD_eq_getD_getElem?] at h2
 rcases hl : listed[i]? with _ | b
 · rw [hl] at h2; simp at h2
 · rw [hl] at h2
   cases b
   · rfl
   · simp at h2
theorem wpAny_inv {P : Program} {ops : Array Oper} {Q : Exit → Act → World → Prop} {md : Region.Mode} {I : Array Bool → Act → World → Prop}
   (hstep : ∀ listed a w i, I listed a w → i ∈ Region.ready md ops listed → wpOp P ops Q i (I (listed.setIfInBounds i true)) a w)
   (hdone : ∀ listed a w, I listed a w → Region.ready md ops listed = [] → Q .normal a w) :
   ∀ (fuel : Nat) (listed : Array Bool) (a : Act) (w : World), unl listed ≤ fuel → I listed a w → wpAny P md ops Q fuel listed a w
 | 0, listed, a, w, hf, hI => by
   have hr : Region.ready md ops listed = [] := by
     rw [List.eq_nil_iff_forall_not_mem]
     intro i hi
     have := unl_set (ready_get hi).1
     omega
   exact ⟨hr, hdone _ _ _ hI hr⟩
 | fuel + 1, listed, a, w, hf, hI =>
   ⟨fun hr => hdone _ _ _ hI hr, fun i hi => wpOp_mono (fun a' w' h' => wpAny_inv hstep hdone fuel _ a' w' (by have := unl_set (ready_get hi).1; omega) h') (hstep _ _ _ _ hI hi)⟩
/-- when an operation may come up, all that it waits for has come up -/
theorem ready_after {md : Region.Mode} {ops : Array Oper} {listed : Array Bool} {i : Nat} {o : Oper} (h : i ∈ Region.ready md ops listed) (ho : ops[i]? = some o) : ∀ e ∈ o.after, Region.binds md e = true → listed.getD e.on false = true := by
 unfold Region.ready at h
 rw [List.mem_filter] at h
 obtain ⟨_, h2⟩ := h
 rw [Bool.and_eq_true] at h2
 obtain ⟨_, h2⟩ := h2
 rw [ho] at h2
 simp only [Option.map_some, Option.getD_some, Array.all_eq_true_iff_forall_mem] at h2
 intro e he hb
 have := h2 e he
 rw [hb] at this
 simpa using this
end Go.Proofs.YtihlhejencninaaGreat
namespace Go.Proofs.YtihlhejencninaaGreat
open Go.RowKit
set_option linter.unusedVariables false
set_option linter.unusedSimpArgs false

/-- The slice value with the address A reads as the cells xs, which lie in a block of P. -/
def RdP (P : Nat → Prop) (w : World) (A : Option Addr) (xs : List Value) : Prop :=
 0 < xs.length → ∃ b off, A = some ⟨b, off, none⟩ ∧ P b ∧ b < w.heap.size ∧ ∀ j u, xs[j]? = some u → w.cell? ⟨b, off + j, none⟩ = some u
/-- the blocks of P that are there are as they were -/
def Kp (P : Nat → Prop) (w w' : World) : Prop := w.heap.size ≤ w'.heap.size ∧ ∀ k, P k → k < w.heap.size → w'.heap[k]? = w.heap[k]?
section
variable {P Q S : Nat → Prop} {w w' w'' : World} {A : Option Addr} {xs : List Value}
theorem Kp.below (h : Below w.heap.size w w') : Kp P w w' := ⟨h.size, fun k _ hk => h.block k hk⟩
theorem Kp.chg (h : Chg S w w') (hS : ∀ k, P k → ¬ S k) : Kp P w w' := ⟨h.size, fun k hp hk => h.block k hk (hS k hp)⟩
theorem Kp.trans (h : Kp P w w') (g : Kp P w' w'') : Kp P w w'' := ⟨Nat.le_trans h.1 g.1, fun k hp hk => (g.2 k hp (Nat.lt_of_lt_of_le hk h.1)).trans (h.2 k hp hk)⟩
theorem Kp.mono (h : Kp Q w w') (hPQ : ∀ k, P k → k < w.heap.size → Q k) : Kp P w w' := ⟨h.1, fun k hp hk => h.2 k (hPQ k hp hk) hk⟩
theorem Kp.refl (P : Nat → Prop) (w : World) : Kp P w w := ⟨Nat.le_refl _, fun _ _ _ => rfl⟩
theorem Kp.drewN (P : Nat → Prop) (w : World) (n : Nat) : Kp P w (w.drewN n) := ⟨Nat.le_refl _, fun _ _ _ => rfl⟩
theorem Kp.alloc (P : Nat → Prop) (w : World) (o : Obj) : Kp P w (w.alloc o) := Kp.below ((Below.refl _ _).alloc (Nat.le_refl _) o)
theorem RdP.rd (h : RdP P w A xs) : Rd w A xs := fun h0 => by
 obtain ⟨b, off, e, _, hb, hc⟩ := h h0
 exact ⟨b, off, e, hb, hc⟩
theorem RdP.of_rd (h : Rd w A xs) (hP : ∀ b off, A = some ⟨b, off, none⟩ → P b) : RdP P w A xs := fun h0 => by
 obtain ⟨b, off, e, hb, hc⟩ := h h0
 exact ⟨b, off, e, hP b off e, hb, hc⟩
theorem RdP.nil (P : Nat → Prop) (w : World) (A : Option Addr) : RdP P w A [] := fun h => absurd h (by simp)
theorem RdP.mono (h : RdP P w A xs) (hPQ : ∀ k, P k → k < w.heap.size → Q k) : RdP Q w A xs := fun h0 => by
 obtain ⟨b, off, e, hp, hb, hc⟩ := h h0
 exact ⟨b, off, e, hPQ b hp hb, hb, hc⟩
theorem RdP.keep (h : RdP P w A xs) (hk : Kp P w w') : RdP P w' A xs := fun h0 => by
 obtain ⟨b, off, e, hp, hb, hc⟩ := h h0
 exact ⟨b, off, e, hp, Nat.lt_of_lt_of_le hb hk.1, fun j u hu => (World.cell?_of_block (hk.2 b hp hb)).trans (hc j u hu)⟩
theorem own_rdP {base : Nat} {e : TypeId} {size c n : Nat} (h : w.ownsRow base e size (.slice A n c) n xs) : RdP (fun k => base ≤ k ∧ A = some ⟨k, 0, none⟩) w A xs := by
 refine RdP.of_rd (own_rd h) fun b off hA => ?_
 rcases h.2 with ⟨hv, _⟩ | ⟨g, cap, cur, hv, hg, _⟩
 · injection hv with hv; rw [hA] at hv; cases hv
 · injection hv with hv
   rw [hA] at hv
   injection hv with hv
   injection hv with h1 h2
   subst h1; subst h2
   exact ⟨hg, hA⟩
theorem own_rdB {base base' : Nat} {e : TypeId} {size c n : Nat} (h : w.ownsRow base e size (.slice A n c) n xs) (hb : base' ≤ base) : RdP (fun k => base' ≤ k) w A xs := (own_rdP h).mono fun _ hk _ => Nat.le_trans hb hk.1
end

/-- how a thing lies in cells, with all that hangs on it in blocks of P -/
abbrev Rel (α : Type) := (Nat → Prop) → α → World → List Value → Prop
structure Good {α : Type} (R : Rel α) (s : Nat) : Prop where
 len : ∀ {P x w cs}, R P x w cs → cs.length = s
 mono : ∀ {P Q : Nat → Prop} {x w cs}, R P x w cs → (∀ k, P k → k < w.heap.size → Q k) → R Q x w cs
 keep : ∀ {P : Nat → Prop} {x w w' cs}, R P x w cs → Kp P w w' → R P x w' cs
def AllR {α : Type} (R : Rel α) (P : Nat → Prop) (w : World) : List α → List (List Value) → Prop
 | [], [] => True
 | x :: xs, v :: vs => R P x w v ∧ AllR R P w xs vs
 | _, _ => False
section
variable {α : Type} {R : Rel α} {P Q : Nat → Prop} {w w' : World} {xs ys : List α} {vs us : List (List Value)} {s : Nat}
theorem AllR.length (h : AllR R P w xs vs) : vs.length = xs.length := by
 induction xs generalizing vs with
 | nil => cases vs with | nil => rfl | cons => exact h.elim
 | cons x xs ih => cases vs with | nil => exact h.elim | cons v vs => simp [ih h.2]
theorem AllR.get (h : AllR R P w xs vs) {k : Nat} (hk : k < xs.length) : ∃ hv : k < vs.length, R P xs[k] w vs[k] := by
 induction xs generalizing vs k with
 | nil => simp at hk
 | cons x xs ih =>
   cases vs with
   | nil => exact h.elim
   | cons v vs =>
     cases k with
     | zero => exact ⟨by simp, h.1⟩
     | succ k =>
       obtain ⟨h1, h2⟩ := ih h.2 (k := k) (by simpa using hk)
       exact ⟨by simpa using h1, h2⟩
theorem AllR.append (h : AllR R P w xs vs) (g : AllR R P w ys us) : AllR R P w (xs ++ ys) (vs ++ us) := by
 induction xs generalizing vs with
 | nil => cases vs with | nil => exact g | cons => exact h.elim
 | cons x xs ih => cases vs with | nil => exact h.elim | cons v vs => exact ⟨h.1, ih h.2⟩
theorem AllR.one {x : α} {cs : List Value} (h : R P x w cs) : AllR R P w [x] [cs] := ⟨h, trivial⟩
theorem AllR.map {R' : Rel α} {P' : Nat → Prop} (h : AllR R P w xs vs) (f : ∀ x cs, R P x w cs → R' P' x w' cs) : AllR R' P' w' xs vs := by
 induction xs generalizing vs with
 | nil => cases vs with | nil => trivial | cons => exact h.elim
 | cons x xs ih => cases vs with | nil => exact h.elim | cons v vs => exact ⟨f _ _ h.1, ih h.2⟩
theorem AllR.mono (G : Good R s) (h : AllR R P w xs vs) (hPQ : ∀ k, P k → k < w.heap.size → Q k) : AllR R Q w xs vs := h.map fun _ _ r => G.mono r hPQ
theorem AllR.keep (G : Good R s) (h : AllR R P w xs vs) (hk : Kp P w w') : AllR R P w' xs vs := h.map fun _ _ r => G.keep r hk
theorem AllR.set (h : AllR R P w xs vs) {k : Nat} {x : α} {cs : List Value} (hx : R P x w cs) : AllR R P w (xs.set k x) (vs.set k cs) := by
 induction xs generalizing vs k with
 | nil => cases vs with | nil => exact trivial | cons => exact h.elim
 | cons y xs ih =>
   cases vs with
   | nil => exact h.elim
   | cons v vs =>
     cases k with
     | zero => exact ⟨hx, h.2⟩
     | succ k => exact ⟨h.1, ih h.2⟩
theorem AllR.flat_len (G : Good R s) (h : AllR R P w xs vs) : vs.flatten.length = xs.length * s := by
 induction xs generalizing vs with
 | nil => cases vs with | nil => simp | cons => exact h.elim
 | cons x xs ih =>
   cases vs with
   | nil => exact h.elim
   | cons v vs => rw [List.flatten_cons, List.length_append, G.len h.1, ih h.2, List.length_cons, Nat.add_mul]; omega
theorem AllR.flat_get (G : Good R s) (h : AllR R P w xs vs) {k : Nat} (hk : k < vs.length) {j : Nat} (hj : j < s) : vs.flatten[k * s + j]? = vs[k][j]? := by
 induction xs generalizing vs k with
 | nil => cases vs with | nil => simp at hk | cons => exact h.elim
 | cons x xs ih =>
   cases vs with
   | nil => exact h.elim
   | cons v vs =>
     have hv := G.len h.1
     cases k with
     | zero => simp [List.getElem?_append, hv, hj]
     | succ k =>
       have e : (k + 1) * s + j = s + (k * s + j) := by rw [Nat.add_mul]; omega
       rw [List.flatten_cons, e, List.getElem?_append_right (by rw [hv]; omega), hv, Nat.add_sub_cancel_left]
       simpa using ih h.2 (k := k) (by simpa using hk)
end
/-- The slice value with the address A reads as the things xs. -/
def RdD {α : Type} (R : Rel α) (P : Nat → Prop) (w : World) (A : Option Addr) (xs : List α) : Prop := ∃ vs, AllR R P w xs vs ∧ RdP P w A vs.flatten
section
variable {α : Type} {R : Rel α} {P Q : Nat → Prop} {w w' : World} {xs ys : List α} {s : Nat} {A : Option Addr}
theorem RdD.nil (R : Rel α) (P : Nat → Prop) (w : World) (A : Option Addr) : RdD R P w A [] := ⟨[], trivial, RdP.nil _ _ _⟩
theorem RdD.mono (G : Good R s) (h : RdD R P w A xs) (hPQ : ∀ k, P k → k < w.heap.size → Q k) : RdD R Q w A xs := by
 obtain ⟨vs, h1, h2⟩ := h
 exact ⟨vs, h1.mono G hPQ, h2.mono hPQ⟩
theorem RdD.keep (G : Good R s) (h : RdD R P w A xs) (hk : Kp P w w') : RdD R P w' A xs := by
 obtain ⟨vs, h1, h2⟩ := h
 exact ⟨vs, h1.keep G hk, h2.keep hk⟩
theorem RdD.new (G : Good R s) (h : RdD R P w A xs) (hb : Below w.heap.size w w') : RdD R P w' A xs := h.keep G (Kp.below hb)
theorem RdD.drewN (G : Good R s) (h : RdD R P w A xs) (n : Nat) : RdD R P (w.drewN n) A xs := h.keep G (Kp.drewN P w n)
/-- the cells of one element, and what they are -/
theorem RdD.get (G : Good R s) (hs : 0 < s) (h : RdD R P w A xs) {k : Nat} (hk : k < xs.length) :
   ∃ b off cs, A = some ⟨b, off, none⟩ ∧ P b ∧ b < w.heap.size ∧ R P xs[k] w cs ∧ ∀ j u, cs[j]? = some u → w.cell? ⟨b, off + (k * s + j), none⟩ = some u := by
 obtain ⟨vs, h1, h2⟩ := h
 obtain ⟨hv, hr⟩ := h1.get hk
 obtain ⟨b, off, rfl, hp, hb, hc⟩ := h2 (by rw [h1.flat_len G]; exact Nat.mul_pos (by omega) hs)
 refine ⟨b, off, vs[k], rfl, hp, hb, hr, fun j u hu => hc _ u ?_⟩
 have hj : j < s := by
   have := (List.getElem?_eq_some_iff.1 hu).1
   rwa [G.len hr] at this
 rw [h1.flat_get G hv hj, hu]
end
/-- a row of numbers, behind a slice -/
def rowR : Rel (List Int) := fun P xs w cs => ∃ A c, cs = [.slice A xs.length c] ∧ xs.length ≤ c ∧ c ≤ maxLen ∧ RdP P w A (xs.map (.int .i64))
theorem row_good : Good rowR 1 :=
 ⟨fun ⟨_, _, h, _⟩ => by rw [h]; rfl, fun ⟨A, c, h1, h2, h3, h4⟩ hPQ => ⟨A, c, h1, h2, h3, h4.mono hPQ⟩, fun ⟨A, c, h1, h2, h3, h4⟩ hk => ⟨A, c, h1, h2, h3, h4.keep hk⟩⟩
/-- the blocks that a row of the call's own does not use: what hangs on its elements -/
def Off (base : Nat) (A : Option Addr) (k : Nat) : Prop := base ≤ k ∧ A ≠ some ⟨k, 0, none⟩
section
variable {α : Type} {R : Rel α} {s base s5 : Nat} {A A6 : Option Addr} {w w6 : World} {o : Obj} {xs : List α} {vs : List (List Value)} {x : α} {cs : List Value} {T0 : Prop}
theorem off_new (hs : base ≤ s5) (hr : ∀ g, A = some ⟨g, 0, none⟩ → base ≤ g ∧ g < s5) (hd : A6 = A ∨ (A6 = some ⟨(w.alloc o).heap.size, 0, none⟩ ∧ T0)) : ∀ k, s5 ≤ k → k < w.heap.size → Off base A6 k := fun k hk hkw => ⟨by omega, fun e => by
 rcases hd with hd | ⟨hd, _⟩
 · have := hr k (by rw [← hd, e]); omega
 · rw [e] at hd
   injection hd with hd
   injection hd with hd
   simp at hd
   omega⟩
theorem off_old (hd : A6 = A ∨ (A6 = some ⟨(w.alloc o).heap.size, 0, none⟩ ∧ T0)) : ∀ k, Off base A k → k < w.heap.size → Off base A6 k := fun k hk hkw => ⟨hk.1, fun e => by
 rcases hd with hd | ⟨hd, _⟩
 · exact hk.2 (by rw [← hd, e])
 · rw [e] at hd
   injection hd with hd
   injection hd with hd
   simp at hd
   omega⟩
theorem new_kp (hr : ∀ g, A = some ⟨g, 0, none⟩ → base ≤ g ∧ g < s5) (hc : Chg (fun k => A = some ⟨k, 0, none⟩) (w.alloc o) w6) : Kp (fun k => s5 ≤ k) w w6 :=
 (Kp.alloc _ w o).trans (Kp.chg hc fun k hk e => by have := hr k e; omega)
/-- one more thing, made behind the row's block, is put behind the row -/
theorem deep_app (G : Good R s) (hall : AllR R (Off base A) w xs vs) (hx : R (fun k => s5 ≤ k) x w cs) (hs : base ≤ s5) (hr : ∀ g, A = some ⟨g, 0, none⟩ → base ≤ g ∧ g < s5)
   (hc : Chg (fun k => A = some ⟨k, 0, none⟩) (w.alloc o) w6) (hd : A6 = A ∨ (A6 = some ⟨(w.alloc o).heap.size, 0, none⟩ ∧ T0)) : AllR R (Off base A6) w6 (xs ++ [x]) (vs ++ [cs]) := by
 have h1 : AllR R (fun k => Off base A6 k ∧ A ≠ some ⟨k, 0, none⟩) w xs vs := hall.mono G fun k hk hkw => ⟨off_old hd k hk hkw, hk.2⟩
 have h2 : R (fun k => Off base A6 k ∧ A ≠ some ⟨k, 0, none⟩) x w cs := G.mono hx fun k hk hkw => ⟨off_new hs hr hd k hk hkw, fun e => by have := hr k e; omega⟩
 exact ((h1.append (AllR.one h2)).keep G ((Kp.alloc _ w o).trans (Kp.chg hc fun k hk => hk.2))).mono G fun k hk _ => hk.1
end
end Go.Proofs.YtihlhejencninaaGreat
namespace Go.Proofs.YtihlhejencninaaGreat
open Go.RowKit
set_option linter.unusedVariables false
set_option linter.unusedSimpArgs false

def blk : Option Addr → List Nat
 | none => []
 | some a => [a.block]
theorem blk_mem {A : Option Addr} {k : Nat} (h : k ∈ blk A) : ∃ a, A = some a ∧ a.block = k := by
 cases A with
 | none => cases h
 | some a => exact ⟨a, rfl, (show k = a.block by simpa [blk] using h).symm⟩
theorem blk_own {w : World} {base : Nat} {e : TypeId} {size n c : Nat} {A : Option Addr} {xs : List Value} (h : w.ownsRow base e size (.slice A n c) n xs) {k : Nat} (hk : k ∈ blk A) : A = some ⟨k, 0, none⟩ ∧ base ≤ k ∧ k < w.heap.size := by
 obtain ⟨a, rfl, ha⟩ := blk_mem hk
 rcases h.2 with ⟨hv, _⟩ | ⟨g, cap, cur, hv, hg, hh, _⟩
 · cases hv
 · injection hv with hv
   injection hv with hv
   subst hv
   simp only at ha
   subst ha
   exact ⟨rfl, hg, (Array.getElem?_eq_some_iff.1 hh).1⟩
theorem mem_blk {A : Option Addr} {k : Nat} (h : A = some ⟨k, 0, none⟩) : k ∈ blk A := by subst h; simp [blk]
theorem blk_nodup (A : Option Addr) : (blk A).Nodup := by cases A <;> simp [blk]
/-- how a thing of the call's own lies in cells, and in which blocks -/
abbrev ORel (α : Type) := α → World → List Value → List Nat → Prop
structure OGood {α : Type} (O : ORel α) (R : Rel α) : Prop where
 rd : ∀ {x w cs fp}, O x w cs fp → R (fun k => k ∈ fp) x w cs
 keep : ∀ {x w w' cs fp}, O x w cs fp → (∀ k ∈ fp, k < w.heap.size → w'.heap[k]? = w.heap[k]?) → O x w' cs fp
 lt : ∀ {x w cs fp}, O x w cs fp → ∀ k ∈ fp, k < w.heap.size
def AllO {α : Type} (O : ORel α) (w : World) : List α → List (List Value) → List (List Nat) → Prop
 | [], [], [] => True
 | x :: xs, v :: vs, f :: fs => O x w v f ∧ AllO O w xs vs fs
 | _, _, _ => False
section
variable {α : Type} {O : ORel α} {R : Rel α} {w w' : World} {xs ys : List α} {vs us : List (List Value)} {fs gs : List (List Nat)} {s : Nat}
theorem AllO.len (h : AllO O w xs vs fs) : vs.length = xs.length ∧ fs.length = xs.length := by
 induction xs generalizing vs fs with
 | nil => cases vs <;> cases fs <;> simp_all [AllO]
 | cons x xs ih =>
   cases vs with
   | nil => cases fs <;> exact h.elim
   | cons v vs =>
     cases fs with
     | nil => exact h.elim
     | cons f fs => obtain ⟨h1, h2⟩ := ih h.2; simp [h1, h2]
theorem AllO.append (h : AllO O w xs vs fs) (g : AllO O w ys us gs) : AllO O w (xs ++ ys) (vs ++ us) (fs ++ gs) := by
 induction xs generalizing vs fs with
 | nil =>
   cases vs with
   | nil => cases fs with | nil => exact g | cons => exact h.elim
   | cons => cases fs <;> exact h.elim
 | cons x xs ih =>
   cases vs with
   | nil => cases fs <;> exact h.elim
   | cons v vs => cases fs with | nil => exact h.elim | cons f fs => exact ⟨h.1, ih h.2⟩
theorem AllO.one {x : α} {cs : List Value} {f : List Nat} (h : O x w cs f) : AllO O w [x] [cs] [f] := ⟨h, trivial⟩
theorem AllO.keep (G : OGood O R) (h : AllO O w xs vs fs) (hk : ∀ k ∈ fs.flatten, k < w.heap.size → w'.heap[k]? = w.heap[k]?) : AllO O w' xs vs fs := by
 induction xs generalizing vs fs with
 | nil =>
   cases vs with
   | nil => cases fs with | nil => trivial | cons => exact h.elim
   | cons => cases fs <;> exact h.elim
 | cons x xs ih =>
   cases vs with
   | nil => cases fs <;> exact h.elim
   | cons v vs =>
     cases fs with
     | nil => exact h.elim
     | cons f fs => exact ⟨G.keep h.1 fun k hk' => hk k (by simp [hk']), ih h.2 fun k hk' => hk k (by rw [List.flatten_cons]; exact List.mem_append_right _ hk')⟩
theorem AllO.lt (G : OGood O R) (h : AllO O w xs vs fs) : ∀ k ∈ fs.flatten, k < w.heap.size := by
 induction xs generalizing vs fs with
 | nil =>
   cases vs with
   | nil => cases fs with | nil => intro k hk; cases hk | cons => exact h.elim
   | cons => cases fs <;> exact h.elim
 | cons x xs ih =>
   cases vs with
   | nil => cases fs <;> exact h.elim
   | cons v vs =>
     cases fs with
     | nil => exact h.elim
     | cons f fs =>
       intro k hk
       rw [List.flatten_cons] at hk
       rcases List.mem_append.1 hk with hk | hk
       · exact G.lt h.1 k hk
       · exact ih h.2 k hk
theorem AllO.rd {P : Nat → Prop} (G : OGood O R) (GR : Good R s) (h : AllO O w xs vs fs) (hP : ∀ k ∈ fs.flatten, P k) : AllR R P w xs vs := by
 induction xs generalizing vs fs with
 | nil =>
   cases vs with
   | nil => trivial
   | cons => cases fs <;> exact h.elim
 | cons x xs ih =>
   cases vs with
   | nil => cases fs <;> exact h.elim
   | cons v vs =>
     cases fs with
     | nil => exact h.elim
     | cons f fs => exact ⟨GR.mono (G.rd h.1) fun k hk _ => hP k (by simp [hk]), ih h.2 fun k hk => hP k (by rw [List.flatten_cons]; exact List.mem_append_right _ hk)⟩
/-- the k-th one, and all others -/
theorem AllO.split (h : AllO O w xs vs fs) (k : Nat) (hk : k < xs.length) : ∃ (hv : k < vs.length) (hf : k < fs.length), AllO O w (xs.take k) (vs.take k) (fs.take k) ∧ O xs[k] w vs[k] fs[k] ∧ AllO O w (xs.drop (k + 1)) (vs.drop (k + 1)) (fs.drop (k + 1)) := by
 induction xs generalizing vs fs k with
 | nil => simp at hk
 | cons x xs ih =>
   cases vs with
   | nil => cases fs <;> exact h.elim
   | cons v vs =>
     cases fs with
     | nil => exact h.elim
     | cons f fs =>
       cases k with
       | zero => exact ⟨by simp, by simp, by simp [AllO], h.1, by simpa using h.2⟩
       | succ k =>
         obtain ⟨h1, h2, h3, h4, h5⟩ := ih h.2 k (by simpa using hk)
         exact ⟨by simpa using h1, by simpa using h2, ⟨h.1, h3⟩, h4, h5⟩
theorem AllO.each (G : OGood O R) (GR : Good R s) (h : AllO O w xs vs fs) : ∀ v ∈ vs, v.length = s := by
 induction xs generalizing vs fs with
 | nil =>
   cases vs with
   | nil => intro v hv; cases hv
   | cons => cases fs <;> exact h.elim
 | cons x xs ih =>
   cases vs with
   | nil => cases fs <;> exact h.elim
   | cons v vs =>
     cases fs with
     | nil => exact h.elim
     | cons f fs =>
       intro u hu
       rcases List.mem_cons.1 hu with rfl | hu
       · exact GR.len (G.rd h.1)
       · exact ih h.2 u hu
end
/-- cells of one thing of several, set -/
theorem setAt_flatten (s : Nat) (vs : List (List Value)) (hv : ∀ v ∈ vs, v.length = s) (k : Nat) (hk : k < vs.length) (x : List Value) (hx : x.length = s) : setAt vs.flatten (k * s) x = (vs.set k x).flatten := by
 induction vs generalizing k with
 | nil => simp at hk
 | cons y vs ih =>
   have hy := hv y (by simp)
   cases k with
   | zero => simp only [Nat.zero_mul, List.flatten_cons, List.set_cons_zero]; exact setAt_left _ _ _ (by rw [hx, hy])
   | succ k =>
     rw [List.flatten_cons, List.set_cons_succ, List.flatten_cons, ← ih (fun v h => hv v (by simp [h])) k (by simpa using hk), ← setAt_right, hy]
     congr 1
     rw [Nat.add_mul]; omega
/-- A slice of the call's own, with all that hangs on it. -/
def OwnD {α : Type} (O : ORel α) (e : TypeId) (s : Nat) (w : World) (A : Option Addr) (c : Nat) (xs : List α) (fp : List Nat) : Prop :=
 ∃ vs fs, AllO O w xs vs fs ∧ w.ownsRow 0 e s (.slice A xs.length c) xs.length vs.flatten ∧ fp = blk A ++ fs.flatten ∧ fp.Nodup
section
variable {α : Type} {O : ORel α} {R : Rel α} {w w' : World} {xs : List α} {s : Nat} {e : TypeId} {A : Option Addr} {c : Nat} {fp : List Nat}
theorem OwnD.lt (G : OGood O R) (h : OwnD O e s w A c xs fp) : ∀ k ∈ fp, k < w.heap.size := by
 obtain ⟨vs, fs, h1, h2, rfl, h4⟩ := h
 intro k hk
 rcases List.mem_append.1 hk with hk | hk
 · exact (blk_own h2 hk).2.2
 · exact h1.lt G k hk
theorem OwnD.keep (G : OGood O R) (h : OwnD O e s w A c xs fp) (hk : ∀ k ∈ fp, k < w.heap.size → w'.heap[k]? = w.heap[k]?) : OwnD O e s w' A c xs fp := by
 obtain ⟨vs, fs, h1, h2, rfl, h4⟩ := h
 exact ⟨vs, fs, h1.keep G fun k hk' => hk k (List.mem_append_right _ hk'), own_keep h2 fun g hA hg => hk g (List.mem_append_left _ (mem_blk hA)) hg, rfl, h4⟩
theorem OwnD.rd {P : Nat → Prop} (G : OGood O R) (GR : Good R s) (h : OwnD O e s w A c xs fp) (hP : ∀ k ∈ fp, P k) : RdD R P w A xs := by
 obtain ⟨vs, fs, h1, h2, rfl, h4⟩ := h
 exact ⟨vs, h1.rd G GR fun k hk => hP k (List.mem_append_right _ hk), (own_rdP h2).mono fun k hk _ => hP k (List.mem_append_left _ (mem_blk hk.2))⟩
theorem OwnD.new (G : OGood O R) (h : OwnD O e s w A c xs fp) (hb : Below w.heap.size w w') : OwnD O e s w' A c xs fp := h.keep G fun k _ hk => hb.block k hk
theorem OwnD.cap (h : OwnD O e s w A c xs fp) : xs.length ≤ c ∧ c ≤ maxLen := by
 obtain ⟨vs, fs, h1, h2, h3, h4⟩ := h
 exact own_cap h2
end
theorem own_base0 {w : World} {base : Nat} {e : TypeId} {size n c : Nat} {A : Option Addr} {xs : List Value} (h : w.ownsRow base e size (.slice A n c) n xs) : w.ownsRow 0 e size (.slice A n c) n xs := own_base h (Nat.zero_le _)
theorem fresh_nodup {a b : List Nat} {m : Nat} (ha : a.Nodup) (hb : b.Nodup) (h1 : ∀ k ∈ a, k < m) (h2 : ∀ k ∈ b, m ≤ k) : (a ++ b).Nodup := by
 rw [List.nodup_append]
 exact ⟨ha, hb, fun x hx y hy e => by have := h1 x hx; have := h2 y hy; omega⟩
end Go.Proofs.YtihlhejencninaaGreat
namespace Go.Proofs.YtihlhejencninaaGreat
open Go.RowKit
set_option linter.unusedVariables false
set_option linter.unusedSimpArgs false

theorem run_append_nilZ {P : Program} {w : World} (t ti ty e : TypeId) (i : TypeInfo) (z : Value) (k : IntKind) (ht : P.underlying t = some (.slice e)) (hti : P.underlying ti = some (.int k)) (hi : P.info? e = some i) (hz : i.zero = some z) (hz2 : 0 < i.size)
   (n : Nat) (h0 : 0 < n) (h63 : (n : Int) ≤ 1099511627776) (h48 : n * i.bytes ≤ 281474976710656) :
   (Builtin.append_ #[t, ti] ty #[.slice none 0 0, .int .i64 (n : Int)]).run P w =
     .ok (.slice (some ⟨w.heap.size, 0, none⟩) n (grownCap w n 0 e)) (w.drew.alloc (.cells (Builtin.zeroCells z.cells n ++ Builtin.zeroCells z.cells (grownCap w n 0 e - n)) e)) := by
 have hn : n ≠ 0 := by omega
 have hw : IntKind.i64.wrap (n : Int) = (n : Int) := by rw [IntKind.wrap_i64, Int.emod_eq_of_lt (by omega) (by omega)]; omega
 have hneg : ¬ ((n : Int) < 0) := by omega
 have h63' : ¬ (9223372036854775807 < (n : Int)) := by omega
 have h48'' : ¬ (281474976710656 < (n : Int) * (i.bytes : Int)) := by
   have h := Int.ofNat_le.2 h48
   rw [Int.natCast_mul] at h
   exact Int.not_lt.2 h
 have h48' : ¬ (281474976710656 < Builtin.nextslicecap n 0 * i.bytes) := by rw [nextslicecap_zero h0]; omega
 have hs : ¬ (i.size = 0) := by omega
 have hs2 : ¬ (n * i.size = 0) := Nat.mul_ne_zero hn hs
 simp [Builtin.append_, run_underlying ht, run_underlying hti, sizeOf, typeInfo, zeroValue, hi, hz, asInt, asIntOf, hw, hneg, hn, h63', h48', h48'', hs, hs2, Question.forced, run_firstCells_none, newRow, grownCap]
theorem wpList_appZ {P : Program} {w : World} {ops : Array Oper} {rest : List Oper} {o : Oper} {a : Go.Act} {Q : Exit → Go.Act → World → Prop} (hgd : o.guard = none) (s x : Operand) (t ti : TypeId)
   (ho : o.op = .call { callee := .builtin .append, args := #[s, x], argTypes := #[t, ti] }) (k : IntKind) (hti : P.underlying ti = some (.int k))
   {e : TypeId} {size bytes base n : Nat} (hel : El P t e size bytes) (hs : a.eval s = .slice none 0 0) (hx : a.eval x = .int .i64 (n : Int))
   (h0 : 0 < n) (h63 : (n : Int) ≤ 1099511627776) (hbytes : n * bytes ≤ 140737488355328) (hbase : base ≤ w.heap.size)
   (h : ∀ g c' w', g = w.heap.size → n ≤ c' → w'.ownsRow base e size (.slice (some ⟨g, 0, none⟩) 0 c') 0 [] → Below w.heap.size w w' → wpList P ops Q rest (a.put o.dst (.slice (some ⟨g, 0, none⟩) n c')) w') : wpList P ops Q (o :: rest) a w :=
 wpList_plain hgd fun _ hK => by
   obtain ⟨ht, i, z, hi, hz, hsz, hby, hzs, hpos⟩ := hel
   have hrun := run_append_nilZ (P := P) (w := w) t ti o.type e i z k ht hti hi hz (by omega) n h0 h63 (by rw [hby]; omega)
   have hge := grownCap_ge w n 0 e
   have hcm := grownCap_le_maxLen w n 0 e (by simp only [maxLen]; omega)
   unfold Oper.wp execOp
   simp only [ho, resolve, invoke, builtin, Sem.run_bind, Sem.run_pure, Result.andThen_ok, List.map_toArray, List.map_cons, List.map_nil, hs, hx, hrun]
   refine hK _ _ (h _ _ _ rfl hge ?_ ((Below.refl _ _).drew.alloc (Nat.le_refl _) _))
   refine ⟨by simp, .inr ⟨w.heap.size, _, _, rfl, hbase, heap_alloc_new w.drew _, Nat.zero_le _, hcm, ?_, by simp⟩⟩
   rw [Array.size_append, size_zeroCells, size_zeroCells, hzs, ← Nat.add_mul]
   congr 1
   omega
end Go.Proofs.YtihlhejencninaaGreat
namespace Go.Proofs.YtihlhejencninaaGreat
open Go.RowKit
set_option linter.unusedVariables false
set_option linter.unusedSimpArgs false

theorem run_app0 {P : Program} {w : World} {t e ty : TypeId} {size bytes base m c2 : Nat} {A A2 : Option Addr} {news : List Value} (hel : El P t e size bytes)
   (hown : w.ownsRow base e size (.slice A 0 0) 0 []) (hr : Rd w A2 news) (hl : news.length = m * size) (h1 : ∀ u ∈ news, u.oneCell' = true)
   (h63 : m ≤ maxLen) (hbytes : m * bytes ≤ 140737488355328) (hbase : base ≤ w.heap.size) :
   ∃ A' c' w', (Builtin.append_ #[t, t] ty #[.slice A 0 0, .slice A2 m c2]).run P w = .ok (.slice A' m c') w' ∧ w'.ownsRow base e size (.slice A' m c') m news ∧ Below w.heap.size w w' := by
 obtain ⟨ht, i, z, hi, hz, rfl, rfl, hzs, hsz⟩ := hel
 have hcells : ∀ ad, A2 = some ad → ∀ j u, news[j]? = some u → w.cell? (ad.add j) = some u := by
   intro ad hA j u hu
   obtain ⟨b, off, hA', hb, hc⟩ := hr (by have := (List.getElem?_eq_some_iff.1 hu).1; omega)
   rw [hA'] at hA
   injection hA with hA
   subst hA
   rw [plain_add]
   exact hc j u hu
 rcases Nat.eq_zero_or_pos m with h0 | h0
 · subst h0
   have hn : news = [] := List.eq_nil_of_length_eq_zero (by simpa using hl)
   subst hn
   refine ⟨A, 0, w, ?_, hown, Below.refl _ _⟩
   have hload : ∀ (a : Addr), (loadCells a 0).run P w = .ok #[] w := fun a => by simp [loadCells, loadCellsFrom]
   rcases hown.2 with ⟨hv, _⟩ | ⟨g, cap, cur, hv, hb, hg, hnc, hm, hsz2, htk⟩
   · injection hv with e1 e2 e3
     subst e1
     cases A2 <;> simp [Builtin.append_, run_underlying ht, sizeOf, typeInfo, hi, Builtin.lenOf, Builtin.firstCells, hload]
   · injection hv with e1 e2 e3
     subst e1
     subst e3
     cases A2 <;> simp [Builtin.append_, run_underlying ht, sizeOf, typeInfo, hi, Builtin.lenOf, Builtin.firstCells, hload, hnc, storeCells]
 · have hnl : 0 < news.length := by rw [hl]; exact Nat.mul_pos h0 hsz
   obtain ⟨b, off, rfl, hb, hc⟩ := hr hnl
   have hnews := hcells _ rfl
   have hsmall : 0 + m ≤ 9223372036854775807 := by simp only [maxLen] at h63; omega
   rcases hown.2 with ⟨hv, _⟩ | ⟨g, cap, cur, hv, hbg, hg, hnc, hcm, hcs, htake⟩
   · injection hv with e1 e2 e3
     subst e1
     have hrun := run_append_nil (P := P) w t ty e i z ht hi hz ⟨b, off, none⟩ m c2 news hl hnews h0 (by omega) (by omega)
     have hge := grownCap_ge w m 0 e
     have hcm := grownCap_le_maxLen w m 0 e (by omega)
     have hbel : Below w.heap.size w (w.drew.alloc (.cells (news.toArray ++ Builtin.zeroCells z.cells (grownCap w m 0 e - m)) e)) := (Below.refl _ _).drew.alloc (Nat.le_refl _) _
     refine ⟨_, _, _, hrun, ?_, hbel⟩
     have := own_front (w := w) (base := base) (e := e) (rest := Builtin.zeroCells z.cells (grownCap w m 0 e - m)) hbase hl hge hcm (by rw [size_zeroCells, hzs])
     simpa using this
   · injection hv with e1 e2 e3
     subst e1
     subst e3
     have hrun := run_append_grow (P := P) w t ty e i z ht hi hz ⟨g, 0, none⟩ 0 0 [] (by simp) (fun j u hu => by simp at hu) ⟨b, off, none⟩ m c2 news hl hnews (by omega) (by omega) (growslice_fits (by omega) (by rw [Nat.zero_add]; exact hbytes))
     have hge := grownCap_ge w (0 + m) 0 e
     have hcm := grownCap_le_maxLen w (0 + m) 0 e (by omega)
     have hbel : Below w.heap.size w (w.drew.alloc (.cells (([] : List Value).toArray ++ news.toArray ++ Builtin.zeroCells z.cells (grownCap w (0 + m) 0 e - (0 + m))) e)) := (Below.refl _ _).drew.alloc (Nat.le_refl _) _
     rw [Nat.zero_add] at hrun hge hcm hbel
     refine ⟨_, _, _, hrun, ?_, hbel⟩
     have := own_front (w := w) (base := base) (e := e) (rest := Builtin.zeroCells z.cells (grownCap w m 0 e - m)) hbase hl hge hcm (by rw [size_zeroCells, hzs])
     simpa using this
theorem wpList_app0 {P : Program} {w : World} {ops : Array Oper} {rest : List Oper} {o : Oper} {a : Go.Act} {Q : Exit → Go.Act → World → Prop} (hgd : o.guard = none) (s x : Operand) (t : TypeId)
   (ho : o.op = .call { callee := .builtin .append, args := #[s, x], argTypes := #[t, t] })
   {e : TypeId} {size bytes base m c2 : Nat} {A A2 : Option Addr} {news : List Value} (hel : El P t e size bytes) (hs : a.eval s = .slice A 0 0)
   (hown : w.ownsRow base e size (.slice A 0 0) 0 []) (hx : a.eval x = .slice A2 m c2) (hr : Rd w A2 news) (hl : news.length = m * size) (h1 : ∀ u ∈ news, u.oneCell' = true)
   (h63 : m ≤ maxLen) (hbytes : m * bytes ≤ 140737488355328) (hbase : base ≤ w.heap.size)
   (h : ∀ A' c' w', w'.ownsRow base e size (.slice A' m c') m news → Below w.heap.size w w' → wpList P ops Q rest (a.put o.dst (.slice A' m c')) w') : wpList P ops Q (o :: rest) a w :=
 wpList_plain hgd fun _ hK => by
   obtain ⟨A', c', w', hrun, h2, h3⟩ := run_app0 (P := P) (ty := o.type) (c2 := c2) hel hown hr hl h1 h63 hbytes hbase
   unfold Oper.wp execOp
   simp only [ho, resolve, invoke, builtin, Sem.run_bind, Sem.run_pure, Result.andThen_ok, List.map_toArray, List.map_cons, List.map_nil, hs, hx, hrun]
   exact hK _ _ (h A' c' w' h2 h3)
/-- rows of two kinds lie apart -/
theorem own_ne {w : World} {b1 b2 : Nat} {e1 e2 : TypeId} {s1 s2 n1 n2 c1 c2 : Nat} {A1 A2 : Option Addr} {xs ys : List Value} (h1 : w.ownsRow b1 e1 s1 (.slice A1 n1 c1) n1 xs) (h2 : w.ownsRow b2 e2 s2 (.slice A2 n2 c2) n2 ys) (he : e1 ≠ e2) : ∀ q, A1 = some ⟨q, 0, none⟩ → A2 ≠ some ⟨q, 0, none⟩ := by
 intro q hq1 hq2
 rcases h1.2 with ⟨hv, _⟩ | ⟨g, cap, cur, hv, _, hh, _⟩
 · injection hv with hv; rw [hq1] at hv; cases hv
 rcases h2.2 with ⟨hv2, _⟩ | ⟨g2, cap2, cur2, hv2, _, hh2, _⟩
 · injection hv2 with hv2; rw [hq2] at hv2; cases hv2
 injection hv with hv
 injection hv2 with hv2
 rw [hq1] at hv
 rw [hq2] at hv2
 injection hv with hv
 injection hv2 with hv2
 injection hv with hv
 injection hv2 with hv2
 subst hv
 subst hv2
 rw [hh] at hh2
 injection hh2 with hh2
 injection hh2 with _ h3 _
 exact he h3
end Go.Proofs.YtihlhejencninaaGreat
