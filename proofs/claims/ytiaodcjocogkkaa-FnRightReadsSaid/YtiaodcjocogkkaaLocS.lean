/- Regions that draw and hold an append beside moves: facts that are kept under a growth E. -/
import Derived.Test.YtiaodcjocogkkaaLocR
import Derived.Test.YtiaodcjocogkkaaPut
namespace Go.Proofs.Ytiaodcjocogkkaa
open Go.RowKit
set_option linter.unusedVariables false
set_option linter.unusedSimpArgs false

def StX (E : World → World → Prop) (f : Value → World → Prop) : Prop := ∀ v a b, E a b → f v a → f v b
def StXL (E : World → World → Prop) : List (Value → World → Prop) → Prop
  | [] => True
  | f :: l => StX E f ∧ StXL E l
theorem stxl_nil {E : World → World → Prop} : StXL E [] := trivial
theorem stxl_cons {E : World → World → Prop} {f : Value → World → Prop} {l : List (Value → World → Prop)} (h : StX E f) (t : StXL E l) : StXL E (f :: l) := ⟨h, t⟩
theorem stxl_get {E : World → World → Prop} : ∀ {l : List (Value → World → Prop)}, StXL E l → ∀ i, StX E (l.getD i fun _ _ => True)
  | [], _, i => fun _ _ _ _ _ => trivial
  | f :: l, h, 0 => h.1
  | f :: l, h, i + 1 => by simpa using stxl_get h.2 i
theorem locF_stx {E : World → World → Prop} {fs : List (Value → World → Prop)} (h : StXL E fs) (i : Nat) (v : Value) (a b : World) (n : Nat) (_ : i < n) (hf : locF fs i v a) (hc : E a b) : locF fs i v b := stxl_get h i v a b hc hf
theorem sx_V {E : World → World → Prop} (u : Value) : StX E (kV u) := fun _ _ _ _ h => h
theorem sx_Int {E : World → World → Prop} (lo hi : Int) : StX E (kInt lo hi) := fun _ _ _ _ h => h
def sRow (S : Nat → Prop) (t : TypeId) (n : Nat) (lo hi : Int) (v : Value) (w : World) : Prop :=
  ∃ (q : Nat) (zs : List Int), v = .slice (some ⟨q, 0, none⟩) n n ∧ ¬ S q ∧ zs.length = n ∧ Blk w q t (zs.map (Value.int .i64)).toArray ∧ ∀ i (h : i < zs.length), lo ≤ zs[i] ∧ zs[i] ≤ hi
def sPtr (S : Nat → Prop) (lo hi : Int) (v : Value) (w : World) : Prop :=
  ∃ (q i : Nat) (z : Int), v = .pointer (some ⟨q, i, none⟩) ∧ ¬ S q ∧ q < w.heap.size ∧ w.cell? ⟨q, i, none⟩ = some (.int .i64 z) ∧ lo ≤ z ∧ z ≤ hi
theorem sx_Row {S : Nat → Prop} {E : World → World → Prop} (hE : ∀ a b, E a b → Chg S a b) (t : TypeId) (n : Nat) (lo hi : Int) : StX E (sRow S t n lo hi) := fun _ a b hc ⟨q, zs, h1, h2, h3, h4, h5⟩ => ⟨q, zs, h1, h2, h3, h4.chg (hE a b hc) h2, h5⟩
theorem sx_Ptr {S : Nat → Prop} {E : World → World → Prop} (hE : ∀ a b, E a b → Chg S a b) (lo hi : Int) : StX E (sPtr S lo hi) := fun _ a b hc ⟨q, i, z, h1, h2, h3, h4, h5⟩ => ⟨q, i, z, h1, h2, Nat.lt_of_lt_of_le h3 (hE a b hc).size, (hE a b hc).cell (p := ⟨q, i, none⟩) h4 h2, h5⟩
theorem sRow_new {S : Nat → Prop} {w : World} (zs : List Int) (t : TypeId) (lo hi : Int) (hS : ¬ S w.heap.size) (hb : ∀ i (h : i < zs.length), lo ≤ zs[i] ∧ zs[i] ≤ hi) :
    sRow S t zs.length lo hi (.slice (some ⟨w.heap.size, 0, none⟩) zs.length zs.length) (w.alloc (.cells (zs.map (Value.int .i64)).toArray t)) :=
  ⟨w.heap.size, zs, rfl, hS, rfl, Blk.new _ _ _, hb⟩
/-- a row of entries with one more is there, in the old row's block or in a new one -/
def GotE (A2 : Option Addr) (n M : Nat) (w : World) (A8 : Option Addr) : Prop := ∃ (q : Nat) (ys : List Ent), A8 = some ⟨q, 0, none⟩ ∧ (A2 = some ⟨q, 0, none⟩ ∨ M ≤ q) ∧ q < w.heap.size ∧ ys.length = n + 1 ∧ Rd w A8 (ys.flatMap encE)
def AppS (g : Nat) (A2 : Option Addr) (k : Nat) : Prop := k = g ∨ A2 = some ⟨k, 0, none⟩
def AppE (g : Nat) (A2 : Option Addr) (n M : Nat) (a b : World) : Prop := Chg (AppS g A2) a b ∧ ∀ A8, GotE A2 n M a A8 → GotE A2 n M b A8
def sGot (A2 : Option Addr) (n M : Nat) (v : Value) (w : World) : Prop := ∃ A8 c8, v = .slice A8 (n + 1) c8 ∧ (n + 1 ≤ c8 ∧ c8 ≤ maxLen) ∧ GotE A2 n M w A8
theorem rd_chgq {S : Nat → Prop} {w w' : World} {q : Nat} {xs : List Value} (h : Rd w (some ⟨q, 0, none⟩) xs) (hc : Chg S w w') (hq : ¬ S q) : Rd w' (some ⟨q, 0, none⟩) xs := fun h0 => by
  obtain ⟨b, off, e, hb, h2⟩ := h h0
  injection e with e
  injection e with e1 e2
  subst e1
  subst e2
  exact ⟨q, 0, rfl, Nat.lt_of_lt_of_le hb hc.size, fun j u hu => (World.cell?_of_block (hc.block q hb hq)).trans (h2 j u hu)⟩
section
variable {g n M : Nat} {A2 : Option Addr} {a b c : World}
theorem appE_refl (g : Nat) (A2 : Option Addr) (n M : Nat) (a : World) : AppE g A2 n M a a := ⟨Chg.refl _ _, fun _ h => h⟩
theorem appE_trans (h : AppE g A2 n M a b) (k : AppE g A2 n M b c) : AppE g A2 n M a c := ⟨h.1.trans k.1, fun _ hg => k.2 _ (h.2 _ hg)⟩
theorem appE_chg (h : Chg (fun k => k = g) a b) (hg : g < M) (hA : A2 ≠ some ⟨g, 0, none⟩) : AppE g A2 n M a b := by
  refine ⟨h.mono fun k _ e => .inl e, fun A8 ⟨q, ys, h1, h2, h3, h4, h5⟩ => ?_⟩
  subst h1
  refine ⟨q, ys, rfl, h2, Nat.lt_of_lt_of_le h3 h.size, h4, rd_chgq h5 h fun e => ?_⟩
  subst e
  rcases h2 with h2 | h2
  · exact hA h2
  · omega
theorem appE_app {c8 : Nat} {A8 : Option Addr} {zs : List Ent} {t : TypeId} (ch : Chg (fun k => A2 = some ⟨k, 0, none⟩) a b) (o8 : b.ownsRow 0 t 2 (.slice A8 (n + 1) c8) (n + 1) (zs.flatMap encE)) (hz : zs.length = n + 1) (d8 : A8 = A2 ∨ (A8 = some ⟨a.heap.size, 0, none⟩ ∧ Below a.heap.size a b)) (hM : M ≤ a.heap.size) : AppE g A2 n M a b ∧ GotE A2 n M b A8 := by
  obtain ⟨q8, rfl, _, hq8⟩ := own_addr o8 (by omega)
  refine ⟨⟨ch.mono fun k _ e => .inr e, fun A9 ⟨q, ys, h1, h2, h3, h4, h5⟩ => ?_⟩, q8, zs, rfl, ?_, hq8, hz, own_rd o8⟩
  · subst h1
    by_cases hA : A2 = some ⟨q, 0, none⟩
    · rcases d8 with d8 | ⟨_, d8⟩
      · rw [hA] at d8
        injection d8 with d8
        injection d8 with d8
        subst d8
        exact ⟨q8, zs, rfl, .inl hA, hq8, hz, own_rd o8⟩
      · exact ⟨q, ys, rfl, h2, Nat.lt_of_lt_of_le h3 d8.size, h4, h5.new d8⟩
    · exact ⟨q, ys, rfl, h2, Nat.lt_of_lt_of_le h3 ch.size, h4, rd_chgq h5 ch hA⟩
  · rcases d8 with d8 | ⟨d8, _⟩
    · exact .inl d8.symm
    · injection d8 with d8
      injection d8 with d8
      exact .inr (by omega)
theorem sx_Got : StX (AppE g A2 n M) (sGot A2 n M) := fun _ _ _ hc ⟨A8, c8, h1, h2, h3⟩ => ⟨A8, c8, h1, h2, hc.2 _ h3⟩
end
/-- the reader, and what is held until the append -/
def rdrO (g K : Nat) (H : World → Prop) (m : Nat) (w : World) : Prop := rdrR g K m w ∧ m ≤ 101 ∧ (100 ≤ m → H w)
def sEnt (S : Nat → Prop) (v : Value) (w : World) : Prop := ∃ (q : Nat) (x y : Int), v = .slice (some ⟨q, 0, none⟩) 1 1 ∧ ¬ S q ∧ Blk w q 80 #[.int .i64 x, .int .i64 y]
theorem sx_Ent {S : Nat → Prop} {E : World → World → Prop} (hE : ∀ a b, E a b → Chg S a b) : StX E (sEnt S) := fun _ a b hc ⟨q, x, y, h1, h2, h3⟩ => ⟨q, x, y, h1, h2, h3.chg (hE a b hc) h2⟩
end Go.Proofs.Ytiaodcjocogkkaa
