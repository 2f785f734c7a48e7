/- What the operations of a region that draws from a reader are good for. -/
import Derived.Test.YtiaodcjocogkkaaLoc
import Derived.Test.YtiaodcjocogkkaaRdr
namespace Go.Proofs.Ytiaodcjocogkkaa
open Go.RowKit
set_option linter.unusedVariables false
set_option linter.unusedSimpArgs false

/-- kept while the block g alone changes -/
def StG (g : Nat) (f : Value → World → Prop) : Prop := ∀ v a b, Chg (fun k => k = g) a b → f v a → f v b
def kV (u : Value) (v : Value) (_ : World) : Prop := v = u
def kInt (lo hi : Int) (v : Value) (_ : World) : Prop := ∃ z : Int, v = .int .i64 z ∧ lo ≤ z ∧ z ≤ hi
def kRow (g : Nat) (t : TypeId) (n : Nat) (lo hi : Int) (v : Value) (w : World) : Prop :=
  ∃ (q : Nat) (zs : List Int), v = .slice (some ⟨q, 0, none⟩) n n ∧ q ≠ g ∧ zs.length = n ∧ Blk w q t (zs.map (Value.int .i64)).toArray ∧ ∀ i (h : i < zs.length), lo ≤ zs[i] ∧ zs[i] ≤ hi
def kPtr (g : Nat) (lo hi : Int) (v : Value) (w : World) : Prop :=
  ∃ (q i : Nat) (z : Int), v = .pointer (some ⟨q, i, none⟩) ∧ q ≠ g ∧ q < w.heap.size ∧ w.cell? ⟨q, i, none⟩ = some (.int .i64 z) ∧ lo ≤ z ∧ z ≤ hi
theorem st_V {g : Nat} (u : Value) : StG g (kV u) := fun _ _ _ _ h => h
theorem st_Int {g : Nat} (lo hi : Int) : StG g (kInt lo hi) := fun _ _ _ _ h => h
theorem st_Row {g : Nat} (t : TypeId) (n : Nat) (lo hi : Int) : StG g (kRow g t n lo hi) := fun _ _ _ hc ⟨q, zs, h1, h2, h3, h4, h5⟩ => ⟨q, zs, h1, h2, h3, h4.chg hc h2, h5⟩
theorem st_Ptr {g : Nat} (lo hi : Int) : StG g (kPtr g lo hi) := fun _ _ _ hc ⟨q, i, z, h1, h2, h3, h4, h5⟩ => ⟨q, i, z, h1, h2, Nat.lt_of_lt_of_le h3 hc.size, hc.cell (p := ⟨q, i, none⟩) h4 h2, h5⟩
theorem st_True {g : Nat} : StG g (fun _ _ => True) := fun _ _ _ _ h => h
def StL (g : Nat) : List (Value → World → Prop) → Prop
  | [] => True
  | f :: l => StG g f ∧ StL g l
theorem stl_nil {g : Nat} : StL g [] := trivial
theorem stl_cons {g : Nat} {f : Value → World → Prop} {l : List (Value → World → Prop)} (h : StG g f) (t : StL g l) : StL g (f :: l) := ⟨h, t⟩
theorem stl_get {g : Nat} : ∀ {l : List (Value → World → Prop)}, StL g l → ∀ i, StG g (l.getD i fun _ _ => True)
  | [], _, i => fun _ _ _ _ _ => trivial
  | f :: l, h, 0 => h.1
  | f :: l, h, i + 1 => by simpa using stl_get h.2 i
/-- the operations' facts, from a list -/
def locF (fs : List (Value → World → Prop)) (i : Nat) (v : Value) (w : World) : Prop := (fs.getD i fun _ _ => True) v w
theorem locF_st {g : Nat} {fs : List (Value → World → Prop)} (h : StL g fs) (i : Nat) (v : Value) (a b : World) (n : Nat) (_ : i < n) (hf : locF fs i v a) (hc : Chg (fun k => k = g) a b) : locF fs i v b := stl_get h i v a b hc hf
/-- a row of numbers that is laid now -/
theorem kRow_new {g : Nat} {w0 w : World} (zs : List Int) (t : TypeId) (lo hi : Int) (hg : g < w0.heap.size) (hE : Chg (fun k => k = g) w0.drew w) (hb : ∀ i (h : i < zs.length), lo ≤ zs[i] ∧ zs[i] ≤ hi) :
    kRow g t zs.length lo hi (.slice (some ⟨w.heap.size, 0, none⟩) zs.length zs.length) (w.alloc (.cells (zs.map (Value.int .i64)).toArray t)) :=
  ⟨w.heap.size, zs, rfl, by have h1 := hE.size; have h2 : w0.heap.size = w0.drew.heap.size := rfl; omega, rfl, Blk.new _ _ _, hb⟩
/-- an address in such a row -/
theorem kRow_cell {g : Nat} {t : TypeId} {n : Nat} {lo hi : Int} {w : World} {q : Nat} {zs : List Int} (h3 : zs.length = n) (h4 : Blk w q t (zs.map (Value.int .i64)).toArray) (h5 : ∀ i (h : i < zs.length), lo ≤ zs[i] ∧ zs[i] ≤ hi) {x : Int} (h0 : 0 ≤ x) (hx : x < n) :
    ∃ (i : Nat) (z : Int), x = i ∧ i < n ∧ q < w.heap.size ∧ w.cell? ⟨q, i, none⟩ = some (.int .i64 z) ∧ lo ≤ z ∧ z ≤ hi := by
  obtain ⟨i, rfl⟩ := Int.eq_ofNat_of_zero_le h0
  have hi : i < zs.length := by omega
  exact ⟨i, zs[i], rfl, by omega, h4.lt, by rw [h4.cell]; simp [hi], h5 i hi⟩
theorem rdrR_alloc {g N0 m : Nat} {w : World} (h : rdrR g N0 m w) (o : Obj) : rdrR g N0 m (w.alloc o) := by
  obtain ⟨N, h1, h2⟩ := h
  exact ⟨N, h1, h2.alloc o⟩
end Go.Proofs.Ytiaodcjocogkkaa
