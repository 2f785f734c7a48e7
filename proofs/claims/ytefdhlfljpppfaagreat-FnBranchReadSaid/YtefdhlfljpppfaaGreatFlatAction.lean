/- Action: slices of a struct of 4 integers in memory; the laws' helpers over them. -/
import Derived.Test.YtefdhlfljpppfaaGreatIntS
import Derived.StillTailTactics
namespace Go.Proofs.YtefdhlfljpppfaaGreat
open Go.RowKit
set_option linter.unusedVariables false
set_option linter.unusedSimpArgs false

structure Act where
  kind : Int
  src : Int
  dst : Int
  amt : Int
deriving DecidableEq
def encA (e : Act) : List Value := [.int .i64 e.kind, .int .i64 e.src, .int .i64 e.dst, .int .i64 e.amt]
theorem encA_len (e : Act) : (encA e).length = 4 := rfl
theorem Rd.act {w : World} {A : Option Addr} {es : List Act} (h : Rd w A (es.flatMap encA)) {k : Nat} (hk : k < es.length) :
    ∃ b off, A = some ⟨b, off, none⟩ ∧ b < w.heap.size ∧ w.cell? ⟨b, off + k * 4, none⟩ = some (.int .i64 es[k].kind) ∧ w.cell? ⟨b, off + k * 4 + 1, none⟩ = some (.int .i64 es[k].src) ∧ w.cell? ⟨b, off + k * 4 + 2, none⟩ = some (.int .i64 es[k].dst) ∧ w.cell? ⟨b, off + k * 4 + 3, none⟩ = some (.int .i64 es[k].amt) := by
  obtain ⟨b, off, e, hb, hc⟩ := h.flat encA 4 (fun _ => rfl) (by omega) hk
  exact ⟨b, off, e, hb, hc 0 _ rfl, hc 1 _ rfl, hc 2 _ rfl, hc 3 _ rfl⟩
theorem own_act {w : World} {base : Nat} {e : TypeId} {g c n : Nat} {es : List Act} (h : w.ownsRow base e 4 (.slice (some ⟨g, 0, none⟩) n c) n (es.flatMap encA)) {k : Nat} (hk : k < es.length) :
    (∃ u, w.cell? ⟨g, k * 4, none⟩ = some u) ∧ (∃ u, w.cell? ⟨g, k * 4 + 1, none⟩ = some u) ∧ (∃ u, w.cell? ⟨g, k * 4 + 2, none⟩ = some u) ∧ (∃ u, w.cell? ⟨g, k * 4 + 3, none⟩ = some u) := by
  have hl : (es.flatMap encA).length = es.length * 4 := length_flat encA 4 encA_len es
  exact ⟨⟨_, own_cell h (k * 4) (by omega)⟩, ⟨_, own_cell h (k * 4 + 1) (by omega)⟩, ⟨_, own_cell h (k * 4 + 2) (by omega)⟩, ⟨_, own_cell h (k * 4 + 3) (by omega)⟩⟩
theorem own_act_set {w : World} {base : Nat} {e : TypeId} {g c n : Nat} {es : List Act} (h : w.ownsRow base e 4 (.slice (some ⟨g, 0, none⟩) n c) n (es.flatMap encA)) {k : Nat} (hk : k < es.length) (x : Act) :
    ((((w.setCell ⟨g, k * 4, none⟩ (.int .i64 x.kind)).setCell ⟨g, k * 4 + 1, none⟩ (.int .i64 x.src)).setCell ⟨g, k * 4 + 2, none⟩ (.int .i64 x.dst)).setCell ⟨g, k * 4 + 3, none⟩ (.int .i64 x.amt)).ownsRow base e 4 (.slice (some ⟨g, 0, none⟩) n c) n ((es.set k x).flatMap encA) := by
  have := (own_set (own_set (own_set (own_set h (k * 4) (.int .i64 x.kind)) (k * 4 + 1) (.int .i64 x.src)) (k * 4 + 2) (.int .i64 x.dst)) (k * 4 + 3) (.int .i64 x.amt))
  rw [← setAt_flat encA 4 encA_len es k hk x]
  exact this

theorem info_act : (Tryz.prog.info? 101).map (fun i => (i.zero, i.size, i.bytes)) = some (some (.agg #[.int .i64 0, .int .i64 0, .int .i64 0, .int .i64 0]), 4, 32) := by kernel_rfl
theorem zeroes_act (n : Nat) : madeCells #[Value.int .i64 0, Value.int .i64 0, Value.int .i64 0, Value.int .i64 0] (n * 4) = ((List.replicate n (⟨0, 0, 0, 0⟩ : Act)).flatMap encA).toArray := by
  apply Array.ext
  · rw [size_madeCells, List.size_toArray, length_flat encA 4 encA_len, List.length_replicate]
  · intro i h1 h2
    have hi : i < n * 4 := by rw [size_madeCells] at h1; exact h1
    have hq : i / 4 < (List.replicate n (⟨0, 0, 0, 0⟩ : Act)).length := by rw [List.length_replicate]; omega
    have hg := get_flat encA 4 encA_len (List.replicate n (⟨0, 0, 0, 0⟩ : Act)) (i / 4) hq (i % 4) (by omega)
    rw [show i / 4 * 4 + i % 4 = i by omega] at hg
    have hr : ∀ r, r < 4 → (encA (⟨0, 0, 0, 0⟩ : Act))[r]? = some (Value.int .i64 0) := by
      intro r hr
      match r, hr with
      | 0, _ => rfl
      | 1, _ => rfl
      | 2, _ => rfl
      | 3, _ => rfl
    rw [List.getElem_replicate, hr _ (by omega)] at hg
    have h3 := (List.getElem?_eq_some_iff.1 hg).2
    refine Eq.trans ?_ ((List.getElem_toArray h2).trans h3).symm
    simp only [madeCells, Array.getElem_map, Array.getElem_range]
    have h4 : ∀ r, r < 4 → (#[Value.int .i64 0, Value.int .i64 0, Value.int .i64 0, Value.int .i64 0] : Array Value)[r]! = Value.int .i64 0 := by
      intro r hr
      match r, hr with
      | 0, _ => rfl
      | 1, _ => rfl
      | 2, _ => rfl
      | 3, _ => rfl
    exact h4 _ (Nat.mod_lt _ (by simp))
theorem make_act (n : Nat) (hn : n ≤ 1048576) (w : World) : (Instr.makeSlice 48 (.int .i64 (n : Int)) (.int .i64 (n : Int))).run Tryz.prog w = .ok (.slice (some ⟨w.heap.size, 0, none⟩) n n) (w.alloc (.cells ((List.replicate n (⟨0, 0, 0, 0⟩ : Act)).flatMap encA).toArray 101)) := by
  obtain ⟨i0, hi0, hz0, hz1, hz2⟩ := info_parts info_act
  rw [run_make_rowN 48 101 i0 _ Tryz.underlying48 hi0 hz0 _ _ n n (Nat.le_refl _) (by rw [hz2]; omega) (by omega), hz1]
  simp only [Value.cells]
  rw [zeroes_act]

def markAct (k : Int) (n : Nat) : List Act := (List.range n).map fun i : Nat => ⟨k + (i : Int) * 4, k + (i : Int) * 4 + 1, k + (i : Int) * 4 + 2, k + (i : Int) * 4 + 3⟩
theorem markAct_succ (k : Int) (n : Nat) : markAct k (n + 1) = markAct k n ++ [⟨k + (n : Int) * 4, k + (n : Int) * 4 + 1, k + (n : Int) * 4 + 2, k + (n : Int) * 4 + 3⟩] := by simp [markAct, List.range_succ]
theorem markAct_length (k : Int) (n : Nat) : (markAct k n).length = n := by simp [markAct]
theorem markAct_get (k : Int) (n i : Nat) (h : i < (markAct k n).length) : (markAct k n)[i] = ⟨k + (i : Int) * 4, k + (i : Int) * 4 + 1, k + (i : Int) * 4 + 2, k + (i : Int) * 4 + 3⟩ := by simp [markAct]
end Go.Proofs.YtefdhlfljpppfaaGreat
