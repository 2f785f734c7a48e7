/- Differences: ValueAt, ChangedKeys, DiffStores, ApplyDiff of the program; ApplyDiff of the reference. -/
import Derived.Test.YtefdhlfljpppfaaArr
import Derived.Test.YtefdhlfljpppfaaStoreS
import Derived.Test.YtefdhlfljpppfaaLoc
namespace Go.Proofs.Ytefdhlfljpppfaa
open Go.RowKit
set_option linter.unusedVariables false
set_option linter.unusedSimpArgs false
attribute [local go_sem ↓] Go.wp_at_zero Go.wp_at_succ

theorem store_keys {s : List Ent} (h : storeB s = true) : ∀ e ∈ s, 0 ≤ e.k ∧ e.k ≤ 31 := fun e he => by
  have := evOk_all (show evOk 1 (-1) s = true from h) e he
  omega
theorem diff_keys {s : List Ent} (h : diffB s = true) : ∀ e ∈ s, 0 ≤ e.k ∧ e.k ≤ 31 := fun e he => by
  have := evOk_all (show evOk 0 (-1) s = true from h) e he
  omega
theorem store_get {s : List Ent} (h : storeB s = true) (k : Nat) (hk : k < 32) : (valsL s).getD k 0 = atL s (k : Int) := vals_get (show evOk 1 (-1) s = true from h) (by omega) k hk
def zA : Array Value := #[.int .i64 0, .int .i64 0, .int .i64 0, .int .i64 0, .int .i64 0, .int .i64 0, .int .i64 0, .int .i64 0, .int .i64 0, .int .i64 0, .int .i64 0, .int .i64 0, .int .i64 0, .int .i64 0, .int .i64 0, .int .i64 0, .int .i64 0, .int .i64 0, .int .i64 0, .int .i64 0, .int .i64 0, .int .i64 0, .int .i64 0, .int .i64 0, .int .i64 0, .int .i64 0, .int .i64 0, .int .i64 0, .int .i64 0, .int .i64 0, .int .i64 0, .int .i64 0]
/-- a world by what is known of it -/
theorem at_world {C F : World → Prop} {w : World} (hf : F w) (h : ∀ w, F w → C w) : C w := h w hf
/-- one variable of values that is laid and stored into -/
theorem one_vals (w : World) (t : TypeId) (v : List Int) : Blk (w.alloc (.cells zA t)) w.heap.size t zA ∧ Blk ((w.alloc (.cells zA t)).setRow w.heap.size (vA v)) w.heap.size t (vA v) ∧ Below w.heap.size w ((w.alloc (.cells zA t)).setRow w.heap.size (vA v)) := by
  have h1 : Blk (w.alloc (.cells zA t)) w.heap.size t zA := Blk.new _ _ _
  have b1 : Below w.heap.size w (w.alloc (.cells zA t)) := (Below.refl _ _).alloc (Nat.le_refl _) _
  exact ⟨h1, blk_setRow h1, ⟨b1.os, b1.tape, b1.output, by rw [size_setRow]; exact b1.size, fun q hq => (setRow_other _ w.heap.size q _ (by omega)).trans (b1.block q hq)⟩⟩
theorem two_vals (w : World) (t : TypeId) (v u : List Int) : Blk ((w.alloc (.cells zA t)).alloc (.cells zA t)) w.heap.size t zA ∧ Blk (((w.alloc (.cells zA t)).alloc (.cells zA t)).setRow w.heap.size (vA v)) (w.heap.size + 1) t zA ∧
    Blk ((((w.alloc (.cells zA t)).alloc (.cells zA t)).setRow w.heap.size (vA v)).setRow (w.heap.size + 1) (vA u)) w.heap.size t (vA v) ∧ Blk ((((w.alloc (.cells zA t)).alloc (.cells zA t)).setRow w.heap.size (vA v)).setRow (w.heap.size + 1) (vA u)) (w.heap.size + 1) t (vA u) ∧
    Below w.heap.size w ((((w.alloc (.cells zA t)).alloc (.cells zA t)).setRow w.heap.size (vA v)).setRow (w.heap.size + 1) (vA u)) := by
  have h0 : Blk ((w.alloc (.cells zA t)).alloc (.cells zA t)) w.heap.size t zA := (Blk.new _ _ _).alloc _
  have h1 : Blk ((w.alloc (.cells zA t)).alloc (.cells zA t)) (w.heap.size + 1) t zA := by
    have := Blk.new (w.alloc (.cells zA t)) t zA
    simpa using this
  have h2 : Blk (((w.alloc (.cells zA t)).alloc (.cells zA t)).setRow w.heap.size (vA v)) (w.heap.size + 1) t zA := (setRow_other _ w.heap.size _ _ (by omega)).trans h1
  have b1 : Below w.heap.size w ((w.alloc (.cells zA t)).alloc (.cells zA t)) := ((Below.refl _ _).alloc (Nat.le_refl _) _).alloc (by simp) _
  exact ⟨h0, h2, (setRow_other _ (w.heap.size + 1) _ _ (by omega)).trans (blk_setRow h0), blk_setRow h2, ⟨b1.os, b1.tape, b1.output, by rw [size_setRow, size_setRow]; exact b1.size, fun q hq => ((setRow_other _ (w.heap.size + 1) q _ (by omega)).trans (setRow_other _ w.heap.size q _ (by omega))).trans (b1.block q hq)⟩⟩
def valAt (s : List Ent) (key : Int) : Int := if storeB s = true ∧ inB key 0 31 = true then atL s key else -1
end Go.Proofs.Ytefdhlfljpppfaa
