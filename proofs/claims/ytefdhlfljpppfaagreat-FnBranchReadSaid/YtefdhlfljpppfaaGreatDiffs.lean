/- Differences: ValueAt, ChangedKeys, DiffStores, ApplyDiff of the program; ApplyDiff of the reference. -/
import Derived.Test.YtefdhlfljpppfaaGreatArr
import Derived.Test.YtefdhlfljpppfaaGreatStoreS
import Derived.Test.YtefdhlfljpppfaaGreatLoc
namespace Go.Proofs.YtefdhlfljpppfaaGreat
open Go.RowKit
set_option linter.unusedVariables false
set_option linter.unusedSimpArgs false
attribute [local go_sem ↓] Go.wp_at_zero Go.wp_at_succ

theorem store_keys {s : List Ent} (h : storeB s = true) : ∀ e ∈ s, 0 ≤ e.k ∧ e.k ≤ 31 := fun e he => by
  have := evOk_all (show evOk 1 (-1) s = true from h) e he
  omega
theorem diff_keys {s : List Ent} (h : diffB s = true) : ∀ e ∈ s, 0 ≤ e.k ∧ e.k ≤ 31 := fun e he => by
  have := evOk_all (show evOk 0 (-1) s = true from h) e he
  omega
theorem store_get {s : List Ent} (h : storeB s = true) (k : Nat) (hk : k < 32) : (valsL s).getD k 0 = atL s (k : Int) := vals_get (show evOk 1 (-1) s = true from h) (by omega) k hk
def zA : Array Value := #[.int .i64 0, .int .i64 0, .int .i64 0, .int .i64 0, .int .i64 0, .int .i64 0, .int .i64 0, .int .i64 0, .int .i64 0, .int .i64 0, .int .i64 0, .int .i64 0, .int .i64 0, .int .i64 0, .int .i64 0, .int .i64 0, .int .i64 0, .int .i64 0, .int .i64 0, .int .i64 0, .int .i64 0, .int .i64 0, .int .i64 0, .int .i64 0, .int .i64 0, .int .i64 0, .int .i64 0, .int .i64 0, .int .i64 0, .int .i64 0, .int .i64 0, .int .i64 0]
/-- a world by what is known of it -/
theorem at_world {C F : World → Prop} {w : World} (hf : F w) (h : ∀ w, F w → C w) : C w := h w hf
/-- one variable of values that is laid and stored into -/
theorem one_vals (w : World) (t : TypeId) (v : List Int) : Blk (w.alloc (.cells zA t)) w.heap.size t zA ∧ Blk ((w.alloc (.cells zA t)).setRow w.heap.size (vA v)) w.heap.size t (vA v) ∧ Below w.heap.size w ((w.alloc (.cells zA t)).setRow w.heap.size (vA v)) := by
  have h1 : Blk (w.alloc (.cells zA t)) w.heap.size t zA := Blk.new _ _ _
  have b1 : Below w.heap.size w (w.alloc (.cells zA t)) := (Below.refl _ _).alloc (Nat.le_refl _) _
  exact ⟨h1, blk_setRow h1, ⟨b1.os, b1.tape, b1.output, by rw [size_setRow]; exact b1.size, fun q hq => (setRow_other _ w.heap.size q _ (by omega)).trans (b1.block q hq)⟩⟩
theorem two_vals (w : World) (t : TypeId) (v u : List Int) : Blk ((w.alloc (.cells zA t)).alloc (.cells zA t)) w.heap.size t zA ∧ Blk (((w.alloc (.cells zA t)).alloc (.cells zA t)).setRow w.heap.size (vA v)) (w.heap.size + 1) t zA ∧
    Blk ((((w.alloc (.cells zA t)).alloc (.cells zA t)).setRow w.heap.size (vA v)).setRow (w.heap.size + 1) (vA u)) w.heap.size t (vA v) ∧ Blk ((((w.alloc (.cells zA t)).alloc (.cells zA t)).setRow w.heap.size (vA v)).setRow (w.heap.size + 1) (vA u)) (w.heap.size + 1) t (vA u) ∧
    Below w.heap.size w ((((w.alloc (.cells zA t)).alloc (.cells zA t)).setRow w.heap.size (vA v)).setRow (w.heap.size + 1) (vA u)) := by
  have h0 : Blk ((w.alloc (.cells zA t)).alloc (.cells zA t)) w.heap.size t zA := (Blk.new _ _ _).alloc _
  have h1 : Blk ((w.alloc (.cells zA t)).alloc (.cells zA t)) (w.heap.size + 1) t zA := by
    have := Blk.new (w.alloc (.cells zA t)) t zA
    simpa using this
  have h2 : Blk (((w.alloc (.cells zA t)).alloc (.cells zA t)).setRow w.heap.size (vA v)) (w.heap.size + 1) t zA := (setRow_other _ w.heap.size _ _ (by omega)).trans h1
  have b1 : Below w.heap.size w ((w.alloc (.cells zA t)).alloc (.cells zA t)) := ((Below.refl _ _).alloc (Nat.le_refl _) _).alloc (by simp) _
  exact ⟨h0, h2, (setRow_other _ (w.heap.size + 1) _ _ (by omega)).trans (blk_setRow h0), blk_setRow h2, ⟨b1.os, b1.tape, b1.output, by rw [size_setRow, size_setRow]; exact b1.size, fun q hq => ((setRow_other _ (w.heap.size + 1) q _ (by omega)).trans (setRow_other _ w.heap.size q _ (by omega))).trans (b1.block q hq)⟩⟩
def valAt (s : List Ent) (key : Int) : Int := if storeB s = true ∧ inB key 0 31 = true then atL s key else -1
theorem valueAt_impl (A : Option Addr) (c : Nat) (s : List Ent) (key : Int) (w : World) (h : Rd w A (s.flatMap encE)) (hb : s.length ≤ 4611686018427387904) :
    Calls Tryz.prog 20 #[.slice A s.length c, .int .i64 key] w fun e w' => e = .returned (.int .i64 (valAt s key)) ∧ Below w.heap.size w w' := by
  cases hs : storeB s
  · have HV := hide (show valAt s key = -1 by simp [valAt, hs])
    go_enter Tryz.func20, Tryz.ntmps20
    go_wp2_with fail
    refine (storeB_impl A c s w h hb).mono ?_
    rintro e w1 ⟨rfl, b1⟩
    rw [hs]
    go_wp2
    go_ret
    exact ⟨reti (unhide HV).symm, b1⟩
  · cases hk : inB key 0 31
    · have HV := hide (show valAt s key = -1 by simp [valAt, hk])
      go_enter Tryz.func20, Tryz.ntmps20
      go_wp2_with fail
      refine (storeB_impl A c s w h hb).mono ?_
      rintro e w1 ⟨rfl, b1⟩
      rw [hs]
      go_wp2_with fail
      refine (isKey_any key _).mono ?_
      rintro e w' ⟨rfl, rfl⟩
      rw [hk]
      go_wp2
      go_ret
      exact ⟨reti (unhide HV).symm, b1⟩
    · obtain ⟨h1, h2⟩ := inB_true.1 hk
      have HK := hide hk
      obtain ⟨q, rfl⟩ := Int.eq_ofNat_of_zero_le h1
      have HV := hide (show valAt s (q : Int) = (valsL s).getD q 0 by rw [store_get hs q (by omega)]; unfold valAt; rw [if_pos ⟨hs, hk⟩])
      have HKS := hide (store_keys hs)
      have hix := index_vals (valsL s) (valsL_len s) q (by omega)
      have i1 : (q : Int) < 32 := by omega
      clear hk h1 h2
      generalize valAt s (q : Int) = r at *
      go_enter Tryz.func20, Tryz.ntmps20
      go_wp2_with fail
      refine (storeB_impl A c s w h hb).mono ?_
      rintro e w1 ⟨rfl, b1⟩
      rw [hs]
      go_wp2_with fail
      refine (isKey_any (q : Int) _).mono ?_
      rintro e w' ⟨rfl, rfl⟩
      rw [unhide HK]
      go_wp2_with fail
      refine (valuesOf_any A c s _ (h.new b1) hb (unhide HKS)).mono ?_
      rintro e w2 ⟨rfl, b2⟩
      generalize valsL s = v at *
      go_wp2
      go_ret
      exact ⟨reti (unhide HV).symm, bthen b1 b2⟩
end Go.Proofs.YtefdhlfljpppfaaGreat
