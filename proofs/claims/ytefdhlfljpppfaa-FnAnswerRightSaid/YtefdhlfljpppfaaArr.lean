/- Values as arrays: valuesOf, store, write. -/
import Derived.Test.YtefdhlfljpppfaaVals
import Derived.Test.YtefdhlfljpppfaaRdr
import Derived.Laws.Rows
import Derived.Laws.Tables
namespace Go.Proofs.Ytefdhlfljpppfaa
open Go.RowKit
set_option linter.unusedVariables false
set_option linter.unusedSimpArgs false

/-- numbers as cells -/
def vA (v : List Int) : Array Value := (v.map (Value.int .i64)).toArray
theorem vA_size (v : List Int) : (vA v).size = v.length := by simp [vA]
theorem vA_one (v : List Int) : (vA v).all (·.oneCell') = true := by
  rw [Array.all_eq_true_iff_forall_mem]
  intro x hx
  obtain ⟨z, _, rfl⟩ := List.mem_map.1 (by simpa [vA] using hx : x ∈ v.map (Value.int .i64))
  rfl
theorem vA_get {w : World} {g : Nat} {t : TypeId} {v : List Int} (h : Blk w g t (vA v)) {k : Nat} (hk : k < v.length) : w.cell? ⟨g, k, none⟩ = some (.int .i64 (v.getD k 0)) := by
  rw [h.cell]
  simp [vA, hk]
theorem vA_set {w : World} {g : Nat} {t : TypeId} {v : List Int} (h : Blk w g t (vA v)) (k : Nat) (x : Int) : Blk (w.setCell ⟨g, k, none⟩ (.int .i64 x)) g t (vA (v.set k x)) := by
  have := h.set_ k (.int .i64 x)
  simpa [vA, List.map_set] using this
theorem vA_zero : vA zeroV = #[.int .i64 0, .int .i64 0, .int .i64 0, .int .i64 0, .int .i64 0, .int .i64 0, .int .i64 0, .int .i64 0, .int .i64 0, .int .i64 0, .int .i64 0, .int .i64 0, .int .i64 0, .int .i64 0, .int .i64 0, .int .i64 0, .int .i64 0, .int .i64 0, .int .i64 0, .int .i64 0, .int .i64 0, .int .i64 0, .int .i64 0, .int .i64 0, .int .i64 0, .int .i64 0, .int .i64 0, .int .i64 0, .int .i64 0, .int .i64 0, .int .i64 0, .int .i64 0] := rfl
theorem blk_setRow {w : World} {g : Nat} {t : TypeId} {cs ds : Array Value} (h : Blk w g t cs) : Blk (w.setRow g ds) g t ds := setRow_heap w g cs ds t (0, 0) h
theorem info_vals : (Try.prog.info? 114).map (·.size) = some 32 := by kernel_rfl
theorem index_vals (v : List Int) (hv : v.length = 32) (k : Nat) (hk : k < 32) (w : World) : (Instr.index 114 (.agg (vA v)) (.int .i64 (k : Int))).run Try.prog w = .ok (.int .i64 (v.getD k 0)) w := by
  have h3 : Try.prog.underlying 3 = some (.int .i64) := Try.underlying3
  have hk2 : (k : Int) < 32 := by omega
  have hc : (vA v)[k]? = some (.int .i64 (v.getD k 0)) := by simp [vA, hk, hv]
  simp [Instr.index, go_sem, run_underlying Try.underlying114, hk2, hk, hc, part]

set_option maxRecDepth 100000 in
theorem valuesOf_any (A : Option Addr) (c : Nat) (es : List Ent) (w : World) (h : Rd w A (es.flatMap encE)) (hb : es.length ≤ 4611686018427387904) (hk : ∀ e ∈ es, 0 ≤ e.k ∧ e.k ≤ 31) :
    Calls Try.prog 104 #[.slice A es.length c] w fun e w' => e = .returned (.agg (vA (valsL es))) ∧ Below w.heap.size w w' := by
  have HK := hide hk
  clear hk
  go_enter Try.func104, Try.ntmps104
  go_wp2
  have hb0 : Below w.heap.size w ((w.alloc (.cells (vA zeroV) 114)).alloc (.cells (vA zeroV) 114)) := ((Below.refl _ _).alloc (Nat.le_refl _) _).alloc (by simp) _
  have k0 : Blk ((w.alloc (.cells (vA zeroV) 114)).alloc (.cells (vA zeroV) 114)) w.heap.size 114 (vA zeroV) := (Blk.new _ _ _).alloc _
  have k1 : Blk ((w.alloc (.cells (vA zeroV) 114)).alloc (.cells (vA zeroV) 114)) (w.heap.size + 1) 114 (vA zeroV) := by
    have := Blk.new (w.alloc (.cells (vA zeroV) 114)) 114 (vA zeroV)
    simpa using this
  rw [vA_zero] at hb0 k0 k1
  generalize (w.alloc _).alloc _ = w2 at *
  rw [← vA_zero] at k0 k1
  have hl := valsL_len
  go_loopw [8] (fun i wr => ∃ k : Nat, k ≤ es.length ∧ i = .int .i64 k ∧ Blk wr (w.heap.size + 1) 114 (vA (setAll zeroV (es.take k))) ∧ Chg (fun q => q = w.heap.size + 1) w2 wr) (fun i _ => es.length - (intOf i).toNat)
  case atStart => exact ⟨0, Nat.zero_le _, rfl, k1, Chg.refl _ _⟩
  case round =>
    obtain ⟨k, hk, rfl, kv, hch⟩ := hrel
    have hB : Below w.heap.size w wr := hb0.trans (hch.below (fun q hq e => by omega) hb0.size)
    by_cases hlt : k < es.length
    · obtain ⟨b, off, rfl, hbb, c0, c1⟩ := (h.new hB).ent hlt
      have hkb := unhide HK es[k] (List.getElem_mem hlt)
      have HS := hide (show setAll zeroV (es.take (k + 1)) = (setAll zeroV (es.take k)).set es[k].k.toNat es[k].v by rw [List.take_succ_eq_append_getElem hlt, setAll_snoc]; rfl)
      have hlen : (setAll zeroV (es.take k)).length = 32 := (setAll_len _ _).trans (by simp [zeroV])
      generalize setAll zeroV (es.take k) = v at *
      generalize es[k] = x at *
      obtain ⟨key, val⟩ := x
      simp only at c0 c1 hkb HS
      obtain ⟨q, rfl⟩ := Int.eq_ofNat_of_zero_le hkb.1
      have i1 : (k : Int) < (es.length : Int) := by omega
      have i2 : (q : Int) < 32 := by omega
      have i3 : q < 32 := by omega
      have cv := vA_get kv (show q < v.length by omega)
      have zv := kv.frozen q
      have hvl := kv.lt
      have hne : w.heap.size + 1 ≠ wr.heap.size := by omega
      go_wp2
      go_roundw
      case rel => exact ⟨k + 1, by omega, by go_num, by rw [unhide HS]; exact (vA_set kv q val).alloc _, (hch.setCell (p := ⟨w.heap.size + 1, q, none⟩) (.inl rfl) _).alloc _⟩
      case measure => simp [intOf]; omega
    · obtain rfl : k = es.length := by omega
      rw [List.take_length] at kv
      have kr : Blk wr w.heap.size 114 (vA zeroV) := k0.chg hch (by omega)
      have hls : (vA (valsL es)).size = 32 := by rw [vA_size, valsL_len]
      go_wp2_with (first | (refine wpList_load_row rfl 114 (.tmp 3) rfl (w.heap.size + 1) rfl 114 (vA (valsL es)) (0, 0) _ kv Try.underlying114 rfl (by rw [hls]; exact info_vals) ?_) | (refine wpList_store_row rfl 114 (.tmp 2) (.tmp 18) rfl w.heap.size (vA (valsL es)) rfl rfl 114 (vA zeroV) kr (by rw [hls]; exact info_vals) (by rw [hls]; rfl) (vA_one _) ?_))
      refine bodyPost_ret (v := .agg (vA (valsL es))) (results_cell_row (p := 2) (ty := 114) rfl _ _ w.heap.size 114 (vA (valsL es)) (0, 0) _ rfl (blk_setRow kr) Try.underlying114 rfl (by rw [hls]; exact info_vals)) rfl ⟨rfl, ?_⟩
      exact ⟨hB.os, hB.tape, hB.output, by rw [size_setRow]; exact hB.size, fun q hq => (setRow_other wr w.heap.size q _ (by omega)).trans (hB.block q hq)⟩
end Go.Proofs.Ytefdhlfljpppfaa
