/- Values as arrays: valuesOf, store, write. -/
import Derived.Test.YtefdhlfljpppfaaGreatVals
import Derived.Test.YtefdhlfljpppfaaGreatRdr
import Derived.Laws.Rows
import Derived.Laws.Tables
namespace Go.Proofs.YtefdhlfljpppfaaGreat
open Go.RowKit
set_option linter.unusedVariables false
set_option linter.unusedSimpArgs false

/-- numbers as cells -/
def vA (v : List Int) : Array Value := (v.map (Value.int .i64)).toArray
theorem vA_size (v : List Int) : (vA v).size = v.length := by simp [vA]
theorem vA_one (v : List Int) : (vA v).all (·.oneCell') = true := by
  rw [Array.all_eq_true_iff_forall_mem]
  intro x hx
  obtain ⟨z, _, rfl⟩ := List.mem_map.1 (by simpa [vA] using hx : x ∈ v.map (Value.int .i64))
  rfl
theorem vA_get {w : World} {g : Nat} {t : TypeId} {v : List Int} (h : Blk w g t (vA v)) {k : Nat} (hk : k < v.length) : w.cell? ⟨g, k, none⟩ = some (.int .i64 (v.getD k 0)) := by
  rw [h.cell]
  simp [vA, hk]
theorem vA_set {w : World} {g : Nat} {t : TypeId} {v : List Int} (h : Blk w g t (vA v)) (k : Nat) (x : Int) : Blk (w.setCell ⟨g, k, none⟩ (.int .i64 x)) g t (vA (v.set k x)) := by
  have := h.set_ k (.int .i64 x)
  simpa [vA, List.map_set] using this
theorem vA_zero : vA zeroV = #[.int .i64 0, .int .i64 0, .int .i64 0, .int .i64 0, .int .i64 0, .int .i64 0, .int .i64 0, .int .i64 0, .int .i64 0, .int .i64 0, .int .i64 0, .int .i64 0, .int .i64 0, .int .i64 0, .int .i64 0, .int .i64 0, .int .i64 0, .int .i64 0, .int .i64 0, .int .i64 0, .int .i64 0, .int .i64 0, .int .i64 0, .int .i64 0, .int .i64 0, .int .i64 0, .int .i64 0, .int .i64 0, .int .i64 0, .int .i64 0, .int .i64 0, .int .i64 0] := rfl
theorem blk_setRow {w : World} {g : Nat} {t : TypeId} {cs ds : Array Value} (h : Blk w g t cs) : Blk (w.setRow g ds) g t ds := setRow_heap w g cs ds t (0, 0) h
theorem info_vals : (Tryz.prog.info? 76).map (·.size) = some 32 := by kernel_rfl
theorem index_vals (v : List Int) (hv : v.length = 32) (k : Nat) (hk : k < 32) (w : World) : (Instr.index 76 (.agg (vA v)) (.int .i64 (k : Int))).run Tryz.prog w = .ok (.int .i64 (v.getD k 0)) w := by
  have h3 : Tryz.prog.underlying 3 = some (.int .i64) := Tryz.underlying3
  have hk2 : (k : Int) < 32 := by omega
  have hc : (vA v)[k]? = some (.int .i64 (v.getD k 0)) := by simp [vA, hk, hv]
  simp [Instr.index, go_sem, run_underlying Tryz.underlying76, hk2, hk, hc, part]

set_option maxRecDepth 100000 in
theorem valuesOf_any (A : Option Addr) (c : Nat) (es : List Ent) (w : World) (h : Rd w A (es.flatMap encE)) (hb : es.length ≤ 4611686018427387904) (hk : ∀ e ∈ es, 0 ≤ e.k ∧ e.k ≤ 31) :
    Calls Tryz.prog 56 #[.slice A es.length c] w fun e w' => e = .returned (.agg (vA (valsL es))) ∧ Below w.heap.size w w' := by
  have HK := hide hk
  clear hk
  go_enter Tryz.func56, Tryz.ntmps56
  go_wp2
  have hb0 : Below w.heap.size w ((w.alloc (.cells (vA zeroV) 76)).alloc (.cells (vA zeroV) 76)) := ((Below.refl _ _).alloc (Nat.le_refl _) _).alloc (by simp) _
  have k0 : Blk ((w.alloc (.cells (vA zeroV) 76)).alloc (.cells (vA zeroV) 76)) w.heap.size 76 (vA zeroV) := (Blk.new _ _ _).alloc _
  have k1 : Blk ((w.alloc (.cells (vA zeroV) 76)).alloc (.cells (vA zeroV) 76)) (w.heap.size + 1) 76 (vA zeroV) := by
    have := Blk.new (w.alloc (.cells (vA zeroV) 76)) 76 (vA zeroV)
    simpa using this
  rw [vA_zero] at hb0 k0 k1
  generalize (w.alloc _).alloc _ = w2 at *
  rw [← vA_zero] at k0 k1
  have hl := valsL_len
  go_loopw [8] (fun i wr => ∃ k : Nat, k ≤ es.length ∧ i = .int .i64 k ∧ Blk wr (w.heap.size + 1) 76 (vA (setAll zeroV (es.take k))) ∧ Chg (fun q => q = w.heap.size + 1) w2 wr) (fun i _ => es.length - (intOf i).toNat)
  case atStart => exact ⟨0, Nat.zero_le _, rfl, k1, Chg.refl _ _⟩
  case round =>
    obtain ⟨k, hk, rfl, kv, hch⟩ := hrel
    have hB : Below w.heap.size w wr := hb0.trans (hch.below (fun q hq e => by omega) hb0.size)
    by_cases hlt : k < es.length
    · obtain ⟨b, off, rfl, hbb, c0, c1⟩ := (h.new hB).ent hlt
      have hkb := unhide HK es[k] (List.getElem_mem hlt)
      have HS := hide (show setAll zeroV (es.take (k + 1)) = (setAll zeroV (es.take k)).set es[k].k.toNat es[k].v by rw [List.take_succ_eq_append_getElem hlt, setAll_snoc]; rfl)
      have hlen : (setAll zeroV (es.take k)).length = 32 := (setAll_len _ _).trans (by simp [zeroV])
      generalize setAll zeroV (es.take k) = v at *
      generalize es[k] = x at *
      obtain ⟨key, val⟩ := x
      simp only at c0 c1 hkb HS
      obtain ⟨q, rfl⟩ := Int.eq_ofNat_of_zero_le hkb.1
      have i1 : (k : Int) < (es.length : Int) := by omega
      have i2 : (q : Int) < 32 := by omega
      have i3 : q < 32 := by omega
      have cv := vA_get kv (show q < v.length by omega)
      have zv := kv.frozen q
      have hvl := kv.lt
      have hne : w.heap.size + 1 ≠ wr.heap.size := by omega
      go_wp2
      go_roundw
      case rel => exact ⟨k + 1, by omega, by go_num, by rw [unhide HS]; exact (vA_set kv q val).alloc _, (hch.setCell (p := ⟨w.heap.size + 1, q, none⟩) (.inl rfl) _).alloc _⟩
      case measure => simp [intOf]; omega
    · obtain rfl : k = es.length := by omega
      rw [List.take_length] at kv
      have kr : Blk wr w.heap.size 76 (vA zeroV) := k0.chg hch (by omega)
      have hls : (vA (valsL es)).size = 32 := by rw [vA_size, valsL_len]
      go_wp2_with (first | (refine wpList_load_row rfl 76 (.tmp 3) rfl (w.heap.size + 1) rfl 76 (vA (valsL es)) (0, 0) _ kv Tryz.underlying76 rfl (by rw [hls]; exact info_vals) ?_) | (refine wpList_store_row rfl 76 (.tmp 2) (.tmp 18) rfl w.heap.size (vA (valsL es)) rfl rfl 76 (vA zeroV) kr (by rw [hls]; exact info_vals) (by rw [hls]; rfl) (vA_one _) ?_))
      refine bodyPost_ret (v := .agg (vA (valsL es))) (results_cell_row (p := 2) (ty := 76) rfl _ _ w.heap.size 76 (vA (valsL es)) (0, 0) _ rfl (blk_setRow kr) Tryz.underlying76 rfl (by rw [hls]; exact info_vals)) rfl ⟨rfl, ?_⟩
      exact ⟨hB.os, hB.tape, hB.output, by rw [size_setRow]; exact hB.size, fun q hq => (setRow_other wr w.heap.size q _ (by omega)).trans (hB.block q hq)⟩
set_option maxRecDepth 100000 in
theorem store_any (v : List Int) (w : World) (hv : v.length = 32) :
    Calls Tryz.prog 52 #[.agg (vA v)] w fun e w' => ∃ A' c', e = .returned (.slice A' (storeL v).length c') ∧ w'.ownsRow w.heap.size 85 2 (.slice A' (storeL v).length c') (storeL v).length ((storeL v).flatMap encE) ∧ Below w.heap.size w w' := by
  have hls : (vA v).size = 32 := by rw [vA_size, hv]
  have HL := hide (show storeL v = stGo v 32 from rfl)
  generalize storeL v = r at *
  go_enter Tryz.func52, Tryz.ntmps52
  go_wp2_with (refine wpList_load_row rfl 76 (.tmp 1) rfl w.heap.size rfl 76 (vA v) (0, 0) _ (Blk.new w 76 (vA v)) Tryz.underlying76 rfl (by rw [hls]; exact info_vals) ?_)
  have hb0 : Below w.heap.size w (w.alloc (.cells (vA v) 76)) := (Below.refl _ _).alloc (Nat.le_refl _) _
  generalize w.alloc (.cells (vA v) 76) = w2 at *
  go_loopw [3, 7] (fun r i wr => ∃ (k : Nat) (A' : Option Addr) (c' : Nat), k ≤ 32 ∧ i = .int .i64 k ∧ r = .slice A' (stGo v k).length c' ∧ (stGo v k).length ≤ k ∧ wr.ownsRow w.heap.size 85 2 (.slice A' (stGo v k).length c') (stGo v k).length ((stGo v k).flatMap encE) ∧ Below w.heap.size w wr) (fun _ i _ => 32 - (intOf i).toNat)
  case atStart => exact ⟨0, none, 0, by omega, rfl, rfl, by simp [stGo], own_nil _ _ _ _, hb0⟩
  case round =>
    obtain ⟨k, A', c', hk, rfl, rfl, hgl, hown, hB⟩ := hrel
    by_cases hlt : k < 32
    · have hix := index_vals v hv k hlt
      have i1 : (k : Int) < 32 := by omega
      have hst := show stGo v (k + 1) = stGo v k ++ (if 0 < v.getD k 0 then [⟨(k : Int), v.getD k 0⟩] else []) from rfl
      generalize stGo v k = gs at *
      generalize v.getD k 0 = x at *
      by_cases hx : 0 < x
      · have hx2 : decide (0 < x) = true := by simpa using hx
        rw [if_pos hx] at hst
        have HS := hide hst
        clear hst
        go_wp2_with (at_builtin; refine wpList_app rfl (.tmp 13) (.tmp 17) 23 rfl el_ent rfl (own_alloc hown _) rfl (rd_lit wr [.int .i64 (k : Int), .int .i64 x] _) rfl (one_ents [⟨(k : Int), x⟩]) (by simp only [maxLen]; omega) (by omega) (by have := hB.size; simp; omega) ?_; intro A1 c1 w1 o1 ch1 _ _; rw [snoc_ents] at o1)
        have hB1 := app_below hB hown ch1 (Nat.le_refl _)
        go_roundw
        case rel => exact ⟨k + 1, A1, c1, by omega, by go_num, by rw [unhide HS]; simp, by rw [unhide HS]; simp; omega, by rw [unhide HS]; simpa using o1, hB1⟩
        case measure => simp [intOf]; omega
      · have hx2 : decide (0 < x) = false := by simpa using hx
        rw [if_neg hx, List.append_nil] at hst
        have HS := hide hst
        clear hst
        go_wp2
        go_roundw
        case rel => exact ⟨k + 1, A', c', by omega, by go_num, by rw [unhide HS], by rw [unhide HS]; omega, by rw [unhide HS]; exact hown, hB⟩
        case measure => simp [intOf]; omega
    · obtain rfl : k = 32 := by omega
      go_wp2
      go_ret
      rw [unhide HL]
      exact ⟨A', c', rfl, hown, hB⟩
end Go.Proofs.YtefdhlfljpppfaaGreat
