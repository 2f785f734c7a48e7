/- Values as arrays: valuesOf, store, write. -/
import Derived.Test.YtiaodcjocogkkaaVals
import Derived.Test.YtiaodcjocogkkaaRdr
import Derived.Laws.Rows
import Derived.Laws.Tables
namespace Go.Proofs.Ytiaodcjocogkkaa
open Go.RowKit
set_option linter.unusedVariables false
set_option linter.unusedSimpArgs false

/-- numbers as cells -/
def vA (v : List Int) : Array Value := (v.map (Value.int .i64)).toArray
theorem vA_size (v : List Int) : (vA v).size = v.length := by simp [vA]
theorem vA_one (v : List Int) : (vA v).all (·.oneCell') = true := by
  rw [Array.all_eq_true_iff_forall_mem]
  intro x hx
  obtain ⟨z, _, rfl⟩ := List.mem_map.1 (by simpa [vA] using hx : x ∈ v.map (Value.int .i64))
  rfl
theorem vA_get {w : World} {g : Nat} {t : TypeId} {v : List Int} (h : Blk w g t (vA v)) {k : Nat} (hk : k < v.length) : w.cell? ⟨g, k, none⟩ = some (.int .i64 (v.getD k 0)) := by
  rw [h.cell]
  simp [vA, hk]
theorem vA_set {w : World} {g : Nat} {t : TypeId} {v : List Int} (h : Blk w g t (vA v)) (k : Nat) (x : Int) : Blk (w.setCell ⟨g, k, none⟩ (.int .i64 x)) g t (vA (v.set k x)) := by
  have := h.set_ k (.int .i64 x)
  simpa [vA, List.map_set] using this
theorem vA_zero : vA zeroV = #[.int .i64 0, .int .i64 0, .int .i64 0, .int .i64 0, .int .i64 0, .int .i64 0, .int .i64 0, .int .i64 0, .int .i64 0, .int .i64 0, .int .i64 0, .int .i64 0, .int .i64 0, .int .i64 0, .int .i64 0, .int .i64 0, .int .i64 0, .int .i64 0, .int .i64 0, .int .i64 0, .int .i64 0, .int .i64 0, .int .i64 0, .int .i64 0, .int .i64 0, .int .i64 0, .int .i64 0, .int .i64 0, .int .i64 0, .int .i64 0, .int .i64 0, .int .i64 0] := rfl
theorem blk_setRow {w : World} {g : Nat} {t : TypeId} {cs ds : Array Value} (h : Blk w g t cs) : Blk (w.setRow g ds) g t ds := setRow_heap w g cs ds t (0, 0) h
theorem info_vals : (Try.prog.info? 87).map (·.size) = some 32 := by kernel_rfl
theorem index_vals (v : List Int) (hv : v.length = 32) (k : Nat) (hk : k < 32) (w : World) : (Instr.index 87 (.agg (vA v)) (.int .i64 (k : Int))).run Try.prog w = .ok (.int .i64 (v.getD k 0)) w := by
  have h3 : Try.prog.underlying 3 = some (.int .i64) := Try.underlying3
  have hk2 : (k : Int) < 32 := by omega
  have hc : (vA v)[k]? = some (.int .i64 (v.getD k 0)) := by simp [vA, hk, hv]
  simp [Instr.index, go_sem, run_underlying Try.underlying87, hk2, hk, hc, part]

set_option maxRecDepth 100000 in
theorem valuesOf_any (A : Option Addr) (c : Nat) (es : List Ent) (w : World) (h : Rd w A (es.flatMap encE)) (hb : es.length ≤ 4611686018427387904) (hk : ∀ e ∈ es, 0 ≤ e.k ∧ e.k ≤ 31) :
    Calls Try.prog 55 #[.slice A es.length c] w fun e w' => e = .returned (.agg (vA (valsL es))) ∧ Below w.heap.size w w' := by
  have HK := hide hk
  clear hk
  go_enter Try.func55, Try.ntmps55
  go_wp2
  have hb0 : Below w.heap.size w ((w.alloc (.cells (vA zeroV) 87)).alloc (.cells (vA zeroV) 87)) := ((Below.refl _ _).alloc (Nat.le_refl _) _).alloc (by simp) _
  have k0 : Blk ((w.alloc (.cells (vA zeroV) 87)).alloc (.cells (vA zeroV) 87)) w.heap.size 87 (vA zeroV) := (Blk.new _ _ _).alloc _
  have k1 : Blk ((w.alloc (.cells (vA zeroV) 87)).alloc (.cells (vA zeroV) 87)) (w.heap.size + 1) 87 (vA zeroV) := by
    have := Blk.new (w.alloc (.cells (vA zeroV) 87)) 87 (vA zeroV)
    simpa using this
  rw [vA_zero] at hb0 k0 k1
  generalize (w.alloc _).alloc _ = w2 at *
  rw [← vA_zero] at k0 k1
  have hl := valsL_len
  go_loopw [8] (fun i wr => ∃ k : Nat, k ≤ es.length ∧ i = .int .i64 k ∧ Blk wr (w.heap.size + 1) 87 (vA (setAll zeroV (es.take k))) ∧ Chg (fun q => q = w.heap.size + 1) w2 wr) (fun i _ => es.length - (intOf i).toNat)
  case atStart => exact ⟨0, Nat.zero_le _, rfl, k1, Chg.refl _ _⟩
  case round =>
    obtain ⟨k, hk, rfl, kv, hch⟩ := hrel
    have hB : Below w.heap.size w wr := hb0.trans (hch.below (fun q hq e => by omega) hb0.size)
    by_cases hlt : k < es.length
    · obtain ⟨b, off, rfl, hbb, c0, c1⟩ := (h.new hB).ent hlt
      have hkb := unhide HK es[k] (List.getElem_mem hlt)
      have HS := hide (show setAll zeroV (es.take (k + 1)) = (setAll zeroV (es.take k)).set es[k].k.toNat es[k].v by rw [List.take_succ_eq_append_getElem hlt, setAll_snoc]; rfl)
      have hlen : (setAll zeroV (es.take k)).length = 32 := (setAll_len _ _).trans (by simp [zeroV])
      generalize setAll zeroV (es.take k) = v at *
      generalize es[k] = x at *
      obtain ⟨key, val⟩ := x
      simp only at c0 c1 hkb HS
      obtain ⟨q, rfl⟩ := Int.eq_ofNat_of_zero_le hkb.1
      have i1 : (k : Int) < (es.length : Int) := by omega
      have i2 : (q : Int) < 32 := by omega
      have i3 : q < 32 := by omega
      have cv := vA_get kv (show q < v.length by omega)
      have zv := kv.frozen q
      have hvl := kv.lt
      have hne : w.heap.size + 1 ≠ wr.heap.size := by omega
      go_wp2
      go_roundw
      case rel => exact ⟨k + 1, by omega, by go_num, by rw [unhide HS]; exact (vA_set kv q val).alloc _, (hch.setCell (p := ⟨w.heap.size + 1, q, none⟩) (.inl rfl) _).alloc _⟩
      case measure => simp [intOf]; omega
    · obtain rfl : k = es.length := by omega
      rw [List.take_length] at kv
      have kr : Blk wr w.heap.size 87 (vA zeroV) := k0.chg hch (by omega)
      have hls : (vA (valsL es)).size = 32 := by rw [vA_size, valsL_len]
      go_wp2_with (first | (refine wpList_load_row rfl 87 (.tmp 3) rfl (w.heap.size + 1) rfl 87 (vA (valsL es)) (0, 0) _ kv Try.underlying87 rfl (by rw [hls]; exact info_vals) ?_) | (refine wpList_store_row rfl 87 (.tmp 2) (.tmp 18) rfl w.heap.size (vA (valsL es)) rfl rfl 87 (vA zeroV) kr (by rw [hls]; exact info_vals) (by rw [hls]; rfl) (vA_one _) ?_))
      refine bodyPost_ret (v := .agg (vA (valsL es))) (results_cell_row (p := 2) (ty := 87) rfl _ _ w.heap.size 87 (vA (valsL es)) (0, 0) _ rfl (blk_setRow kr) Try.underlying87 rfl (by rw [hls]; exact info_vals)) rfl ⟨rfl, ?_⟩
      exact ⟨hB.os, hB.tape, hB.output, by rw [size_setRow]; exact hB.size, fun q hq => (setRow_other wr w.heap.size q _ (by omega)).trans (hB.block q hq)⟩
set_option maxRecDepth 100000 in
theorem store_any (v : List Int) (w : World) (hv : v.length = 32) :
    Calls Try.prog 79 #[.agg (vA v)] w fun e w' => ∃ A' c', e = .returned (.slice A' (storeL v).length c') ∧ w'.ownsRow w.heap.size 80 2 (.slice A' (storeL v).length c') (storeL v).length ((storeL v).flatMap encE) ∧ Below w.heap.size w w' := by
  have hls : (vA v).size = 32 := by rw [vA_size, hv]
  have HL := hide (show storeL v = stGo v 32 from rfl)
  generalize storeL v = r at *
  go_enter Try.func79, Try.ntmps79
  go_wp2_with (refine wpList_load_row rfl 87 (.tmp 1) rfl w.heap.size rfl 87 (vA v) (0, 0) _ (Blk.new w 87 (vA v)) Try.underlying87 rfl (by rw [hls]; exact info_vals) ?_)
  have hb0 : Below w.heap.size w (w.alloc (.cells (vA v) 87)) := (Below.refl _ _).alloc (Nat.le_refl _) _
  generalize w.alloc (.cells (vA v) 87) = w2 at *
  go_loopw [3, 7] (fun r i wr => ∃ (k : Nat) (A' : Option Addr) (c' : Nat), k ≤ 32 ∧ i = .int .i64 k ∧ r = .slice A' (stGo v k).length c' ∧ (stGo v k).length ≤ k ∧ wr.ownsRow w.heap.size 80 2 (.slice A' (stGo v k).length c') (stGo v k).length ((stGo v k).flatMap encE) ∧ Below w.heap.size w wr) (fun _ i _ => 32 - (intOf i).toNat)
  case atStart => exact ⟨0, none, 0, by omega, rfl, rfl, by simp [stGo], own_nil _ _ _ _, hb0⟩
  case round =>
    obtain ⟨k, A', c', hk, rfl, rfl, hgl, hown, hB⟩ := hrel
    by_cases hlt : k < 32
    · have hix := index_vals v hv k hlt
      have i1 : (k : Int) < 32 := by omega
      have hst := show stGo v (k + 1) = stGo v k ++ (if 0 < v.getD k 0 then [⟨(k : Int), v.getD k 0⟩] else []) from rfl
      generalize stGo v k = gs at *
      generalize v.getD k 0 = x at *
      by_cases hx : 0 < x
      · have hx2 : decide (0 < x) = true := by simpa using hx
        rw [if_pos hx] at hst
        have HS := hide hst
        clear hst
        go_wp2_with (at_builtin; refine wpList_app rfl (.tmp 13) (.tmp 17) 27 rfl el_ent rfl (own_alloc hown _) rfl (rd_lit wr [.int .i64 (k : Int), .int .i64 x] _) rfl (one_ents [⟨(k : Int), x⟩]) (by simp only [maxLen]; omega) (by omega) (by have := hB.size; simp; omega) ?_; intro A1 c1 w1 o1 ch1 _ _; rw [snoc_ents] at o1)
        have hB1 := app_below hB hown ch1 (Nat.le_refl _)
        go_roundw
        case rel => exact ⟨k + 1, A1, c1, by omega, by go_num, by rw [unhide HS]; simp, by rw [unhide HS]; simp; omega, by rw [unhide HS]; simpa using o1, hB1⟩
        case measure => simp [intOf]; omega
      · have hx2 : decide (0 < x) = false := by simpa using hx
        rw [if_neg hx, List.append_nil] at hst
        have HS := hide hst
        clear hst
        go_wp2
        go_roundw
        case rel => exact ⟨k + 1, A', c', by omega, by go_num, by rw [unhide HS], by rw [unhide HS]; omega, by rw [unhide HS]; exact hown, hB⟩
        case measure => simp [intOf]; omega
    · obtain rfl : k = 32 := by omega
      go_wp2
      go_ret
      rw [unhide HL]
      exact ⟨A', c', rfl, hown, hB⟩
def writeL (s es : List Ent) : List Ent := storeL (setAll (valsL s) es)
theorem writeL_len (s es : List Ent) : (writeL s es).length ≤ 32 := storeL_len _
set_option maxRecDepth 100000 in
theorem write_any (A B : Option Addr) (ca cb : Nat) (s es : List Ent) (w : World) (ha : Rd w A (s.flatMap encE)) (hb : Rd w B (es.flatMap encE)) (hla : s.length ≤ 4611686018427387904) (hlb : es.length ≤ 4611686018427387904) (hk : ∀ e ∈ s, 0 ≤ e.k ∧ e.k ≤ 31) (hk2 : ∀ e ∈ es, 0 ≤ e.k ∧ e.k ≤ 31) :
    Calls Try.prog 61 #[.slice A s.length ca, .slice B es.length cb] w fun e w' => ∃ A' c', e = .returned (.slice A' (writeL s es).length c') ∧ w'.ownsRow w.heap.size 80 2 (.slice A' (writeL s es).length c') (writeL s es).length ((writeL s es).flatMap encE) ∧ Below w.heap.size w w' := by
  have HK := hide hk
  have HK2 := hide hk2
  clear hk hk2
  have HW := hide (show writeL s es = storeL (setAll (valsL s) es) from rfl)
  generalize writeL s es = r at *
  go_enter Try.func61, Try.ntmps61
  go_wp2_with fail
  refine (valuesOf_any A ca s _ ha hla (unhide HK)).mono ?_
  rintro e w1 ⟨rfl, b1⟩
  have hvl := valsL_len s
  generalize valsL s = v0 at *
  have hls0 : (vA v0).size = 32 := by rw [vA_size, hvl]
  have kz : Blk (w1.alloc (.cells (vA zeroV) 87)) w1.heap.size 87 (vA zeroV) := Blk.new _ _ _
  have bz : Below w.heap.size w (w1.alloc (.cells (vA zeroV) 87)) := b1.alloc b1.size _
  rw [vA_zero] at kz bz
  go_wp2_with (refine wpList_store_row rfl 87 (.tmp 5) (.tmp 9) rfl w1.heap.size (vA v0) rfl rfl 87 _ kz (by rw [hls0]; exact info_vals) (by rw [hls0]; rfl) (vA_one _) ?_)
  rw [← vA_zero] at kz bz
  have k1 := blk_setRow (ds := vA v0) kz
  have b2 : Below w.heap.size w ((w1.alloc (.cells (vA zeroV) 87)).setRow w1.heap.size (vA v0)) := ⟨bz.os, bz.tape, bz.output, by rw [size_setRow]; exact bz.size, fun q hq => (setRow_other _ w1.heap.size q _ (by have := b1.size; omega)).trans (bz.block q hq)⟩
  have hs1 := b1.size
  rw [vA_zero] at k1 b2
  generalize (w1.alloc _).setRow _ _ = w2 at *
  clear kz bz
  have hlr := HW
  go_loopw [12] (fun i wr => ∃ k : Nat, k ≤ es.length ∧ i = .int .i64 k ∧ Blk wr w1.heap.size 87 (vA (setAll v0 (es.take k))) ∧ Chg (fun q => q = w1.heap.size) w2 wr) (fun i _ => es.length - (intOf i).toNat)
  case atStart => exact ⟨0, Nat.zero_le _, rfl, k1, Chg.refl _ _⟩
  case round =>
    obtain ⟨k, hk, rfl, kv, hch⟩ := hrel
    have hB : Below w.heap.size w wr := b2.trans (hch.below (fun q hq e => by omega) b2.size)
    by_cases hlt : k < es.length
    · obtain ⟨b, off, rfl, hbb, c0, c1⟩ := (hb.new hB).ent hlt
      have hkb := unhide HK2 es[k] (List.getElem_mem hlt)
      have HS := hide (show setAll v0 (es.take (k + 1)) = (setAll v0 (es.take k)).set es[k].k.toNat es[k].v by rw [List.take_succ_eq_append_getElem hlt, setAll_snoc]; rfl)
      have hlen : (setAll v0 (es.take k)).length = 32 := (setAll_len _ _).trans hvl
      generalize setAll v0 (es.take k) = v at *
      generalize es[k] = x at *
      obtain ⟨key, val⟩ := x
      simp only at c0 c1 hkb HS
      obtain ⟨q, rfl⟩ := Int.eq_ofNat_of_zero_le hkb.1
      have i1 : (k : Int) < (es.length : Int) := by omega
      have i2 : (q : Int) < 32 := by omega
      have i3 : q < 32 := by omega
      have cv := vA_get kv (show q < v.length by omega)
      have zv := kv.frozen q
      have hvl2 := kv.lt
      have hne : w1.heap.size ≠ wr.heap.size := by omega
      go_wp2
      go_roundw
      case rel => exact ⟨k + 1, by omega, by go_num, by rw [unhide HS]; exact (vA_set kv q val).alloc _, (hch.setCell (p := ⟨w1.heap.size, q, none⟩) (.inl rfl) _).alloc _⟩
      case measure => simp [intOf]; omega
    · obtain rfl : k = es.length := by omega
      rw [List.take_length] at kv
      have hvl3 : (setAll v0 es).length = 32 := (setAll_len _ _).trans hvl
      have HW2 := hide (show r = storeL (setAll v0 es) from unhide HW)
      generalize setAll v0 es = v1 at *
      have hls : (vA v1).size = 32 := by rw [vA_size, hvl3]
      go_wp2_with (refine wpList_load_row rfl 87 (.tmp 5) rfl w1.heap.size rfl 87 (vA v1) (0, 0) _ kv Try.underlying87 rfl (by rw [hls]; exact info_vals) ?_)
      refine (store_any v1 _ hvl3).mono ?_
      rintro e w3 ⟨A3, c3, rfl, o3, b3⟩
      go_wp2
      go_ret
      rw [unhide HW2]
      exact ⟨A3, c3, rfl, own_base o3 hB.size, bthen hB b3⟩
end Go.Proofs.Ytiaodcjocogkkaa
