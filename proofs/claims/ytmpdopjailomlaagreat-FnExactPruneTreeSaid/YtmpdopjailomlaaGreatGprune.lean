/- The blocks that are kept, of both sides; the place in a list (printed by gen_in.py from xkept.in). An append to a slice without room: only new memory. No program is in sight here. Copies of trees, of the reference (printed by gen_in.py from xcopy.in). Copies of trees, of the program (printed by gen_in.py from xclone.in). Pruned trees: what they are, and the program's (printed by gen_in.py from xprune.in). Pruned trees, of the reference (printed by gen_in.py from xprunes.in). Trees of blocks, in the laws: held. -/
import Derived.Test.YtmpdopjailomlaaGreatGtree
import Derived.Test.YtmpdopjailomlaaGreatBSame
import Derived.Test.YtmpdopjailomlaaGreatMem
import Derived.Test.YtmpdopjailomlaaGreatOwn
import Derived.Test.YtmpdopjailomlaaGreatGask
import Derived.Test.YtmpdopjailomlaaGreatBkM
import Derived.Test.YtmpdopjailomlaaGreatTr
import Derived.Test.YtmpdopjailomlaaGreatEffD
import Derived.Test.YtmpdopjailomlaaGreatIntS
namespace Go.Proofs.YtmpdopjailomlaaGreat
open Go.RowKit
set_option linter.unusedVariables false
set_option linter.unusedSimpArgs false

def keepB (t : Tr) (n : Int) (k : Nat) : Bool := decide ((k : Int) ∈ pathT t n) || decide (n ∈ pathT t (k : Int))
def keptGo (t : Tr) (n : Int) : Nat → List Int
  | 0 => []
  | k + 1 => if keepB t n k = true then keptGo t n k ++ [(k : Int)] else keptGo t n k
/-- the blocks that are kept -/
def keptL (t : Tr) (n : Int) : List Int := if treeB t = true ∧ inB n 0 ((t.blocks.length : Int) - 1) = true then keptGo t n t.blocks.length else []
theorem keptL_yes {t : Tr} {n : Int} (h : treeB t = true) (hn : inB n 0 ((t.blocks.length : Int) - 1) = true) : keptL t n = keptGo t n t.blocks.length := by rw [keptL, if_pos ⟨h, hn⟩]
theorem keptL_no {t : Tr} {n : Int} (h : treeB t = false) : keptL t n = [] := by rw [keptL, if_neg (by simp [h])]
theorem keptL_no2 {t : Tr} {n : Int} (h : inB n 0 ((t.blocks.length : Int) - 1) = false) : keptL t n = [] := by rw [keptL, if_neg (by simp [h])]
theorem keptGo_len (t : Tr) (n : Int) : ∀ k, (keptGo t n k).length ≤ k
  | 0 => Nat.le_refl _
  | k + 1 => by
    have := keptGo_len t n k
    rw [keptGo]
    split <;> simp <;> omega
theorem keptGo_mem (t : Tr) (n : Int) : ∀ k, ∀ x ∈ keptGo t n k, 0 ≤ x ∧ x < k
  | 0, x, h => by cases h
  | k + 1, x, h => by
    rw [keptGo] at h
    split at h
    · rcases List.mem_append.1 h with h | h
      · have := keptGo_mem t n k x h; omega
      · rw [List.mem_singleton] at h; omega
    · have := keptGo_mem t n k x h; omega
theorem keptL_mem {t : Tr} {n x : Int} (h : x ∈ keptL t n) : treeB t = true ∧ 0 ≤ x ∧ x < t.blocks.length := by
  unfold keptL at h
  split at h
  · rename_i hc
    exact ⟨hc.1, keptGo_mem t n _ x h⟩
  · cases h
theorem keptL_len (t : Tr) (n : Int) : (keptL t n).length ≤ t.blocks.length := by
  unfold keptL
  split
  · exact keptGo_len t n _
  · simp
set_option maxRecDepth 100000 in
set_option maxHeartbeats 4000000 in
theorem isBefore_spec (t : Tr) (A1 : Option Addr) (c1 : Nat) (A2 : Option Addr) (c2 : Nat) (A3 : Option Addr) (c3 : Nat) (a b : Int) (w : World) (h : TrR w t A1 A2 A3) (hb1 : t.base.length ≤ 1099511627776) (hb2 : t.blocks.length ≤ 1099511627776) (hbs : ∀ x ∈ t.blocks, x.list.length ≤ 1099511627776) (hb3 : t.before.length ≤ 1099511627776) :
    Calls Tryz.prog 76 #[.agg (trA t A1 c1 A2 c2 A3 c3), .int .i64 a, .int .i64 b] w fun e w' => e = .returned (.bool (decide (a ∈ pathS t b))) ∧ Below w.heap.size w w' := by
  have hb0 : Below w.heap.size w (w.alloc (.cells (trA t A1 c1 A2 c2 A3 c3) 31)) := (Below.refl _ _).alloc (Nat.le_refl _) _
  have k0 := Blk.new w 31 (trA t A1 c1 A2 c2 A3 c3)
  have x0 : (w.alloc (.cells (trA t A1 c1 A2 c2 A3 c3) 31)).cell? ⟨w.heap.size, 0, none⟩ = some (.slice A1 t.base.length c1) := k0.cell 0
  have x1 : (w.alloc (.cells (trA t A1 c1 A2 c2 A3 c3) 31)).cell? ⟨w.heap.size, 1, none⟩ = some (.slice A2 t.blocks.length c2) := k0.cell 1
  have x2 : (w.alloc (.cells (trA t A1 c1 A2 c2 A3 c3) 31)).cell? ⟨w.heap.size, 2, none⟩ = some (.slice A3 t.before.length c3) := k0.cell 2
  have KP := path_spec t A1 c1 A2 c2 A3 c3 b _ (h.new hb0) hb1 hb2 hbs hb3
  simp only [trA] at KP hb0 x0 x1 x2 k0 ⊢
  clear hbs h k0
  go_enter Tryz.func76, Tryz.ntmps76
  go_wp2_with fail
  refine KP.mono ?_
  rintro e w3 ⟨AP, cp, rfl, o3, b3⟩
  have hB := bthen hb0 b3
  have hpl := pathS_len t b
  have rp := own_rd o3
  clear KP x0 x1 x2 hb0 b3
  generalize hps : pathS t b = ps at *
  have HPS := hide hps
  clear hps
  go_wp2
  go_loop [8] (fun i => ∃ (k : Nat), k ≤ ps.length ∧ i = .int .i64 k ∧ Hid (a ∉ ps.take k)) (fun i => ps.length - (intOf i).toNat)
  case atStart => exact ⟨0, Nat.zero_le _, rfl, hide (by simp)⟩
  case round =>
    obtain ⟨k, hk, rfl, HN⟩ := hrel
    by_cases hlt : k < ps.length
    · have i1 : (k : Int) < (ps.length : Int) := by omega
      obtain ⟨bp, offp, rfl, hpb, zp⟩ := rp.int hlt
      have HT := hide (List.take_succ_eq_append_getElem hlt)
      have HM := hide (List.getElem_mem hlt)
      generalize ps[k] = p at *
      by_cases he : p = a
      · have he2 : (p == a) = true := by simpa using he
        have HR := hide (show decide (a ∈ pathS t b) = true by rw [unhide HPS, ← he]; exact decide_eq_true (unhide HM))
        clear he
        go_wp2
        go_ret
        exact ⟨retb (unhide HR).symm, hB⟩
      · have he2 : (p == a) = false := by simpa using he
        have HN2 := hide (show a ∉ ps.take (k + 1) by
          rw [unhide HT, List.mem_append, List.mem_singleton]
          rintro (h | h)
          · exact unhide HN h
          · exact he h.symm)
        clear he
        go_wp2
        go_round
        case rel => exact ⟨k + 1, by omega, by go_num, HN2⟩
        case measure => simp [intOf]; omega
    · obtain rfl : k = ps.length := by omega
      have HR := hide (show decide (a ∈ pathS t b) = false by
        have h1 := unhide HN
        rw [List.take_length] at h1
        rw [unhide HPS]
        exact decide_eq_false h1)
      go_wp2
      go_ret
      exact ⟨retb (unhide HR).symm, hB⟩
set_option maxRecDepth 100000 in
set_option maxHeartbeats 8000000 in
theorem kept_impl (t : Tr) (A1 : Option Addr) (c1 : Nat) (A2 : Option Addr) (c2 : Nat) (A3 : Option Addr) (c3 : Nat) (n : Int) (w : World) (h : TrR w t A1 A2 A3) (hb1 : t.base.length ≤ 1099511627776) (hb2 : t.blocks.length ≤ 1099511627776) (hbs : ∀ x ∈ t.blocks, x.list.length ≤ 1099511627776) (hb3 : t.before.length ≤ 1099511627776) :
    Calls Tryz.prog 43 #[.agg (trA t A1 c1 A2 c2 A3 c3), .int .i64 n] w fun e w' => ∃ A' c', e = .returned (.slice A' (keptL t n).length c') ∧ w'.ownsRow w.heap.size 3 1 (.slice A' (keptL t n).length c') (keptL t n).length ((keptL t n).map (.int .i64)) ∧ Below w.heap.size w w' := by
  have HBS := hide hbs
  clear hbs
  have HR := hide (fun w' (hb : Below w.heap.size w w') => h.new hb)
  have KP := hide (fun m w' (hb : Below w.heap.size w w') hv hn0 hn1 => path_impl t A1 c1 A2 c2 A3 c3 m w' (unhide HR w' hb) hv hn0 hn1)
  have KH := has_impl t A1 c1 A2 c2 A3 c3 n
  simp only [trA] at KP KH ⊢
  have k0 : Blk (w.alloc (.cells #[.slice A1 t.base.length c1, .slice A2 t.blocks.length c2, .slice A3 t.before.length c3] 31)) w.heap.size 31 #[.slice A1 t.base.length c1, .slice A2 t.blocks.length c2, .slice A3 t.before.length c3] := Blk.new _ _ _
  have hb0 : Below w.heap.size w (w.alloc (.cells #[.slice A1 t.base.length c1, .slice A2 t.blocks.length c2, .slice A3 t.before.length c3] 31)) := (Below.refl _ _).alloc (Nat.le_refl _) _
  have hz0 : w.heap.size + 1 ≤ (w.alloc (.cells #[.slice A1 t.base.length c1, .slice A2 t.blocks.length c2, .slice A3 t.before.length c3] 31)).heap.size := by simp
  have KV := treeValid_impl t A1 c1 A2 c2 A3 c3 (w.alloc (.cells #[.slice A1 t.base.length c1, .slice A2 t.blocks.length c2, .slice A3 t.before.length c3] 31)) (unhide HR _ hb0) hb1 hb2 (unhide HBS) hb3
  simp only [trA] at KV
  have x0 : (w.alloc (.cells #[.slice A1 t.base.length c1, .slice A2 t.blocks.length c2, .slice A3 t.before.length c3] 31)).cell? ⟨w.heap.size, 0, none⟩ = some (.slice A1 t.base.length c1) := k0.cell 0
  have x1 : (w.alloc (.cells #[.slice A1 t.base.length c1, .slice A2 t.blocks.length c2, .slice A3 t.before.length c3] 31)).cell? ⟨w.heap.size, 1, none⟩ = some (.slice A2 t.blocks.length c2) := k0.cell 1
  have x2 : (w.alloc (.cells #[.slice A1 t.base.length c1, .slice A2 t.blocks.length c2, .slice A3 t.before.length c3] 31)).cell? ⟨w.heap.size, 2, none⟩ = some (.slice A3 t.before.length c3) := k0.cell 2
  clear h
  go_enter Tryz.func43, Tryz.ntmps43
  go_wp2_with fail
  refine KV.mono ?_
  rintro e w3 ⟨rfl, b3⟩
  replace k0 := k0.new_ b3
  have hw3 : w.heap.size + 1 ≤ w3.heap.size := Nat.le_trans hz0 b3.size
  replace hb0 := bthen hb0 b3
  clear KV x0 x1 x2 b3 hz0
  have x0 : w3.cell? ⟨w.heap.size, 0, none⟩ = some (.slice A1 t.base.length c1) := k0.cell 0
  have x1 : w3.cell? ⟨w.heap.size, 1, none⟩ = some (.slice A2 t.blocks.length c2) := k0.cell 1
  have x2 : w3.cell? ⟨w.heap.size, 2, none⟩ = some (.slice A3 t.before.length c3) := k0.cell 2
  cases hv : treeB t
  · have HA := hide (keptL_no (n := n) hv)
    go_wp2
    go_ret
    rw [unhide HA]
    exact ⟨none, 0, rfl, own_nil _ _ _ _, hb0⟩
  have HV := hide hv
  have hl14 := (treeB_yes hv).2.2.1
  clear hv
  cases hin : inB n 0 ((t.blocks.length : Int) - 1)
  · have HA := hide (keptL_no2 hin)
    go_wp2_with fail
    refine (KH w3 hb2).mono ?_
    rintro e w4 ⟨rfl, b4⟩
    rw [hin]
    replace hb0 := bthen hb0 b4
    go_wp2
    go_ret
    rw [unhide HA]
    exact ⟨none, 0, rfl, own_nil _ _ _ _, hb0⟩
  have HIN := hide hin
  have hib := inB_true.1 hin
  go_wp2_with fail
  refine (KH w3 hb2).mono ?_
  rintro e w4 ⟨rfl, b4⟩
  rw [hin]
  replace k0 := k0.new_ b4
  replace hw3 := Nat.le_trans hw3 b4.size
  replace hb0 := bthen hb0 b4
  have y1 : w4.cell? ⟨w.heap.size, 1, none⟩ = some (.slice A2 t.blocks.length c2) := k0.cell 1
  clear hin
  go_wp2
  go_loopw [5, 6, 19] (fun s _ i wr => ∃ (k : Nat) (A' : Option Addr) (c' : Nat) (ys : List Int), k ≤ t.blocks.length ∧ i = .int .i64 k ∧ s = .slice A' ys.length c' ∧ Hid (ys = keptGo t n k) ∧ ys.length ≤ 14 ∧ wr.ownsRow (w.heap.size + 1) 3 1 (.slice A' ys.length c') ys.length (ys.map (.int .i64)) ∧ Blk wr w.heap.size 31 #[.slice A1 t.base.length c1, .slice A2 t.blocks.length c2, .slice A3 t.before.length c3] ∧ w.heap.size + 1 ≤ wr.heap.size ∧ Below w.heap.size w wr) (fun _ _ i _ => t.blocks.length - (intOf i).toNat)
  case atStart => exact ⟨0, none, 0, [], Nat.zero_le _, rfl, rfl, hide rfl, by simp, own_nil _ _ _ _, k0, hw3, hb0⟩
  case round =>
    clear k0 hw3 hb0 x0 x1 x2 y1
    obtain ⟨k, A', c', ys, hk, rfl, rfl, HY, hyl, hown, kb, hwr, hB⟩ := hrel
    have z0 : wr.cell? ⟨w.heap.size, 0, none⟩ = some (.slice A1 t.base.length c1) := kb.cell 0
    have z1 : wr.cell? ⟨w.heap.size, 1, none⟩ = some (.slice A2 t.blocks.length c2) := kb.cell 1
    have z2 : wr.cell? ⟨w.heap.size, 2, none⟩ = some (.slice A3 t.before.length c3) := kb.cell 2
    by_cases hlt : k < t.blocks.length
    · have i1 : (k : Int) < (t.blocks.length : Int) := by omega
      have HKG := hide (show keptGo t n (k + 1) = if keepB t n k = true then ys ++ [(k : Int)] else ys by rw [keptGo, unhide HY])
      by_cases hm1 : (k : Int) ∈ pathT t n
      · have HM := hide (decide_eq_true hm1)
        have HKB := hide (show keepB t n k = true by simp [keepB, hm1])
        clear hm1
        go_wp2_with fail
        refine (unhide KP n wr hB (unhide HV) (by omega) (by omega)).mono ?_
        rintro e w4 ⟨AP, cp, rfl, oP, b4⟩
        have hpl := pathT_len t n
        have KC := containsI_any AP cp (pathT t n) (k : Int) w4 (own_rd oP) (by omega)
        go_wp2_with fail
        refine KC.mono ?_
        rintro e w' ⟨rfl, rfl⟩
        have hB4 := bthen hB b4
        have kb4 := kb.new_ b4
        have hs4 := b4.size
        have ow4 := own_new hown b4
        clear KC oP
        rw [unhide HM]
        go_wp2_with (at_builtin; refine wpList_app rfl (.tmp 34) (.tmp 36) 24 rfl el_int rfl (own_alloc ow4 _) rfl (rd_lit w4 [.int .i64 (k : Int)] _) rfl (one_ints [(k : Int)]) (by simp only [maxLen]; omega) (by omega) (by simp; omega) ?_; intro A8 c8 w8 o8 ch8 d8 _)
        have hrg := own_rng hown
        have kb8 := (kb4.alloc (.cells #[.int .i64 (k : Int)] 3)).chg ch8 (fun e => by have := hrg _ e; omega)
        have hB8 : Below w.heap.size w w8 := (hB4.alloc (by omega) _).trans (ch8.below (fun q hq e => by have := hrg q e; omega) (by simp; omega))
        have hs8 := ch8.size
        have hz8 : w.heap.size + 1 ≤ w8.heap.size := by simp at hs8; omega
        have HKN := hide (show ys ++ [(k : Int)] = keptGo t n (k + 1) by rw [unhide HKG, if_pos (unhide HKB)])
        have hln : (ys ++ [(k : Int)]).length ≤ 14 := by rw [unhide HKN]; have := keptGo_len t n (k + 1); omega
        go_roundw
        case rel => exact ⟨k + 1, A8, c8, ys ++ [(k : Int)], by omega, by go_num, by simp, HKN, hln, by simpa using o8, kb8, hz8, hB8⟩
        case measure => simp [intOf]; omega
      have HM := hide (decide_eq_false hm1)
      have HM1 := hide hm1
      clear hm1
      by_cases hm2 : n ∈ pathT t (k : Int)
      · have HM2 := hide (decide_eq_true hm2)
        have HKB := hide (show keepB t n k = true by
          have hm1 := unhide HM1
          simp [keepB, hm2])
        clear hm2
        go_wp2_with fail
        refine (unhide KP n wr hB (unhide HV) (by omega) (by omega)).mono ?_
        rintro e w4 ⟨AP, cp, rfl, oP, b4⟩
        have hpl := pathT_len t n
        have KC := containsI_any AP cp (pathT t n) (k : Int) w4 (own_rd oP) (by omega)
        go_wp2_with fail
        refine KC.mono ?_
        rintro e w' ⟨rfl, rfl⟩
        have hB4 := bthen hB b4
        have kb4 := kb.new_ b4
        have hs4 := b4.size
        have ow4 := own_new hown b4
        clear KC oP
        rw [unhide HM]
        have y0 : w4.cell? ⟨w.heap.size, 0, none⟩ = some (.slice A1 t.base.length c1) := kb4.cell 0
        have y1 : w4.cell? ⟨w.heap.size, 1, none⟩ = some (.slice A2 t.blocks.length c2) := kb4.cell 1
        have y2 : w4.cell? ⟨w.heap.size, 2, none⟩ = some (.slice A3 t.before.length c3) := kb4.cell 2
        go_wp2_with fail
        refine (unhide KP (k : Int) w4 hB4 (unhide HV) (by omega) (by omega)).mono ?_
        rintro e w5 ⟨AQ, cq, rfl, oQ, b5⟩
        have hpl2 := pathT_len t (k : Int)
        have KC := containsI_any AQ cq (pathT t (k : Int)) n w5 (own_rd oQ) (by omega)
        go_wp2_with fail
        refine KC.mono ?_
        rintro e w' ⟨rfl, rfl⟩
        clear KC oQ
        have hB5 := bthen hB4 b5
        have kb5 := kb4.new_ b5
        have hs5 := b5.size
        have ow5 := own_new ow4 b5
        rw [unhide HM2]
        go_wp2_with (at_builtin; refine wpList_app rfl (.tmp 34) (.tmp 36) 24 rfl el_int rfl (own_alloc ow5 _) rfl (rd_lit w5 [.int .i64 (k : Int)] _) rfl (one_ints [(k : Int)]) (by simp only [maxLen]; omega) (by omega) (by simp; omega) ?_; intro A8 c8 w8 o8 ch8 d8 _)
        have hrg := own_rng hown
        have kb8 := (kb5.alloc (.cells #[.int .i64 (k : Int)] 3)).chg ch8 (fun e => by have := hrg _ e; omega)
        have hB8 : Below w.heap.size w w8 := (hB5.alloc (by omega) _).trans (ch8.below (fun q hq e => by have := hrg q e; omega) (by simp; omega))
        have hs8 := ch8.size
        have hz8 : w.heap.size + 1 ≤ w8.heap.size := by simp at hs8; omega
        have HKN := hide (show ys ++ [(k : Int)] = keptGo t n (k + 1) by rw [unhide HKG, if_pos (unhide HKB)])
        have hln : (ys ++ [(k : Int)]).length ≤ 14 := by rw [unhide HKN]; have := keptGo_len t n (k + 1); omega
        go_roundw
        case rel => exact ⟨k + 1, A8, c8, ys ++ [(k : Int)], by omega, by go_num, by simp, HKN, hln, by simpa using o8, kb8, hz8, hB8⟩
        case measure => simp [intOf]; omega
      · have HM2 := hide (decide_eq_false hm2)
        have HKN := hide (show ys = keptGo t n (k + 1) by
          have hm1 := unhide HM1
          rw [unhide HKG, if_neg (by simp [keepB, hm1, hm2])])
        clear hm2
        go_wp2_with fail
        refine (unhide KP n wr hB (unhide HV) (by omega) (by omega)).mono ?_
        rintro e w4 ⟨AP, cp, rfl, oP, b4⟩
        have hpl := pathT_len t n
        have KC := containsI_any AP cp (pathT t n) (k : Int) w4 (own_rd oP) (by omega)
        go_wp2_with fail
        refine KC.mono ?_
        rintro e w' ⟨rfl, rfl⟩
        have hB4 := bthen hB b4
        have kb4 := kb.new_ b4
        have hs4 := b4.size
        have ow4 := own_new hown b4
        clear KC oP
        rw [unhide HM]
        have y0 : w4.cell? ⟨w.heap.size, 0, none⟩ = some (.slice A1 t.base.length c1) := kb4.cell 0
        have y1 : w4.cell? ⟨w.heap.size, 1, none⟩ = some (.slice A2 t.blocks.length c2) := kb4.cell 1
        have y2 : w4.cell? ⟨w.heap.size, 2, none⟩ = some (.slice A3 t.before.length c3) := kb4.cell 2
        go_wp2_with fail
        refine (unhide KP (k : Int) w4 hB4 (unhide HV) (by omega) (by omega)).mono ?_
        rintro e w5 ⟨AQ, cq, rfl, oQ, b5⟩
        have hpl2 := pathT_len t (k : Int)
        have KC := containsI_any AQ cq (pathT t (k : Int)) n w5 (own_rd oQ) (by omega)
        go_wp2_with fail
        refine KC.mono ?_
        rintro e w' ⟨rfl, rfl⟩
        clear KC oQ
        have hB5 := bthen hB4 b5
        have kb5 := kb4.new_ b5
        have hs5 := b5.size
        have ow5 := own_new ow4 b5
        rw [unhide HM2]
        go_wp2
        go_roundw
        case rel => exact ⟨k + 1, A', c', ys, by omega, by go_num, rfl, HKN, hyl, ow5, kb5, by omega, hB5⟩
        case measure => simp [intOf]; omega
    · obtain rfl : k = t.blocks.length := by omega
      have HA := hide (show keptL t n = ys by rw [keptL_yes (unhide HV) (unhide HIN), unhide HY])
      go_wp2
      go_ret
      rw [unhide HA]
      exact ⟨A', c', rfl, own_base hown (by omega), hB⟩
set_option maxRecDepth 100000 in
set_option maxHeartbeats 8000000 in
theorem kept_spec (t : Tr) (A1 : Option Addr) (c1 : Nat) (A2 : Option Addr) (c2 : Nat) (A3 : Option Addr) (c3 : Nat) (n : Int) (w : World) (h : TrR w t A1 A2 A3) (hb1 : t.base.length ≤ 1099511627776) (hb2 : t.blocks.length ≤ 1099511627776) (hbs : ∀ x ∈ t.blocks, x.list.length ≤ 1099511627776) (hb3 : t.before.length ≤ 1099511627776) :
    Calls Tryz.prog 36 #[.agg (trA t A1 c1 A2 c2 A3 c3), .int .i64 n] w fun e w' => ∃ A' c', e = .returned (.slice A' (keptL t n).length c') ∧ w'.ownsRow w.heap.size 3 1 (.slice A' (keptL t n).length c') (keptL t n).length ((keptL t n).map (.int .i64)) ∧ Below w.heap.size w w' := by
  have HBS := hide hbs
  clear hbs
  have HR := hide (fun w' (hb : Below w.heap.size w w') => h.new hb)
  have KP := hide (fun a b w' (hb : Below w.heap.size w w') => isBefore_spec t A1 c1 A2 c2 A3 c3 a b w' (unhide HR w' hb) hb1 hb2 (unhide HBS) hb3)
  simp only [trA] at KP ⊢
  have k0 : Blk ((w.alloc (.cells #[.slice A1 t.base.length c1, .slice A2 t.blocks.length c2, .slice A3 t.before.length c3] 31)).alloc (.cells #[] 3)) w.heap.size 31 #[.slice A1 t.base.length c1, .slice A2 t.blocks.length c2, .slice A3 t.before.length c3] := (Blk.new _ _ _).alloc _
  have hb0 : Below w.heap.size w ((w.alloc (.cells #[.slice A1 t.base.length c1, .slice A2 t.blocks.length c2, .slice A3 t.before.length c3] 31)).alloc (.cells #[] 3)) := ((Below.refl _ _).alloc (Nat.le_refl _) _).alloc (by simp) _
  have hz0 : w.heap.size + 1 ≤ ((w.alloc (.cells #[.slice A1 t.base.length c1, .slice A2 t.blocks.length c2, .slice A3 t.before.length c3] 31)).alloc (.cells #[] 3)).heap.size := by simp
  have KV := treeValid_spec t A1 c1 A2 c2 A3 c3 ((w.alloc (.cells #[.slice A1 t.base.length c1, .slice A2 t.blocks.length c2, .slice A3 t.before.length c3] 31)).alloc (.cells #[] 3)) (unhide HR _ hb0) hb1 hb2 (unhide HBS) hb3
  simp only [trA] at KV
  have oe : ((w.alloc (.cells #[.slice A1 t.base.length c1, .slice A2 t.blocks.length c2, .slice A3 t.before.length c3] 31)).alloc (.cells #[] 3)).ownsRow (w.heap.size + 1) 3 1 (.slice (some ⟨w.heap.size + 1, 0, none⟩) 0 0) 0 [] := by
    have := own_made (base := w.heap.size + 1) (e := 3) (size := 1) (w.alloc (.cells #[.slice A1 t.base.length c1, .slice A2 t.blocks.length c2, .slice A3 t.before.length c3] 31)) #[] 0 (by simp) (by simp [maxLen]) rfl
    simpa using this
  have x0 : ((w.alloc (.cells #[.slice A1 t.base.length c1, .slice A2 t.blocks.length c2, .slice A3 t.before.length c3] 31)).alloc (.cells #[] 3)).cell? ⟨w.heap.size, 0, none⟩ = some (.slice A1 t.base.length c1) := k0.cell 0
  have x1 : ((w.alloc (.cells #[.slice A1 t.base.length c1, .slice A2 t.blocks.length c2, .slice A3 t.before.length c3] 31)).alloc (.cells #[] 3)).cell? ⟨w.heap.size, 1, none⟩ = some (.slice A2 t.blocks.length c2) := k0.cell 1
  have x2 : ((w.alloc (.cells #[.slice A1 t.base.length c1, .slice A2 t.blocks.length c2, .slice A3 t.before.length c3] 31)).alloc (.cells #[] 3)).cell? ⟨w.heap.size, 2, none⟩ = some (.slice A3 t.before.length c3) := k0.cell 2
  clear h
  go_enter Tryz.func36, Tryz.ntmps36
  go_wp2_with fail
  refine KV.mono ?_
  rintro e w3 ⟨rfl, b3⟩
  replace k0 := k0.new_ b3
  have hw3 : w.heap.size + 1 ≤ w3.heap.size := Nat.le_trans hz0 b3.size
  replace hb0 := bthen hb0 b3
  replace oe := own_new oe b3
  clear KV x0 x1 x2 b3 hz0
  have x0 : w3.cell? ⟨w.heap.size, 0, none⟩ = some (.slice A1 t.base.length c1) := k0.cell 0
  have x1 : w3.cell? ⟨w.heap.size, 1, none⟩ = some (.slice A2 t.blocks.length c2) := k0.cell 1
  have x2 : w3.cell? ⟨w.heap.size, 2, none⟩ = some (.slice A3 t.before.length c3) := k0.cell 2
  cases hv : treeB t
  · have HA := hide (keptL_no (n := n) hv)
    go_wp2
    go_ret
    rw [unhide HA]
    exact ⟨_, _, rfl, own_base oe (by omega), hb0⟩
  have HV := hide hv
  have hl14 := (treeB_yes hv).2.2.1
  clear hv
  cases hin : inB n 0 ((t.blocks.length : Int) - 1)
  · have HA := hide (keptL_no2 hin)
    go_wp2_with (go_at_call 52; refine (l1In_any _ _ _ _).mono ?_; rintro e w' ⟨rfl, rfl⟩; rw [hin])
    go_ret
    rw [unhide HA]
    exact ⟨_, _, rfl, own_base oe (by omega), hb0⟩
  have HIN := hide hin
  have hib := inB_true.1 hin
  go_wp2_with (go_at_call 52; refine (l1In_any _ _ _ _).mono ?_; rintro e w' ⟨rfl, rfl⟩; rw [hin])
  clear hin
  go_loopw [5, 6] (fun s i wr => ∃ (k : Nat) (A' : Option Addr) (c' : Nat) (ys : List Int), k ≤ t.blocks.length ∧ i = .int .i64 k ∧ s = .slice A' ys.length c' ∧ Hid (ys = keptGo t n k) ∧ ys.length ≤ 14 ∧ wr.ownsRow (w.heap.size + 1) 3 1 (.slice A' ys.length c') ys.length (ys.map (.int .i64)) ∧ Blk wr w.heap.size 31 #[.slice A1 t.base.length c1, .slice A2 t.blocks.length c2, .slice A3 t.before.length c3] ∧ w.heap.size + 1 ≤ wr.heap.size ∧ Below w.heap.size w wr) (fun _ i _ => t.blocks.length - (intOf i).toNat)
  case atStart => exact ⟨0, _, _, [], Nat.zero_le _, rfl, rfl, hide rfl, by simp, by simpa using oe, k0, hw3, hb0⟩
  case round =>
    clear k0 hw3 hb0 x0 x1 x2 oe
    obtain ⟨k, A', c', ys, hk, rfl, rfl, HY, hyl, hown, kb, hwr, hB⟩ := hrel
    have z0 : wr.cell? ⟨w.heap.size, 0, none⟩ = some (.slice A1 t.base.length c1) := kb.cell 0
    have z1 : wr.cell? ⟨w.heap.size, 1, none⟩ = some (.slice A2 t.blocks.length c2) := kb.cell 1
    have z2 : wr.cell? ⟨w.heap.size, 2, none⟩ = some (.slice A3 t.before.length c3) := kb.cell 2
    by_cases hlt : k < t.blocks.length
    · have i1 : (k : Int) < (t.blocks.length : Int) := by omega
      have HKG := hide (show keptGo t n (k + 1) = if keepB t n k = true then ys ++ [(k : Int)] else ys by rw [keptGo, unhide HY])
      by_cases hm1 : (k : Int) ∈ pathS t n
      · have HM := hide (decide_eq_true hm1)
        have HKB := hide (show keepB t n k = true by rw [show pathS t n = pathT t n by unfold pathS; rw [if_pos (unhide HV)]] at hm1; simp [keepB, hm1])
        clear hm1
        go_wp2_with fail
        refine (unhide KP (k : Int) n wr hB).mono ?_
        rintro e w4 ⟨rfl, b4⟩
        have hB4 := bthen hB b4
        have kb4 := kb.new_ b4
        have hs4 := b4.size
        have ow4 := own_new hown b4
        rw [unhide HM]
        go_wp2_with (at_builtin; refine wpList_app rfl (.tmp 38) (.tmp 40) 24 rfl el_int rfl (own_alloc ow4 _) rfl (rd_lit w4 [.int .i64 (k : Int)] _) rfl (one_ints [(k : Int)]) (by simp only [maxLen]; omega) (by omega) (by simp; omega) ?_; intro A8 c8 w8 o8 ch8 d8 _)
        have hrg := own_rng hown
        have kb8 := (kb4.alloc (.cells #[.int .i64 (k : Int)] 3)).chg ch8 (fun e => by have := hrg _ e; omega)
        have hB8 : Below w.heap.size w w8 := (hB4.alloc (by omega) _).trans (ch8.below (fun q hq e => by have := hrg q e; omega) (by simp; omega))
        have hs8 := ch8.size
        have hz8 : w.heap.size + 1 ≤ w8.heap.size := by simp at hs8; omega
        have HKN := hide (show ys ++ [(k : Int)] = keptGo t n (k + 1) by rw [unhide HKG, if_pos (unhide HKB)])
        have hln : (ys ++ [(k : Int)]).length ≤ 14 := by rw [unhide HKN]; have := keptGo_len t n (k + 1); omega
        go_roundw
        case rel => exact ⟨k + 1, A8, c8, ys ++ [(k : Int)], by omega, by go_num, by simp, HKN, hln, by simpa using o8, kb8, hz8, hB8⟩
        case measure => simp [intOf]; omega
      have HM := hide (decide_eq_false hm1)
      have HM1 := hide hm1
      clear hm1
      by_cases hm2 : n ∈ pathS t (k : Int)
      · have HM2 := hide (decide_eq_true hm2)
        have HKB := hide (show keepB t n k = true by
          have e1 : pathS t n = pathT t n := by unfold pathS; rw [if_pos (unhide HV)]
          have e2 : pathS t (k : Int) = pathT t (k : Int) := by unfold pathS; rw [if_pos (unhide HV)]
          have hm1 := unhide HM1
          rw [e1] at hm1
          rw [e2] at hm2
          simp [keepB, hm2])
        clear hm2
        go_wp2_with fail
        refine (unhide KP (k : Int) n wr hB).mono ?_
        rintro e w4 ⟨rfl, b4⟩
        have hB4 := bthen hB b4
        have kb4 := kb.new_ b4
        have hs4 := b4.size
        have ow4 := own_new hown b4
        rw [unhide HM]
        have y0 : w4.cell? ⟨w.heap.size, 0, none⟩ = some (.slice A1 t.base.length c1) := kb4.cell 0
        have y1 : w4.cell? ⟨w.heap.size, 1, none⟩ = some (.slice A2 t.blocks.length c2) := kb4.cell 1
        have y2 : w4.cell? ⟨w.heap.size, 2, none⟩ = some (.slice A3 t.before.length c3) := kb4.cell 2
        go_wp2_with fail
        refine (unhide KP n (k : Int) w4 hB4).mono ?_
        rintro e w5 ⟨rfl, b5⟩
        have hB5 := bthen hB4 b5
        have kb5 := kb4.new_ b5
        have hs5 := b5.size
        have ow5 := own_new ow4 b5
        rw [unhide HM2]
        go_wp2_with (at_builtin; refine wpList_app rfl (.tmp 38) (.tmp 40) 24 rfl el_int rfl (own_alloc ow5 _) rfl (rd_lit w5 [.int .i64 (k : Int)] _) rfl (one_ints [(k : Int)]) (by simp only [maxLen]; omega) (by omega) (by simp; omega) ?_; intro A8 c8 w8 o8 ch8 d8 _)
        have hrg := own_rng hown
        have kb8 := (kb5.alloc (.cells #[.int .i64 (k : Int)] 3)).chg ch8 (fun e => by have := hrg _ e; omega)
        have hB8 : Below w.heap.size w w8 := (hB5.alloc (by omega) _).trans (ch8.below (fun q hq e => by have := hrg q e; omega) (by simp; omega))
        have hs8 := ch8.size
        have hz8 : w.heap.size + 1 ≤ w8.heap.size := by simp at hs8; omega
        have HKN := hide (show ys ++ [(k : Int)] = keptGo t n (k + 1) by rw [unhide HKG, if_pos (unhide HKB)])
        have hln : (ys ++ [(k : Int)]).length ≤ 14 := by rw [unhide HKN]; have := keptGo_len t n (k + 1); omega
        go_roundw
        case rel => exact ⟨k + 1, A8, c8, ys ++ [(k : Int)], by omega, by go_num, by simp, HKN, hln, by simpa using o8, kb8, hz8, hB8⟩
        case measure => simp [intOf]; omega
      · have HM2 := hide (decide_eq_false hm2)
        have HKN := hide (show ys = keptGo t n (k + 1) by
          have e1 : pathS t n = pathT t n := by unfold pathS; rw [if_pos (unhide HV)]
          have e2 : pathS t (k : Int) = pathT t (k : Int) := by unfold pathS; rw [if_pos (unhide HV)]
          have hm1 := unhide HM1
          rw [e1] at hm1
          rw [e2] at hm2
          rw [unhide HKG, if_neg (by simp [keepB, hm1, hm2])])
        clear hm2
        go_wp2_with fail
        refine (unhide KP (k : Int) n wr hB).mono ?_
        rintro e w4 ⟨rfl, b4⟩
        have hB4 := bthen hB b4
        have kb4 := kb.new_ b4
        have hs4 := b4.size
        have ow4 := own_new hown b4
        rw [unhide HM]
        have y0 : w4.cell? ⟨w.heap.size, 0, none⟩ = some (.slice A1 t.base.length c1) := kb4.cell 0
        have y1 : w4.cell? ⟨w.heap.size, 1, none⟩ = some (.slice A2 t.blocks.length c2) := kb4.cell 1
        have y2 : w4.cell? ⟨w.heap.size, 2, none⟩ = some (.slice A3 t.before.length c3) := kb4.cell 2
        go_wp2_with fail
        refine (unhide KP n (k : Int) w4 hB4).mono ?_
        rintro e w5 ⟨rfl, b5⟩
        have hB5 := bthen hB4 b5
        have kb5 := kb4.new_ b5
        have hs5 := b5.size
        have ow5 := own_new ow4 b5
        rw [unhide HM2]
        go_wp2
        go_roundw
        case rel => exact ⟨k + 1, A', c', ys, by omega, by go_num, rfl, HKN, hyl, ow5, kb5, by omega, hB5⟩
        case measure => simp [intOf]; omega
    · obtain rfl : k = t.blocks.length := by omega
      have HA := hide (show keptL t n = ys by rw [keptL_yes (unhide HV) (unhide HIN), unhide HY])
      go_wp2
      go_ret
      rw [unhide HA]
      exact ⟨A', c', rfl, own_base hown (by omega), hB⟩
end Go.Proofs.YtmpdopjailomlaaGreat
namespace Go.Proofs.YtmpdopjailomlaaGreat
open Go.RowKit
set_option linter.unusedVariables false
set_option linter.unusedSimpArgs false

theorem run_app0 {P : Program} {w : World} {t e ty : TypeId} {size bytes base m c2 : Nat} {A A2 : Option Addr} {news : List Value} (hel : El P t e size bytes)
    (hown : w.ownsRow base e size (.slice A 0 0) 0 []) (hr : Rd w A2 news) (hl : news.length = m * size) (h1 : ∀ u ∈ news, u.oneCell' = true)
    (h63 : m ≤ maxLen) (hbytes : m * bytes ≤ 140737488355328) (hbase : base ≤ w.heap.size) :
    ∃ A' c' w', (Builtin.append_ #[t, t] ty #[.slice A 0 0, .slice A2 m c2]).run P w = .ok (.slice A' m c') w' ∧ w'.ownsRow base e size (.slice A' m c') m news ∧ Below w.heap.size w w' := by
  obtain ⟨ht, i, z, hi, hz, rfl, rfl, hzs, hsz⟩ := hel
  have hcells : ∀ ad, A2 = some ad → ∀ j u, news[j]? = some u → w.cell? (ad.add j) = some u := by
    intro ad hA j u hu
    obtain ⟨b, off, hA', hb, hc⟩ := hr (by have := (List.getElem?_eq_some_iff.1 hu).1; omega)
    rw [hA'] at hA
    injection hA with hA
    subst hA
    rw [plain_add]
    exact hc j u hu
  rcases Nat.eq_zero_or_pos m with h0 | h0
  · subst h0
    have hn : news = [] := List.eq_nil_of_length_eq_zero (by simpa using hl)
    subst hn
    refine ⟨A, 0, w, ?_, hown, Below.refl _ _⟩
    have hload : ∀ (a : Addr), (loadCells a 0).run P w = .ok #[] w := fun a => by simp [loadCells, loadCellsFrom]
    rcases hown.2 with ⟨hv, _⟩ | ⟨g, cap, cur, hv, hb, hg, hnc, hm, hsz2, htk⟩
    · injection hv with e1 e2 e3
      subst e1
      cases A2 <;> simp [Builtin.append_, run_underlying ht, sizeOf, typeInfo, hi, Builtin.lenOf, Builtin.firstCells, hload]
    · injection hv with e1 e2 e3
      subst e1
      subst e3
      cases A2 <;> simp [Builtin.append_, run_underlying ht, sizeOf, typeInfo, hi, Builtin.lenOf, Builtin.firstCells, hload, hnc, storeCells]
  · have hnl : 0 < news.length := by rw [hl]; exact Nat.mul_pos h0 hsz
    obtain ⟨b, off, rfl, hb, hc⟩ := hr hnl
    have hnews := hcells _ rfl
    have hsmall : 0 + m ≤ 9223372036854775807 := by simp only [maxLen] at h63; omega
    rcases hown.2 with ⟨hv, _⟩ | ⟨g, cap, cur, hv, hbg, hg, hnc, hcm, hcs, htake⟩
    · injection hv with e1 e2 e3
      subst e1
      have hrun := run_append_nil (P := P) w t ty e i z ht hi hz ⟨b, off, none⟩ m c2 news hl hnews h0 (by omega) (by omega)
      have hge := grownCap_ge w m 0 e
      have hcm := grownCap_le_maxLen w m 0 e (by omega)
      have hbel : Below w.heap.size w (w.drew.alloc (.cells (news.toArray ++ Builtin.zeroCells z.cells (grownCap w m 0 e - m)) e)) := (Below.refl _ _).drew.alloc (Nat.le_refl _) _
      refine ⟨_, _, _, hrun, ?_, hbel⟩
      have := own_front (w := w) (base := base) (e := e) (rest := Builtin.zeroCells z.cells (grownCap w m 0 e - m)) hbase hl hge hcm (by rw [size_zeroCells, hzs])
      simpa using this
    · injection hv with e1 e2 e3
      subst e1
      subst e3
      have hrun := run_append_grow (P := P) w t ty e i z ht hi hz ⟨g, 0, none⟩ 0 0 [] (by simp) (fun j u hu => by simp at hu) ⟨b, off, none⟩ m c2 news hl hnews (by omega) (by omega) (growslice_fits (by omega) (by rw [Nat.zero_add]; exact hbytes))
      have hge := grownCap_ge w (0 + m) 0 e
      have hcm := grownCap_le_maxLen w (0 + m) 0 e (by omega)
      have hbel : Below w.heap.size w (w.drew.alloc (.cells (([] : List Value).toArray ++ news.toArray ++ Builtin.zeroCells z.cells (grownCap w (0 + m) 0 e - (0 + m))) e)) := (Below.refl _ _).drew.alloc (Nat.le_refl _) _
      rw [Nat.zero_add] at hrun hge hcm hbel
      refine ⟨_, _, _, hrun, ?_, hbel⟩
      have := own_front (w := w) (base := base) (e := e) (rest := Builtin.zeroCells z.cells (grownCap w m 0 e - m)) hbase hl hge hcm (by rw [size_zeroCells, hzs])
      simpa using this
theorem wpList_app0 {P : Program} {w : World} {ops : Array Oper} {rest : List Oper} {o : Oper} {a : Go.Act} {Q : Exit → Go.Act → World → Prop} (hgd : o.guard = none) (s x : Operand) (t : TypeId)
    (ho : o.op = .call { callee := .builtin .append, args := #[s, x], argTypes := #[t, t] })
    {e : TypeId} {size bytes base m c2 : Nat} {A A2 : Option Addr} {news : List Value} (hel : El P t e size bytes) (hs : a.eval s = .slice A 0 0)
    (hown : w.ownsRow base e size (.slice A 0 0) 0 []) (hx : a.eval x = .slice A2 m c2) (hr : Rd w A2 news) (hl : news.length = m * size) (h1 : ∀ u ∈ news, u.oneCell' = true)
    (h63 : m ≤ maxLen) (hbytes : m * bytes ≤ 140737488355328) (hbase : base ≤ w.heap.size)
    (h : ∀ A' c' w', w'.ownsRow base e size (.slice A' m c') m news → Below w.heap.size w w' → wpList P ops Q rest (a.put o.dst (.slice A' m c')) w') : wpList P ops Q (o :: rest) a w :=
  wpList_plain hgd fun _ hK => by
    obtain ⟨A', c', w', hrun, h2, h3⟩ := run_app0 (P := P) (ty := o.type) (c2 := c2) hel hown hr hl h1 h63 hbytes hbase
    unfold Oper.wp execOp
    simp only [ho, resolve, invoke, builtin, Sem.run_bind, Sem.run_pure, Result.andThen_ok, List.map_toArray, List.map_cons, List.map_nil, hs, hx, hrun]
    exact hK _ _ (h A' c' w' h2 h3)
/-- rows of two kinds lie apart -/
theorem own_ne {w : World} {b1 b2 : Nat} {e1 e2 : TypeId} {s1 s2 n1 n2 c1 c2 : Nat} {A1 A2 : Option Addr} {xs ys : List Value} (h1 : w.ownsRow b1 e1 s1 (.slice A1 n1 c1) n1 xs) (h2 : w.ownsRow b2 e2 s2 (.slice A2 n2 c2) n2 ys) (he : e1 ≠ e2) : ∀ q, A1 = some ⟨q, 0, none⟩ → A2 ≠ some ⟨q, 0, none⟩ := by
  intro q hq1 hq2
  rcases h1.2 with ⟨hv, _⟩ | ⟨g, cap, cur, hv, _, hh, _⟩
  · injection hv with hv; rw [hq1] at hv; cases hv
  rcases h2.2 with ⟨hv2, _⟩ | ⟨g2, cap2, cur2, hv2, _, hh2, _⟩
  · injection hv2 with hv2; rw [hq2] at hv2; cases hv2
  injection hv with hv
  injection hv2 with hv2
  rw [hq1] at hv
  rw [hq2] at hv2
  injection hv with hv
  injection hv2 with hv2
  injection hv with hv
  injection hv2 with hv2
  subst hv
  subst hv2
  rw [hh] at hh2
  injection hh2 with hh2
  injection hh2 with _ h3 _
  exact he h3
end Go.Proofs.YtmpdopjailomlaaGreat
namespace Go.Proofs.YtmpdopjailomlaaGreat
open Go.RowKit
set_option linter.unusedVariables false
set_option linter.unusedSimpArgs false

def eOwn (e : TypeId) (s B : Nat) (v : Value) (w : World) : Prop := ∃ A, v = .slice A 0 0 ∧ w.ownsRow B e s (.slice A 0 0) 0 []
theorem sb_eOwn (e : TypeId) (s B : Nat) : StB (eOwn e s B) := fun _ _ _ hb ⟨A, h1, h2⟩ => ⟨A, h1, own_new h2 hb⟩
def iOwn (B : Nat) (ys : List Int) (v : Value) (w : World) : Prop := ∃ A c, v = .slice A ys.length c ∧ w.ownsRow B 3 1 (.slice A ys.length c) ys.length (ys.map (.int .i64))
theorem sb_iOwn (B : Nat) (ys : List Int) : StB (iOwn B ys) := fun _ _ _ hb ⟨A, c, h1, h2⟩ => ⟨A, c, h1, own_new h2 hb⟩
def baseT (B : Nat) (t : Tr) (v : Value) (w : World) : Prop := ∃ A c A' c', v = .agg #[.slice A t.base.length c, .slice none 0 0, .slice A' t.before.length c'] ∧ w.ownsRow B 99 2 (.slice A t.base.length c) t.base.length (t.base.flatMap encE) ∧ w.ownsRow B 3 1 (.slice A' t.before.length c') t.before.length (t.before.map (.int .i64))
theorem sb_baseT (B : Nat) (t : Tr) : StB (baseT B t) := fun _ _ _ hb ⟨A, c, A', c', h1, h2, h3⟩ => ⟨A, c, A', c', h1, own_new h2 hb, own_new h3 hb⟩
def newBox (B : Nat) (t : TypeId) (z : Array Value) (v : Value) (w : World) : Prop := ∃ g, v = .pointer (some ⟨g, 0, none⟩) ∧ B ≤ g ∧ Blk w g t z
theorem sb_newBox (B : Nat) (t : TypeId) (z : Array Value) : StB (newBox B t z) := fun _ _ _ hb ⟨g, h1, h2, h3⟩ => ⟨g, h1, h2, h3.new_ hb⟩
theorem bthen' {B1 B2 : Nat} {a b c : World} (h1 : Below B1 a b) (h2 : Below B2 b c) (h : B1 ≤ B2 := by omega) : Below B1 a c := h1.trans ⟨h2.os, h2.tape, h2.output, h2.size, fun q hq => h2.block q (Nat.lt_of_lt_of_le hq h)⟩
theorem ne_ei : (99 : TypeId) ≠ 3 := by decide
theorem ne_et : (99 : TypeId) ≠ 31 := by decide
theorem ne_it : (3 : TypeId) ≠ 31 := by decide
theorem one_ia (xs : List Int) : ∀ u ∈ xs.map (Value.int .i64), u.oneCell' = true := fun u hu => by
  obtain ⟨z, _, rfl⟩ := List.mem_map.1 hu
  rfl
theorem sl3_one (A B C : Option Addr) (n m k c d e : Nat) : (#[Value.slice A n c, .slice B m d, .slice C k e]).all (·.oneCell') = true := by
  rw [Array.all_eq_true_iff_forall_mem]
  intro x hx
  simp at hx
  rcases hx with rfl | rfl | rfl <;> rfl
theorem bkV_one (x : Bk) (A : Option Addr) (c : Nat) : ∀ u ∈ bkV x A c, u.oneCell' = true := by
  intro u hu
  simp [bkV] at hu
  rcases hu with rfl | rfl | rfl | rfl | rfl | rfl <;> rfl
theorem bk6_one (a b c : Int) (A : Option Addr) (n k : Nat) (d e : Int) : (#[Value.int .i64 a, .int .i64 b, .int .i64 c, .slice A n k, .int .i64 d, .int .i64 e]).all (·.oneCell') = true := by
  rw [Array.all_eq_true_iff_forall_mem]
  intro x hx
  simp at hx
  rcases hx with rfl | rfl | rfl | rfl | rfl | rfl <;> rfl
theorem len_acts (al : List Act) : (al.flatMap encA).length = al.length * 4 := by
  induction al with
  | nil => rfl
  | cons e es ih => rw [List.flatMap_cons, List.length_append, ih, List.length_cons]; simp [encA]; omega
theorem one_acts2 (al : List Act) : ∀ u ∈ al.flatMap encA, u.oneCell' = true := by
  intro u hu
  obtain ⟨e, _, h⟩ := List.mem_flatMap.1 hu
  simp [encA] at h
  rcases h with rfl | rfl | rfl | rfl <;> rfl
theorem info_actz : (Tryz.prog.info? 134).map (fun i => (i.zero, i.size, i.bytes)) = some (some (.agg #[.int .i64 0, .int .i64 0, .int .i64 0, .int .i64 0]), 4, 32) := by kernel_rfl
theorem el_actz : El Tryz.prog 67 134 4 32 := El.mk_ Tryz.underlying67 info_actz rfl (by omega)
set_option maxRecDepth 100000 in
set_option maxHeartbeats 8000000 in
theorem copy_spec (t : Tr) (A1 : Option Addr) (c1 : Nat) (A2 : Option Addr) (c2 : Nat) (A3 : Option Addr) (c3 : Nat) (w : World) (h : TrR w t A1 A2 A3) (hb1 : t.base.length ≤ 1099511627776) (hb2 : t.blocks.length ≤ 1099511627776) (hbs : ∀ x ∈ t.blocks, x.list.length ≤ 1099511627776) (hb3 : t.before.length ≤ 1099511627776) :
    Calls Tryz.prog 37 #[.agg (trA t A1 c1 A2 c2 A3 c3)] w fun e w' => ∃ B1 d1 B2 d2 B3 d3 fp, e = .returned (.agg (trA t B1 d1 B2 d2 B3 d3)) ∧ TrO w' w.heap.size t B1 d1 B2 d2 B3 d3 fp ∧ Below w.heap.size w w' := by
  have HBS := hide hbs
  clear hbs
  obtain ⟨W, hW⟩ : ∃ W : World, W = (w.alloc (.cells (trA t A1 c1 A2 c2 A3 c3) 31)).alloc (.cells #[.slice none 0 0, .slice none 0 0, .slice none 0 0] 31) := ⟨_, rfl⟩
  have hb0 : Below w.heap.size w W := by rw [hW]; exact ((Below.refl _ _).alloc (Nat.le_refl _) _).alloc (by simp) _
  have K0 : Blk W w.heap.size 31 (trA t A1 c1 A2 c2 A3 c3) := by rw [hW]; exact (Blk.new _ _ _).alloc _
  have K1 : Blk W (w.heap.size + 1) 31 #[.slice none 0 0, .slice none 0 0, .slice none 0 0] := by
    rw [hW]
    have := Blk.new (w.alloc (.cells (trA t A1 c1 A2 c2 A3 c3) 31)) 31 #[.slice none 0 0, .slice none 0 0, .slice none 0 0]
    simpa using this
  have hW1 := K1.lt
  simp only [trA] at K0 hW ⊢
  have HX := hide (fun (w' : World) (hb : Below W.heap.size W w') => show w'.cell? ⟨w.heap.size, 0, none⟩ = some (.slice A1 t.base.length c1) ∧ w'.cell? ⟨w.heap.size, 1, none⟩ = some (.slice A2 t.blocks.length c2) ∧ w'.cell? ⟨w.heap.size, 2, none⟩ = some (.slice A3 t.before.length c3) ∧ TrR w' t A1 A2 A3 from ⟨(K0.new_ hb).cell 0, (K0.new_ hb).cell 1, (K0.new_ hb).cell 2, h.new (bthen hb0 hb)⟩)
  have HK1 := hide (fun (w' : World) (hb : Below W.heap.size W w') => K1.new_ hb)
  clear h K0 K1
  go_enter Tryz.func37, Tryz.ntmps37
  go_wp2
  rw [← hW]
  have hF : StBL [eOwn 99 2 W.heap.size, bV (.pointer (some ⟨w.heap.size, 0, none⟩)), bV (.slice A1 t.base.length c1), sOwn W.heap.size t.base, eOwn 3 1 W.heap.size, bV (.pointer (some ⟨w.heap.size, 2, none⟩)), bV (.slice A3 t.before.length c3), iOwn W.heap.size t.before, baseT W.heap.size t, newBox W.heap.size 31 #[.slice none 0 0, .slice none 0 0, .slice none 0 0]] :=
    ⟨sb_eOwn _ _ _, sb_V _, sb_V _, sb_Own _ _, sb_eOwn _ _ _, sb_V _, sb_V _, sb_iOwn _ _, sb_baseT _ _, sb_newBox _ _ _, trivial⟩
  go_upto_region 1 with fail
  refine wp_region_loc (by kernel_rfl) [(0, some 6), (1, some 7), (2, some 8), (3, some 9), (4, some 10), (5, some 11), (6, some 12), (7, some 13), (8, some 14), (9, some 3)] [[], [], [(1, some 7)], [(0, some 6), (2, some 8)], [], [], [(5, some 11)], [(4, some 10), (6, some 12)], [(3, some 9), (7, some 13)], []] (by kernel_rfl)
    (locB _) (fun a b => Below a.heap.size a b) noR [0, 0, 0, 0, 0, 0, 0, 0, 0, 0] 0 (by kernel_rfl) (fun _ => Below.refl _ _) (fun _ _ _ => bthen) (locB_st hF _) trivial ?_ ?_
  · refine steps_cons ?s0 ( steps_cons ?s1 ( steps_cons ?s2 ( steps_cons ?s3 ( steps_cons ?s4 ( steps_cons ?s5 ( steps_cons ?s6 ( steps_cons ?s7 ( steps_cons ?s8 ( steps_cons ?s9 steps_nil)))))))))
    case s0 =>
      intro w' m' hE hR
      intro Q hQ
      have hsz := hE.size
      have o0 := own_made (base := W.heap.size) (e := 99) (size := 2) w' #[] 0 hsz (by simp [maxLen]) rfl
      go_wp2
      exact hQ _ _ _ rfl ⟨_, rfl, o0⟩ ((Below.refl _ _).alloc (Nat.le_refl _) _) trivial
    case s1 =>
      intro w' m' hE hR
      intro Q hQ
      go_wp2
      exact hQ _ _ _ rfl rfl (Below.refl _ _) trivial
    case s2 =>
      intro w' m' hE hR
      rintro _ rfl Q hQ
      obtain ⟨y0, y1, y2, y3⟩ := unhide HX w' (below_undrew hE)
      go_wp2
      exact hQ _ _ _ rfl rfl (Below.refl _ _) trivial
    case s3 =>
      intro w' m' hE hR
      rintro _ ⟨AE, rfl, oE⟩ _ rfl Q hQ
      obtain ⟨y0, y1, y2, y3⟩ := unhide HX w' (below_undrew hE)
      have hsz := hE.size
      refine wpList_app0 rfl (.tmp 6) (.tmp 8) 28 rfl el_ent rfl oE rfl y3.b1 (len_ents t.base) (one_ents t.base) (by simp only [maxLen]; omega) (by omega) hsz ?_
      intro A' c' w2 o2 b2
      go_wp2
      exact hQ _ _ _ rfl ⟨A', c', rfl, o2⟩ b2 trivial
    case s4 =>
      intro w' m' hE hR
      intro Q hQ
      have hsz := hE.size
      have o0 := own_made (base := W.heap.size) (e := 3) (size := 1) w' #[] 0 hsz (by simp [maxLen]) rfl
      go_wp2
      exact hQ _ _ _ rfl ⟨_, rfl, o0⟩ ((Below.refl _ _).alloc (Nat.le_refl _) _) trivial
    case s5 =>
      intro w' m' hE hR
      intro Q hQ
      go_wp2
      exact hQ _ _ _ rfl rfl (Below.refl _ _) trivial
    case s6 =>
      intro w' m' hE hR
      rintro _ rfl Q hQ
      obtain ⟨y0, y1, y2, y3⟩ := unhide HX w' (below_undrew hE)
      go_wp2
      exact hQ _ _ _ rfl rfl (Below.refl _ _) trivial
    case s7 =>
      intro w' m' hE hR
      rintro _ ⟨AE, rfl, oE⟩ _ rfl Q hQ
      obtain ⟨y0, y1, y2, y3⟩ := unhide HX w' (below_undrew hE)
      have hsz := hE.size
      refine wpList_app0 rfl (.tmp 10) (.tmp 12) 24 rfl el_int rfl oE rfl y3.b3 (by simp) (one_ia t.before) (by simp only [maxLen]; omega) (by omega) hsz ?_
      intro A' c' w2 o2 b2
      go_wp2
      exact hQ _ _ _ rfl ⟨A', c', rfl, o2⟩ b2 trivial
    case s8 =>
      intro w' m' hE hR
      rintro _ ⟨B1, d1, rfl, o1⟩ _ ⟨B3, d3, rfl, o3⟩ Q hQ
      go_wp2
      exact hQ _ _ _ rfl ⟨B1, d1, B3, d3, rfl, o1, o3⟩ (Below.refl _ _) trivial
    case s9 =>
      intro w' m' hE hR
      intro Q hQ
      have hsz := hE.size
      go_wp2
      exact hQ _ _ _ rfl ⟨w'.heap.size, rfl, hsz, Blk.new _ _ _⟩ ((Below.refl _ _).alloc (Nat.le_refl _) _) trivial
  intro w9 hE _
  rintro v0 - v1 - v2 - v3 - v4 - v5 - v6 - v7 - v8 ⟨B1, d1, B3, d3, rfl, o1, o3⟩ v9 ⟨g, rfl, hg, kg⟩
  change wpList _ _ _ [_] _ _
  simp only [Act.put, List.setIfInBounds_toArray, List.set_cons_succ, List.set_cons_zero]
  have b9 := below_undrew hE
  have hgl := kg.lt
  go_wp2_with (refine wpList_store_row rfl 31 (.tmp 3) (.tmp 14) rfl g #[.slice B1 t.base.length d1, .slice none 0 0, .slice B3 t.before.length d3] rfl rfl 31 #[.slice none 0 0, .slice none 0 0, .slice none 0 0] kg info_tr rfl (sl3_one _ _ _ _ _ _ _ _ _) ?_; refine at_world (C := fun W => wpList _ _ _ _ _ W) (F := fun W2 => Blk W2 g 31 #[.slice B1 t.base.length d1, .slice none 0 0, .slice B3 t.before.length d3] ∧ W2.ownsRow W.heap.size 99 2 (.slice B1 t.base.length d1) t.base.length (t.base.flatMap encE) ∧ W2.ownsRow W.heap.size 3 1 (.slice B3 t.before.length d3) t.before.length (t.before.map (.int .i64)) ∧ Below W.heap.size W W2 ∧ g < W2.heap.size) ⟨blk_setRow kg, own_EB o1 (EB.setRow kg hg _) ne_et, own_EB o3 (EB.setRow kg hg _) ne_it, below_setRow b9 hg _, by rw [size_setRow]; exact hgl⟩ ?_; rintro W2 ⟨kg2, p1, p3, b2, hg2⟩)
  have a13 := own_ne p1 p3 ne_ei
  have HR1 := hide (own_rng p1)
  have HR3 := hide (own_rng p3)
  have HA13 := hide a13
  have HGA1 := hide (show ¬ B1 = some ⟨g, 0, none⟩ from fun e => by
    rcases p1.2 with ⟨hv, _⟩ | ⟨q, cap, cur, hv, _, hh, _⟩
    · injection hv with hv; rw [e] at hv; cases hv
    · injection hv with hv; rw [e] at hv; injection hv with hv; injection hv with hv; subst hv; rw [show W2.heap[g]? = _ from kg2] at hh; injection hh with hh; injection hh with _ h3 _; exact ne_et h3.symm)
  have HGA3 := hide (show ¬ B3 = some ⟨g, 0, none⟩ from fun e => by
    rcases p3.2 with ⟨hv, _⟩ | ⟨q, cap, cur, hv, _, hh, _⟩
    · injection hv with hv; rw [e] at hv; cases hv
    · injection hv with hv; rw [e] at hv; injection hv with hv; injection hv with hv; subst hv; rw [show W2.heap[g]? = _ from kg2] at hh; injection hh with hh; injection hh with _ h3 _; exact ne_it h3.symm)
  have hm0 := b2.size
  have HGW := hide hg
  have hgW : w.heap.size + 1 < g := by omega
  clear a13 o1 o3 kg hgl b9 hE hF hg
  go_loopw [4, 5] (fun i _ wr => ∃ (k : Nat) (A' : Option Addr) (c' : Nat) (vs : List (List Value)) (fs : List (List Nat)), k ≤ t.blocks.length ∧ i = .int .i64 k ∧ AllO bkO wr (t.blocks.take k) vs fs ∧ fs.flatten.Nodup ∧ Hid (∀ q ∈ fs.flatten, W2.heap.size ≤ q ∧ A' ≠ some ⟨q, 0, none⟩) ∧ wr.ownsRow W2.heap.size 69 6 (.slice A' k c') k vs.flatten ∧ Blk wr g 31 #[.slice B1 t.base.length d1, .slice A' k c', .slice B3 t.before.length d3] ∧ wr.ownsRow W.heap.size 99 2 (.slice B1 t.base.length d1) t.base.length (t.base.flatMap encE) ∧ wr.ownsRow W.heap.size 3 1 (.slice B3 t.before.length d3) t.before.length (t.before.map (.int .i64)) ∧ W2.heap.size ≤ wr.heap.size ∧ Below W.heap.size W wr) (fun i _ _ => t.blocks.length - (intOf i).toNat)
  case atStart => exact ⟨0, none, 0, [], [], Nat.zero_le _, rfl, trivial, by simp, hide (by simp), own_nil _ _ _ _, kg2, p1, p3, Nat.le_refl _, b2⟩
  case round =>
    clear kg2 p1 p3 b2
    obtain ⟨k, A', c', vs, fs, hk, rfl, hall, hnd, HF, hown, kg, p1, p3, hwr, hB⟩ := hrel
    obtain ⟨y0, y1, y2, hT⟩ := unhide HX wr hB
    have q0 : wr.cell? ⟨g, 0, none⟩ = some (.slice B1 t.base.length d1) := kg.cell 0
    have q1 : wr.cell? ⟨g, 1, none⟩ = some (.slice A' k c') := kg.cell 1
    have q2 : wr.cell? ⟨g, 2, none⟩ = some (.slice B3 t.before.length d3) := kg.cell 2
    by_cases hlt : k < t.blocks.length
    · have i1 : (k : Int) < (t.blocks.length : Int) := by omega
      obtain ⟨bq, offq, L1, e1, hA2, -, hbb, x0, x1, x2, x3, x4, x5, hl1, r1⟩ := hT.b2.bk hlt
      have hxl := unhide HBS t.blocks[k] (List.getElem_mem hlt)
      have HT := hide (show t.blocks.take (k + 1) = t.blocks.take k ++ [t.blocks[k]] from List.take_succ_eq_append_getElem hlt)
      generalize t.blocks[k] = x at *
      have HA2 := hide hA2
      clear hA2
      rw [unhide HA2] at y1
      have rx := r1.rd
      clear r1 hl1
      have hgwr : g < wr.heap.size := by omega
      have hne : g ≠ wr.heap.size := by omega
      have hne2 : wr.heap.size ≠ g := by omega
      have HRO := hide (own_rng hown)
      go_wp2_with (first | (refine wpList_store_row rfl 69 (.tmp 5) (.tmp 26) rfl wr.heap.size #[.int .i64 x.before, .int .i64 x.height, .int .i64 x.view, .slice L1 x.list.length e1, .int .i64 x.root, .int .i64 x.eff] rfl rfl 69 #[.int .i64 0, .int .i64 0, .int .i64 0, .slice none 0 0, .int .i64 0, .int .i64 0] (box_new wr 69 #[.int .i64 0, .int .i64 0, .int .i64 0, .slice none 0 0, .int .i64 0, .int .i64 0] #[.int .i64 x.before, .int .i64 x.height, .int .i64 x.view, .slice L1 x.list.length e1, .int .i64 x.root, .int .i64 x.eff]).1 info_bkS rfl (bk6_one _ _ _ _ _ _ _ _) ?_; refine at_world (C := fun W => wpList _ _ _ _ _ W) (F := fun W => Blk W wr.heap.size 69 #[.int .i64 x.before, .int .i64 x.height, .int .i64 x.view, .slice L1 x.list.length e1, .int .i64 x.root, .int .i64 x.eff] ∧ Below wr.heap.size wr W) ⟨(box_new wr 69 #[.int .i64 0, .int .i64 0, .int .i64 0, .slice none 0 0, .int .i64 0, .int .i64 0] #[.int .i64 x.before, .int .i64 x.height, .int .i64 x.view, .slice L1 x.list.length e1, .int .i64 x.root, .int .i64 x.eff]).2.1, (box_new wr 69 #[.int .i64 0, .int .i64 0, .int .i64 0, .slice none 0 0, .int .i64 0, .int .i64 0] #[.int .i64 x.before, .int .i64 x.height, .int .i64 x.view, .slice L1 x.list.length e1, .int .i64 x.root, .int .i64 x.eff]).2.2⟩ ?_; rintro w5 ⟨k5, b5⟩; have v3 : w5.cell? ⟨wr.heap.size, 3, none⟩ = some (.slice L1 x.list.length e1) := k5.cell 3; have hl5 := k5.lt; have oe := own_made (base := w5.heap.size) (e := 134) (size := 4) w5 #[] 0 (Nat.le_refl _) (by simp [maxLen]) rfl; have be : Below wr.heap.size wr (w5.alloc (.cells #[] 134)) := bthen b5 ((Below.refl _ _).alloc (Nat.le_refl _) _)) | (at_builtin; refine wpList_app0 rfl (.tmp 27) (.tmp 29) 67 rfl el_actz rfl oe rfl (rx.new be) (len_acts x.list) (one_acts2 x.list) (by simp only [maxLen]; omega) (by omega) (by simp) ?_; intro A7 c7 w7 o7 b7; have b57 := bthen be b7; have k7 := (k5.new_ ((Below.refl _ _).alloc (Nat.le_refl _) _)).new_ b7; have u0 : w7.cell? ⟨wr.heap.size, 0, none⟩ = some _ := k7.cell 0; have u1 : w7.cell? ⟨wr.heap.size, 1, none⟩ = some _ := k7.cell 1; have u2 : w7.cell? ⟨wr.heap.size, 2, none⟩ = some _ := k7.cell 2; have u3 : w7.cell? ⟨wr.heap.size, 3, none⟩ = some _ := k7.cell 3; have u4 : w7.cell? ⟨wr.heap.size, 4, none⟩ = some _ := k7.cell 4; have u5 : w7.cell? ⟨wr.heap.size, 5, none⟩ = some _ := k7.cell 5; have f3 : w7.frozen? ⟨wr.heap.size, 3, none⟩ = false := k7.frozen 3; have kg7 := kg.new_ b57; have g1 : w7.cell? ⟨g, 1, none⟩ = some (.slice A' k c') := kg7.cell 1; have chS : Chg (fun q => q = wr.heap.size) w7 (w7.setCell ⟨wr.heap.size, 3, none⟩ (.slice A7 x.list.length c7)) := (Chg.refl (fun q => q = wr.heap.size) w7).setCell (p := ⟨wr.heap.size, 3, none⟩) (.inl rfl) _; have oA := own_chg (own_new hown b57) chS (fun q hq e => by have := unhide HRO q hq; omega); have o7s := own_chg o7 chS (fun q hq e => by have := own_rng o7 q hq; omega); have hs7 := b57.size; have kg7s := kg7.chg chS hne; have es : (w7.setCell ⟨wr.heap.size, 3, none⟩ (.slice A7 x.list.length c7)).heap.size = w7.heap.size := (by simp); have rl := rd_lit (w7.setCell ⟨wr.heap.size, 3, none⟩ (.slice A7 x.list.length c7)) (bkV x A7 c7) 69; rw [es] at rl; clear es) | (at_builtin; refine wpList_app rfl (.tmp 33) (.tmp 35) 29 rfl el_bk rfl (own_alloc oA _) rfl rl rfl (bkV_one x A7 c7) (by simp only [maxLen]; omega) (by omega) (by simp; omega) ?_; intro A8 c8 w8 o8 ch8 d8 _; have kg8 := (kg7s.alloc (.cells (bkV x A7 c7).toArray 69)).chg ch8 (fun e => by have := unhide HRO _ e; omega); have h1 : w8.cell? ⟨g, 1, none⟩ = some (.slice A' k c') := kg8.cell 1; have h2 : w8.frozen? ⟨g, 1, none⟩ = false := kg8.frozen 1))
      have b37 : Below wr.heap.size wr (w7.setCell ⟨wr.heap.size, 3, none⟩ (.slice A7 x.list.length c7)) := b57.trans (chS.below (fun q hq e => by omega) b57.size)
      have hx : bkO x (w7.setCell ⟨wr.heap.size, 3, none⟩ (.slice A7 x.list.length c7)) (bkV x A7 c7) (blk A7) := ⟨A7, c7, rfl, own_base0 o7s, rfl⟩
      have hfb : ∀ q ∈ blk A7, wr.heap.size ≤ q := fun q hq => by have := (blk_own o7s hq).2.1; have := b5.size; omega
      obtain ⟨hall8, hnd8, hF8, hown8⟩ := grow_step bkO_good bk_good hall hnd (unhide HF) hown hwr b37 hx (blk_nodup _) hfb ch8 d8 (by simpa [bkV] using o8)
      have chG : Chg (fun q => q = g) w8 (w8.setCell ⟨g, 1, none⟩ (.slice A8 (k + 1) c8)) := (Chg.refl (fun q => q = g) w8).setCell (p := ⟨g, 1, none⟩) (.inl rfl) _
      have hall9 := hall8.keep bkO_good (w' := w8.setCell ⟨g, 1, none⟩ (.slice A8 (k + 1) c8)) (fun q hq hqw => chG.block q hqw (fun e => by have := (hF8 q hq).1; omega))
      have hrg8 := own_rng hown8
      have hown9 := own_chg hown8 chG (fun q hq e => by have := hrg8 q hq; omega)
      have kg9 : Blk (w8.setCell ⟨g, 1, none⟩ (.slice A8 (k + 1) c8)) g 31 #[.slice B1 t.base.length d1, .slice A8 (k + 1) c8, .slice B3 t.before.length d3] := kg8.set_ 1 _
      have hr1 := unhide HR1
      have hr3 := unhide HR3
      have far : ∀ q, q < W2.heap.size → ¬ A' = some ⟨q, 0, none⟩ := fun q hq e => by have := unhide HRO q e; omega
      have hga : ∀ q, W.heap.size ≤ q → q < W2.heap.size → q ≠ g → (w8.setCell ⟨g, 1, none⟩ (.slice A8 (k + 1) c8)).heap[q]? = wr.heap[q]? := fun q h1 h2 h3 => by
        have t1 := hs7
        have t2 := chS.size
        rw [chG.block q (by have := ch8.size; simp at this; omega) h3, ch8.block q (by simp; omega) (far q h2), Below.heap_alloc _ _ _ (by omega), chS.block q (by omega) (by omega), b57.block q (by omega)]
      have p19 := own_keep p1 (w' := w8.setCell ⟨g, 1, none⟩ (.slice A8 (k + 1) c8)) (fun q hq hqw => hga q (hr1 q hq).1 (hr1 q hq).2 (fun e => unhide HGA1 (by rw [← e]; exact hq)))
      have p39 := own_keep p3 (w' := w8.setCell ⟨g, 1, none⟩ (.slice A8 (k + 1) c8)) (fun q hq hqw => hga q (hr3 q hq).1 (hr3 q hq).2 (fun e => unhide HGA3 (by rw [← e]; exact hq)))
      have hsz9 : W2.heap.size ≤ (w8.setCell ⟨g, 1, none⟩ (.slice A8 (k + 1) c8)).heap.size := by have := ch8.size; have := chG.size; have := chS.size; simp at *; omega
      have hB9 : Below W.heap.size W (w8.setCell ⟨g, 1, none⟩ (.slice A8 (k + 1) c8)) := ((((bthen hB b57).trans (chS.below (fun q hq e => by omega) (by omega))).alloc (by have := chS.size; omega) _).trans (ch8.below (fun q hq e => by have := unhide HRO q e; omega) (by have := chS.size; simp; omega))).trans (chG.below (fun q hq e => by have := unhide HGW; omega) (by have := ch8.size; have := chS.size; simp at *; omega))
      have HF8h := hide hF8
      go_roundw
      case rel => exact ⟨k + 1, A8, c8, _, _, by omega, by go_num, by rw [unhide HT]; exact hall9, hnd8, HF8h, hown9, kg9, p19, p39, hsz9, hB9⟩
      case measure => simp [intOf]; omega
    · obtain rfl : k = t.blocks.length := by omega
      rw [List.take_length] at hall
      have hgd := grow_done hall hnd (unhide HF) hown
      have kR := unhide HK1 wr hB
      have hwW := hB.size
      go_wp2_with (refine wpList_store_row rfl 31 (.tmp 2) (.tmp 38) rfl (w.heap.size + 1) #[.slice B1 t.base.length d1, .slice A' t.blocks.length c', .slice B3 t.before.length d3] rfl rfl 31 #[.slice none 0 0, .slice none 0 0, .slice none 0 0] kR info_tr rfl (sl3_one _ _ _ _ _ _ _ _ _) ?_)
      refine bodyPost_ret (v := .agg #[.slice B1 t.base.length d1, .slice A' t.blocks.length c', .slice B3 t.before.length d3]) (results_cell_row (p := 2) (ty := 31) rfl _ _ (w.heap.size + 1) 31 #[.slice B1 t.base.length d1, .slice A' t.blocks.length c', .slice B3 t.before.length d3] (0, 0) _ rfl (blk_setRow kR) Tryz.underlying31 rfl info_tr) rfl ?_
      refine ⟨B1, d1, A', c', B3, d3, _, rfl, ⟨own_base (own_setRow p1 (by omega) _) (by omega), hgd.1.keep bkO_good (fun q hq _ => setRow_other wr (w.heap.size + 1) q _ (by have := hgd.2 q hq; omega)), own_base (own_setRow p3 (by omega) _) (by omega), fun q hq => by have := hgd.2 q hq; omega, fun q hq hq2 => ?_, unhide HA13, fun q hq hq2 => ?_⟩, below_setRow (bthen' hb0 hB) (by omega) _⟩
      · have := unhide HR1 q hq
        have := hgd.2 q hq2
        omega
      · have := unhide HR3 q hq
        have := hgd.2 q hq2
        omega
end Go.Proofs.YtmpdopjailomlaaGreat
namespace Go.Proofs.YtmpdopjailomlaaGreat
open Go.RowKit
set_option linter.unusedVariables false
set_option linter.unusedSimpArgs false

/-- a block by value with a list of its own -/
def bkOwn (B : Nat) (x : Bk) (v : Value) (w : World) : Prop := ∃ A c, v = .agg #[.int .i64 x.before, .int .i64 x.height, .int .i64 x.view, .slice A x.list.length c, .int .i64 x.root, .int .i64 x.eff] ∧ w.ownsRow B 134 4 (.slice A x.list.length c) x.list.length (x.list.flatMap encA)
theorem sb_bkOwn (B : Nat) (x : Bk) : StB (bkOwn B x) := fun _ _ _ hb ⟨A, c, h1, h2⟩ => ⟨A, c, h1, own_new h2 hb⟩
/-- a row of one such block -/
def bkRow1 (B : Nat) (x : Bk) (v : Value) (w : World) : Prop := ∃ q A c, v = .slice (some ⟨q, 0, none⟩) 1 1 ∧ Rd w (some ⟨q, 0, none⟩) (bkV x A c) ∧ w.ownsRow B 134 4 (.slice A x.list.length c) x.list.length (x.list.flatMap encA)
theorem sb_bkRow1 (B : Nat) (x : Bk) : StB (bkRow1 B x) := fun _ _ _ hb ⟨q, A, c, h1, h2, h3⟩ => ⟨q, A, c, h1, h2.new hb, own_new h3 hb⟩
theorem grow_step2 {α : Type} {O : ORel α} {R : Rel α} {s : Nat} (G : OGood O R) (GR : Good R s) {wr w3 w7 : World} {base : Nat} {e : TypeId} {A' A7 : Option Addr} {c' c7 n m : Nat} {xs : List α} {vs : List (List Value)} {fs : List (List Nat)} {x : α} {cs : List Value} {f : List Nat}
    (hall : AllO O wr xs vs fs) (hnd : fs.flatten.Nodup) (hF : ∀ q ∈ fs.flatten, base ≤ q ∧ A' ≠ some ⟨q, 0, none⟩) (hown : wr.ownsRow base e s (.slice A' n c') n vs.flatten) (hbase : base ≤ wr.heap.size)
    (b3 : Below wr.heap.size wr w3) (hx : O x w3 cs f) (hfn : f.Nodup) (hfb : ∀ q ∈ f, wr.heap.size ≤ q)
    (ch7 : Chg (fun g => A' = some ⟨g, 0, none⟩) w3 w7) (d7 : A7 = A' ∨ (A7 = some ⟨w3.heap.size, 0, none⟩ ∧ Below w3.heap.size w3 w7)) (o7 : w7.ownsRow base e s (.slice A7 m c7) m (vs.flatten ++ cs)) :
    AllO O w7 (xs ++ [x]) (vs ++ [cs]) (fs ++ [f]) ∧ (fs ++ [f]).flatten.Nodup ∧ (∀ q ∈ (fs ++ [f]).flatten, base ≤ q ∧ A7 ≠ some ⟨q, 0, none⟩) ∧ w7.ownsRow base e s (.slice A7 m c7) m (vs ++ [cs]).flatten := by
  have hl := hall.lt G
  have hl3 : ∀ q ∈ f, q < w3.heap.size := by
    have := (AllO.one hx).lt G
    intro q hq
    exact this q (by simpa using hq)
  have hs3 := b3.size
  have hrg := own_rng hown
  have hall3 := (hall.keep G (w' := w3) fun q _ hq => b3.block q hq).append (AllO.one hx)
  have key : ∀ q ∈ (fs ++ [f]).flatten, base ≤ q ∧ q < w3.heap.size ∧ A' ≠ some ⟨q, 0, none⟩ := fun q hq => by
    rw [List.flatten_append] at hq
    rcases List.mem_append.1 hq with hq | hq
    · have h1 := hF q hq
      have h2 := hl q hq
      exact ⟨h1.1, by omega, h1.2⟩
    · have hq : q ∈ f := by simpa using hq
      have h1 := hfb q hq
      exact ⟨by omega, hl3 q hq, fun e => by have := hrg q e; omega⟩
  refine ⟨hall3.keep G fun q hq hqw => ?_, ?_, fun q hq => ?_, by rw [List.flatten_append]; simpa using o7⟩
  · have h1 := key q hq
    exact ch7.block q hqw h1.2.2
  · rw [List.flatten_append]
    exact fresh_nodup (m := wr.heap.size) hnd (by simpa using hfn) hl (fun q hq => hfb q (by simpa using hq))
  · have h1 := key q hq
    refine ⟨h1.1, fun e => ?_⟩
    rcases d7 with rfl | ⟨rfl, _⟩
    · exact h1.2.2 e
    · injection e with e; injection e with e; omega
set_option maxRecDepth 100000 in
set_option maxHeartbeats 4000000 in
theorem bkClone_impl (x : Bk) (A : Option Addr) (c : Nat) (w : World) (h : Rd w A (x.list.flatMap encA)) (hb : x.list.length ≤ 1099511627776) :
    Calls Tryz.prog 86 #[.agg #[.int .i64 x.before, .int .i64 x.height, .int .i64 x.view, .slice A x.list.length c, .int .i64 x.root, .int .i64 x.eff]] w fun e w' => ∃ B d, e = .returned (.agg #[.int .i64 x.before, .int .i64 x.height, .int .i64 x.view, .slice B x.list.length d, .int .i64 x.root, .int .i64 x.eff]) ∧ w'.ownsRow w.heap.size 134 4 (.slice B x.list.length d) x.list.length (x.list.flatMap encA) ∧ Below w.heap.size w w' := by
  obtain ⟨W, hW⟩ : ∃ W : World, W = (w.alloc (.cells #[.int .i64 x.before, .int .i64 x.height, .int .i64 x.view, .slice A x.list.length c, .int .i64 x.root, .int .i64 x.eff] 69)).alloc (.cells #[.int .i64 0, .int .i64 0, .int .i64 0, .slice none 0 0, .int .i64 0, .int .i64 0] 69) := ⟨_, rfl⟩
  have hb0 : Below w.heap.size w W := by rw [hW]; exact ((Below.refl _ _).alloc (Nat.le_refl _) _).alloc (by simp) _
  have K0 : Blk W w.heap.size 69 #[.int .i64 x.before, .int .i64 x.height, .int .i64 x.view, .slice A x.list.length c, .int .i64 x.root, .int .i64 x.eff] := by rw [hW]; exact (Blk.new _ _ _).alloc _
  have K1 : Blk W (w.heap.size + 1) 69 #[.int .i64 0, .int .i64 0, .int .i64 0, .slice none 0 0, .int .i64 0, .int .i64 0] := by
    rw [hW]
    have := Blk.new (w.alloc (.cells #[.int .i64 x.before, .int .i64 x.height, .int .i64 x.view, .slice A x.list.length c, .int .i64 x.root, .int .i64 x.eff] 69)) 69 #[.int .i64 0, .int .i64 0, .int .i64 0, .slice none 0 0, .int .i64 0, .int .i64 0]
    simpa using this
  have hW1 := K1.lt
  have v3 : W.cell? ⟨w.heap.size, 3, none⟩ = some (.slice A x.list.length c) := K0.cell 3
  have hr := h.new hb0
  clear h
  subst hW
  go_enter Tryz.func86, Tryz.ntmps86
  go_wp2_with (first | (at_builtin; refine wpList_app0 rfl (.const (.slice none 0 0)) (.tmp 4) 67 rfl el_actz rfl (own_nil _ (w.heap.size + 1 + 1) _ _) rfl hr (len_acts x.list) (one_acts2 x.list) (by simp only [maxLen]; omega) (by omega) (by simp) ?_; intro A7 c7 w7 o7 b7; have k7 := K0.new_ b7; have u0 : w7.cell? ⟨w.heap.size, 0, none⟩ = some _ := k7.cell 0; have u1 : w7.cell? ⟨w.heap.size, 1, none⟩ = some _ := k7.cell 1; have u2 : w7.cell? ⟨w.heap.size, 2, none⟩ = some _ := k7.cell 2; have u3 : w7.cell? ⟨w.heap.size, 3, none⟩ = some _ := k7.cell 3; have u4 : w7.cell? ⟨w.heap.size, 4, none⟩ = some _ := k7.cell 4; have u5 : w7.cell? ⟨w.heap.size, 5, none⟩ = some _ := k7.cell 5; have f3 : w7.frozen? ⟨w.heap.size, 3, none⟩ = false := k7.frozen 3; have kr7 := K1.new_ b7; have chS : Chg (fun q => q = w.heap.size) w7 (w7.setCell ⟨w.heap.size, 3, none⟩ (.slice A7 x.list.length c7)) := (Chg.refl (fun q => q = w.heap.size) w7).setCell (p := ⟨w.heap.size, 3, none⟩) (.inl rfl) _; have o7s := own_chg o7 chS (fun q hq e => by have := own_rng o7 q hq; omega); have kr := kr7.chg chS (by omega); have hs7 := b7.size) | (refine wpList_store_row rfl 69 (.tmp 2) (.tmp 7) rfl (w.heap.size + 1) #[.int .i64 x.before, .int .i64 x.height, .int .i64 x.view, .slice A7 x.list.length c7, .int .i64 x.root, .int .i64 x.eff] rfl rfl 69 #[.int .i64 0, .int .i64 0, .int .i64 0, .slice none 0 0, .int .i64 0, .int .i64 0] kr info_bkS rfl (bk6_one _ _ _ _ _ _ _ _) ?_))
  refine bodyPost_ret (v := .agg #[.int .i64 x.before, .int .i64 x.height, .int .i64 x.view, .slice A7 x.list.length c7, .int .i64 x.root, .int .i64 x.eff]) (results_cell_row (p := 2) (ty := 69) rfl _ _ (w.heap.size + 1) 69 #[.int .i64 x.before, .int .i64 x.height, .int .i64 x.view, .slice A7 x.list.length c7, .int .i64 x.root, .int .i64 x.eff] (0, 0) _ rfl (blk_setRow kr) Tryz.underlying69 rfl info_bkS) rfl ?_
  exact ⟨A7, c7, rfl, own_base (own_setRow o7s (by omega) _) (by omega), below_setRow ((bthen hb0 b7).trans (chS.below (fun q hq e => by omega) (by have := (bthen hb0 b7).size; omega))) (by omega) _⟩
set_option maxRecDepth 100000 in
set_option maxHeartbeats 8000000 in
theorem clone_impl (t : Tr) (A1 : Option Addr) (c1 : Nat) (A2 : Option Addr) (c2 : Nat) (A3 : Option Addr) (c3 : Nat) (w : World) (h : TrR w t A1 A2 A3) (hb1 : t.base.length ≤ 1099511627776) (hb2 : t.blocks.length ≤ 1099511627776) (hbs : ∀ x ∈ t.blocks, x.list.length ≤ 1099511627776) (hb3 : t.before.length ≤ 1099511627776) :
    Calls Tryz.prog 42 #[.agg (trA t A1 c1 A2 c2 A3 c3)] w fun e w' => ∃ B1 d1 B2 d2 B3 d3 fp, e = .returned (.agg (trA t B1 d1 B2 d2 B3 d3)) ∧ TrO w' w.heap.size t B1 d1 B2 d2 B3 d3 fp ∧ Below w.heap.size w w' := by
  have HBS := hide hbs
  clear hbs
  obtain ⟨W, hW⟩ : ∃ W : World, W = (w.alloc (.cells (trA t A1 c1 A2 c2 A3 c3) 31)).alloc (.cells #[.slice none 0 0, .slice none 0 0, .slice none 0 0] 31) := ⟨_, rfl⟩
  have hb0 : Below w.heap.size w W := by rw [hW]; exact ((Below.refl _ _).alloc (Nat.le_refl _) _).alloc (by simp) _
  have K0 : Blk W w.heap.size 31 (trA t A1 c1 A2 c2 A3 c3) := by rw [hW]; exact (Blk.new _ _ _).alloc _
  have K1 : Blk W (w.heap.size + 1) 31 #[.slice none 0 0, .slice none 0 0, .slice none 0 0] := by
    rw [hW]
    have := Blk.new (w.alloc (.cells (trA t A1 c1 A2 c2 A3 c3) 31)) 31 #[.slice none 0 0, .slice none 0 0, .slice none 0 0]
    simpa using this
  have hW1 := K1.lt
  simp only [trA] at K0 hW ⊢
  have HX := hide (fun (w' : World) (hb : Below W.heap.size W w') => show w'.cell? ⟨w.heap.size, 0, none⟩ = some (.slice A1 t.base.length c1) ∧ w'.cell? ⟨w.heap.size, 1, none⟩ = some (.slice A2 t.blocks.length c2) ∧ w'.cell? ⟨w.heap.size, 2, none⟩ = some (.slice A3 t.before.length c3) ∧ TrR w' t A1 A2 A3 from ⟨(K0.new_ hb).cell 0, (K0.new_ hb).cell 1, (K0.new_ hb).cell 2, h.new (bthen hb0 hb)⟩)
  have HK1 := hide (fun (w' : World) (hb : Below W.heap.size W w') => K1.new_ hb)
  clear h K0 K1
  go_enter Tryz.func42, Tryz.ntmps42
  go_wp2
  rw [← hW]
  have hF : StBL [bV (.pointer (some ⟨w.heap.size, 0, none⟩)), bV (.slice A1 t.base.length c1), sOwn W.heap.size t.base, bV (.pointer (some ⟨w.heap.size, 2, none⟩)), bV (.slice A3 t.before.length c3), iOwn W.heap.size t.before, baseT W.heap.size t, newBox W.heap.size 31 #[.slice none 0 0, .slice none 0 0, .slice none 0 0]] :=
    ⟨sb_V _, sb_V _, sb_Own _ _, sb_V _, sb_V _, sb_iOwn _ _, sb_baseT _ _, sb_newBox _ _ _, trivial⟩
  go_upto_region 1 with fail
  refine wp_region_loc (by kernel_rfl) [(0, some 6), (1, some 7), (2, some 8), (3, some 9), (4, some 10), (5, some 11), (6, some 12), (7, some 3)] [[], [(0, some 6)], [(1, some 7)], [], [(3, some 9)], [(4, some 10)], [(2, some 8), (5, some 11)], []] (by kernel_rfl)
    (locB _) (fun a b => Below a.heap.size a b) noR [0, 0, 0, 0, 0, 0, 0, 0] 0 (by kernel_rfl) (fun _ => Below.refl _ _) (fun _ _ _ => bthen) (locB_st hF _) trivial ?_ ?_
  · refine steps_cons ?s0 ( steps_cons ?s1 ( steps_cons ?s2 ( steps_cons ?s3 ( steps_cons ?s4 ( steps_cons ?s5 ( steps_cons ?s6 ( steps_cons ?s7 steps_nil)))))))
    case s0 =>
      intro w' m' hE hR
      intro Q hQ
      go_wp2
      exact hQ _ _ _ rfl rfl (Below.refl _ _) trivial
    case s1 =>
      intro w' m' hE hR
      rintro _ rfl Q hQ
      obtain ⟨y0, y1, y2, y3⟩ := unhide HX w' (below_undrew hE)
      go_wp2
      exact hQ _ _ _ rfl rfl (Below.refl _ _) trivial
    case s2 =>
      intro w' m' hE hR
      rintro _ rfl Q hQ
      obtain ⟨y0, y1, y2, y3⟩ := unhide HX w' (below_undrew hE)
      have hsz := hE.size
      go_wp2_with fail
      refine (cloneEntries_any A1 c1 t.base w' y3.b1 (by omega)).mono ?_
      rintro e w2 ⟨A', c', rfl, o2, b2⟩
      go_wp2
      exact hQ _ _ _ rfl ⟨A', c', rfl, own_base o2 hsz⟩ b2 trivial
    case s3 =>
      intro w' m' hE hR
      intro Q hQ
      go_wp2
      exact hQ _ _ _ rfl rfl (Below.refl _ _) trivial
    case s4 =>
      intro w' m' hE hR
      rintro _ rfl Q hQ
      obtain ⟨y0, y1, y2, y3⟩ := unhide HX w' (below_undrew hE)
      go_wp2
      exact hQ _ _ _ rfl rfl (Below.refl _ _) trivial
    case s5 =>
      intro w' m' hE hR
      rintro _ rfl Q hQ
      obtain ⟨y0, y1, y2, y3⟩ := unhide HX w' (below_undrew hE)
      have hsz := hE.size
      refine wpList_app0 rfl (.const (.slice none 0 0)) (.tmp 10) 24 rfl el_int rfl (own_nil _ W.heap.size _ _) rfl y3.b3 (by simp) (one_ia t.before) (by simp only [maxLen]; omega) (by omega) hsz ?_
      intro A' c' w2 o2 b2
      go_wp2
      exact hQ _ _ _ rfl ⟨A', c', rfl, o2⟩ b2 trivial
    case s6 =>
      intro w' m' hE hR
      rintro _ ⟨B1, d1, rfl, o1⟩ _ ⟨B3, d3, rfl, o3⟩ Q hQ
      go_wp2
      exact hQ _ _ _ rfl ⟨B1, d1, B3, d3, rfl, o1, o3⟩ (Below.refl _ _) trivial
    case s7 =>
      intro w' m' hE hR
      intro Q hQ
      have hsz := hE.size
      go_wp2
      exact hQ _ _ _ rfl ⟨w'.heap.size, rfl, hsz, Blk.new _ _ _⟩ ((Below.refl _ _).alloc (Nat.le_refl _) _) trivial
  intro w9 hE _
  rintro v0 - v1 - v2 - v3 - v4 - v5 - v6 ⟨B1, d1, B3, d3, rfl, o1, o3⟩ v7 ⟨g, rfl, hg, kg⟩
  change wpList _ _ _ [_] _ _
  simp only [Act.put, List.setIfInBounds_toArray, List.set_cons_succ, List.set_cons_zero]
  have b9 := below_undrew hE
  have hgl := kg.lt
  go_wp2_with (refine wpList_store_row rfl 31 (.tmp 3) (.tmp 12) rfl g #[.slice B1 t.base.length d1, .slice none 0 0, .slice B3 t.before.length d3] rfl rfl 31 #[.slice none 0 0, .slice none 0 0, .slice none 0 0] kg info_tr rfl (sl3_one _ _ _ _ _ _ _ _ _) ?_; refine at_world (C := fun W => wpList _ _ _ _ _ W) (F := fun W2 => Blk W2 g 31 #[.slice B1 t.base.length d1, .slice none 0 0, .slice B3 t.before.length d3] ∧ W2.ownsRow W.heap.size 99 2 (.slice B1 t.base.length d1) t.base.length (t.base.flatMap encE) ∧ W2.ownsRow W.heap.size 3 1 (.slice B3 t.before.length d3) t.before.length (t.before.map (.int .i64)) ∧ Below W.heap.size W W2 ∧ g < W2.heap.size) ⟨blk_setRow kg, own_EB o1 (EB.setRow kg hg _) ne_et, own_EB o3 (EB.setRow kg hg _) ne_it, below_setRow b9 hg _, by rw [size_setRow]; exact hgl⟩ ?_; rintro W2 ⟨kg2, p1, p3, b2, hg2⟩; obtain ⟨y0, y1, y2, -⟩ := unhide HX W2 b2)
  have a13 := own_ne p1 p3 ne_ei
  have HR1 := hide (own_rng p1)
  have HR3 := hide (own_rng p3)
  have HA13 := hide a13
  have HGA1 := hide (show ¬ B1 = some ⟨g, 0, none⟩ from fun e => by
    rcases p1.2 with ⟨hv, _⟩ | ⟨q, cap, cur, hv, _, hh, _⟩
    · injection hv with hv; rw [e] at hv; cases hv
    · injection hv with hv; rw [e] at hv; injection hv with hv; injection hv with hv; subst hv; rw [show W2.heap[g]? = _ from kg2] at hh; injection hh with hh; injection hh with _ h3 _; exact ne_et h3.symm)
  have HGA3 := hide (show ¬ B3 = some ⟨g, 0, none⟩ from fun e => by
    rcases p3.2 with ⟨hv, _⟩ | ⟨q, cap, cur, hv, _, hh, _⟩
    · injection hv with hv; rw [e] at hv; cases hv
    · injection hv with hv; rw [e] at hv; injection hv with hv; injection hv with hv; subst hv; rw [show W2.heap[g]? = _ from kg2] at hh; injection hh with hh; injection hh with _ h3 _; exact ne_it h3.symm)
  have hm0 := b2.size
  have HGW := hide hg
  have hgW : w.heap.size + 1 < g := by omega
  clear a13 o1 o3 kg hgl b9 hE hF hg
  go_loopw [5, 16] (fun _ i wr => ∃ (k : Nat) (A' : Option Addr) (c' : Nat) (vs : List (List Value)) (fs : List (List Nat)), k ≤ t.blocks.length ∧ i = .int .i64 k ∧ AllO bkO wr (t.blocks.take k) vs fs ∧ fs.flatten.Nodup ∧ Hid (∀ q ∈ fs.flatten, W2.heap.size ≤ q ∧ A' ≠ some ⟨q, 0, none⟩) ∧ wr.ownsRow W2.heap.size 69 6 (.slice A' k c') k vs.flatten ∧ Blk wr g 31 #[.slice B1 t.base.length d1, .slice A' k c', .slice B3 t.before.length d3] ∧ wr.ownsRow W.heap.size 99 2 (.slice B1 t.base.length d1) t.base.length (t.base.flatMap encE) ∧ wr.ownsRow W.heap.size 3 1 (.slice B3 t.before.length d3) t.before.length (t.before.map (.int .i64)) ∧ W2.heap.size ≤ wr.heap.size ∧ Below W.heap.size W wr) (fun _ i _ => t.blocks.length - (intOf i).toNat)
  case atStart => exact ⟨0, none, 0, [], [], Nat.zero_le _, rfl, trivial, by simp, hide (by simp), own_nil _ _ _ _, kg2, p1, p3, Nat.le_refl _, b2⟩
  case round =>
    clear kg2 p1 p3 b2 y0 y1 y2
    obtain ⟨k, A', c', vs, fs, hk, rfl, hall, hnd, HF, hown, kg, p1, p3, hwr, hB⟩ := hrel
    obtain ⟨y0, y1, y2, hT⟩ := unhide HX wr hB
    have q0 : wr.cell? ⟨g, 0, none⟩ = some (.slice B1 t.base.length d1) := kg.cell 0
    have q1 : wr.cell? ⟨g, 1, none⟩ = some (.slice A' k c') := kg.cell 1
    have q2 : wr.cell? ⟨g, 2, none⟩ = some (.slice B3 t.before.length d3) := kg.cell 2
    by_cases hlt : k < t.blocks.length
    · have i1 : (k : Int) < (t.blocks.length : Int) := by omega
      obtain ⟨bq, offq, L1, e1, hA2, -, hbb, x0, x1, x2, x3, x4, x5, hl1, r1⟩ := hT.b2.bk hlt
      have hxl := unhide HBS t.blocks[k] (List.getElem_mem hlt)
      have HT := hide (show t.blocks.take (k + 1) = t.blocks.take k ++ [t.blocks[k]] from List.take_succ_eq_append_getElem hlt)
      generalize t.blocks[k] = x at *
      have HA2 := hide hA2
      clear hA2
      have rx := r1.rd
      rw [unhide HA2]
      clear r1 hl1
      have hgwr : g < wr.heap.size := by omega
      have hne : g ≠ wr.heap.size := by omega
      have hne2 : wr.heap.size ≠ g := by omega
      have HRO := hide (own_rng hown)
      go_wp2_with (refine wpList_store_row rfl 69 (.tmp 5) (.tmp 19) rfl wr.heap.size #[.int .i64 x.before, .int .i64 x.height, .int .i64 x.view, .slice L1 x.list.length e1, .int .i64 x.root, .int .i64 x.eff] rfl rfl 69 #[.int .i64 0, .int .i64 0, .int .i64 0, .slice none 0 0, .int .i64 0, .int .i64 0] (box_new wr 69 #[.int .i64 0, .int .i64 0, .int .i64 0, .slice none 0 0, .int .i64 0, .int .i64 0] #[.int .i64 x.before, .int .i64 x.height, .int .i64 x.view, .slice L1 x.list.length e1, .int .i64 x.root, .int .i64 x.eff]).1 info_bkS rfl (bk6_one _ _ _ _ _ _ _ _) ?_; refine at_world (C := fun W => wpList _ _ _ _ _ W) (F := fun W => Blk W wr.heap.size 69 #[.int .i64 x.before, .int .i64 x.height, .int .i64 x.view, .slice L1 x.list.length e1, .int .i64 x.root, .int .i64 x.eff] ∧ Below wr.heap.size wr W) ⟨(box_new wr 69 #[.int .i64 0, .int .i64 0, .int .i64 0, .slice none 0 0, .int .i64 0, .int .i64 0] #[.int .i64 x.before, .int .i64 x.height, .int .i64 x.view, .slice L1 x.list.length e1, .int .i64 x.root, .int .i64 x.eff]).2.1, (box_new wr 69 #[.int .i64 0, .int .i64 0, .int .i64 0, .slice none 0 0, .int .i64 0, .int .i64 0] #[.int .i64 x.before, .int .i64 x.height, .int .i64 x.view, .slice L1 x.list.length e1, .int .i64 x.root, .int .i64 x.eff]).2.2⟩ ?_; rintro w5 ⟨k5, b5⟩)
      have HY := hide (fun (w' : World) (hb : Below w5.heap.size w5 w') => show w'.cell? ⟨g, 1, none⟩ = some (.slice A' k c') ∧ (w'.cell? ⟨wr.heap.size, 0, none⟩ = some (.int .i64 x.before) ∧ w'.cell? ⟨wr.heap.size, 1, none⟩ = some (.int .i64 x.height) ∧ w'.cell? ⟨wr.heap.size, 2, none⟩ = some (.int .i64 x.view) ∧ w'.cell? ⟨wr.heap.size, 3, none⟩ = some (.slice L1 x.list.length e1) ∧ w'.cell? ⟨wr.heap.size, 4, none⟩ = some (.int .i64 x.root) ∧ w'.cell? ⟨wr.heap.size, 5, none⟩ = some (.int .i64 x.eff)) ∧ Rd w' L1 (x.list.flatMap encA) from ⟨((kg.new_ b5).new_ hb).cell 1, ⟨(k5.new_ hb).cell 0, (k5.new_ hb).cell 1, (k5.new_ hb).cell 2, (k5.new_ hb).cell 3, (k5.new_ hb).cell 4, (k5.new_ hb).cell 5⟩, rx.new (bthen b5 hb)⟩)
      have hF : StBL [bV (.pointer (some ⟨g, 1, none⟩)), bV (.slice A' k c'), bV (.agg #[.int .i64 x.before, .int .i64 x.height, .int .i64 x.view, .slice L1 x.list.length e1, .int .i64 x.root, .int .i64 x.eff]), bkOwn wr.heap.size x, bkRow1 wr.heap.size x] :=
        ⟨sb_V _, sb_V _, sb_V _, sb_bkOwn _ _, sb_bkRow1 _ _, trivial⟩
      go_upto_region 5 with fail
      refine wp_region_loc (by kernel_rfl) [(0, some 20), (1, some 21), (2, some 22), (3, some 23), (4, some 24)] [[], [(0, some 20)], [], [(2, some 22)], [(3, some 23)]] (by kernel_rfl)
        (locB _) (fun a b => Below a.heap.size a b) noR [0, 0, 0, 0, 0] 0 (by kernel_rfl) (fun _ => Below.refl _ _) (fun _ _ _ => bthen) (locB_st hF _) trivial ?_ ?_
      · refine steps_cons ?s0 ( steps_cons ?s1 ( steps_cons ?s2 ( steps_cons ?s3 ( steps_cons ?s4 steps_nil))))
        case s0 =>
          intro w' m' hE hR
          intro Q hQ
          go_wp2
          exact hQ _ _ _ rfl rfl (Below.refl _ _) trivial
        case s1 =>
          intro w' m' hE hR
          rintro _ rfl Q hQ
          obtain ⟨q1, ⟨v0, v1, v2, v3, v4, v5⟩, vr⟩ := unhide HY w' (below_undrew hE)
          go_wp2
          exact hQ _ _ _ rfl rfl (Below.refl _ _) trivial
        case s2 =>
          intro w' m' hE hR
          intro Q hQ
          obtain ⟨q1, ⟨v0, v1, v2, v3, v4, v5⟩, vr⟩ := unhide HY w' (below_undrew hE)
          go_wp2
          exact hQ _ _ _ rfl rfl (Below.refl _ _) trivial
        case s3 =>
          intro w' m' hE hR
          rintro _ rfl Q hQ
          obtain ⟨q1, ⟨v0, v1, v2, v3, v4, v5⟩, vr⟩ := unhide HY w' (below_undrew hE)
          have hsz := hE.size
          have hsz5 := b5.size
          go_wp2_with fail
          refine (bkClone_impl x L1 e1 w' vr (by omega)).mono ?_
          rintro e w2 ⟨B7, d7, rfl, o2, b2⟩
          go_wp2
          exact hQ _ _ _ rfl ⟨B7, d7, rfl, own_base o2 (Nat.le_trans hsz5 hsz)⟩ b2 trivial
        case s4 =>
          intro w' m' hE hR
          rintro _ ⟨B7, d7, rfl, o2⟩ Q hQ
          go_wp2
          exact hQ _ _ _ rfl ⟨_, B7, d7, rfl, rd_lit w' (bkV x B7 d7) _, own_alloc o2 _⟩ ((Below.refl _ _).alloc (Nat.le_refl _) _) trivial
      intro w7 hE _
      rintro v0 - v1 hv1 v2 - v3 - v4 ⟨ql, A7, c7, rfl, rl, o7s⟩
      obtain rfl : v1 = _ := hv1
      change wpList _ _ _ [_, _, _] _ _
      simp only [Act.put, List.setIfInBounds_toArray, List.set_cons_succ, List.set_cons_zero]
      have b57 := bthen b5 (below_undrew hE)
      clear hE hF
      have hs7 := b57.size
      have oA := own_new hown b57
      have kg7s := kg.new_ b57
      go_wp2_with (at_builtin; refine wpList_app rfl (.tmp 21) (.tmp 24) 29 rfl el_bk rfl oA rfl rl rfl (bkV_one x A7 c7) (by simp only [maxLen]; omega) (by omega) (by omega) ?_; intro A8 c8 w8 o8 ch8 d8 _; have kg8 := kg7s.chg ch8 (fun e => by have := unhide HRO _ e; omega); have h1 : w8.cell? ⟨g, 1, none⟩ = some (.slice A' k c') := kg8.cell 1; have h2 : w8.frozen? ⟨g, 1, none⟩ = false := kg8.frozen 1)
      have hx : bkO x w7 (bkV x A7 c7) (blk A7) := ⟨A7, c7, rfl, own_base0 o7s, rfl⟩
      have hfb : ∀ q ∈ blk A7, wr.heap.size ≤ q := fun q hq => (blk_own o7s hq).2.1
      obtain ⟨hall8, hnd8, hF8, hown8⟩ := grow_step2 bkO_good bk_good hall hnd (unhide HF) hown hwr b57 hx (blk_nodup _) hfb ch8 d8 (by simpa [bkV] using o8)
      have chG : Chg (fun q => q = g) w8 (w8.setCell ⟨g, 1, none⟩ (.slice A8 (k + 1) c8)) := (Chg.refl (fun q => q = g) w8).setCell (p := ⟨g, 1, none⟩) (.inl rfl) _
      have hall9 := hall8.keep bkO_good (w' := w8.setCell ⟨g, 1, none⟩ (.slice A8 (k + 1) c8)) (fun q hq hqw => chG.block q hqw (fun e => by have := (hF8 q hq).1; omega))
      have hrg8 := own_rng hown8
      have hown9 := own_chg hown8 chG (fun q hq e => by have := hrg8 q hq; omega)
      have kg9 : Blk (w8.setCell ⟨g, 1, none⟩ (.slice A8 (k + 1) c8)) g 31 #[.slice B1 t.base.length d1, .slice A8 (k + 1) c8, .slice B3 t.before.length d3] := kg8.set_ 1 _
      have hr1 := unhide HR1
      have hr3 := unhide HR3
      have far : ∀ q, q < W2.heap.size → ¬ A' = some ⟨q, 0, none⟩ := fun q hq e => by have := unhide HRO q e; omega
      have hga : ∀ q, W.heap.size ≤ q → q < W2.heap.size → q ≠ g → (w8.setCell ⟨g, 1, none⟩ (.slice A8 (k + 1) c8)).heap[q]? = wr.heap[q]? := fun q h1 h2 h3 => by
        have t1 := hs7
        rw [chG.block q (by have := ch8.size; omega) h3, ch8.block q (by omega) (far q h2), b57.block q (by omega)]
      have p19 := own_keep p1 (w' := w8.setCell ⟨g, 1, none⟩ (.slice A8 (k + 1) c8)) (fun q hq hqw => hga q (hr1 q hq).1 (hr1 q hq).2 (fun e => unhide HGA1 (by rw [← e]; exact hq)))
      have p39 := own_keep p3 (w' := w8.setCell ⟨g, 1, none⟩ (.slice A8 (k + 1) c8)) (fun q hq hqw => hga q (hr3 q hq).1 (hr3 q hq).2 (fun e => unhide HGA3 (by rw [← e]; exact hq)))
      have hsz9 : W2.heap.size ≤ (w8.setCell ⟨g, 1, none⟩ (.slice A8 (k + 1) c8)).heap.size := by have := ch8.size; have := chG.size; omega
      have hB9 : Below W.heap.size W (w8.setCell ⟨g, 1, none⟩ (.slice A8 (k + 1) c8)) := ((bthen hB b57).trans (ch8.below (fun q hq e => by have := unhide HRO q e; omega) (by omega))).trans (chG.below (fun q hq e => by have := unhide HGW; omega) (by have := ch8.size; omega))
      have HF8h := hide hF8
      go_roundw
      case rel => exact ⟨k + 1, A8, c8, _, _, by omega, by go_num, by rw [unhide HT]; exact hall9, hnd8, HF8h, hown9, kg9, p19, p39, hsz9, hB9⟩
      case measure => simp [intOf]; omega
    · obtain rfl : k = t.blocks.length := by omega
      rw [List.take_length] at hall
      have hgd := grow_done hall hnd (unhide HF) hown
      have kR := unhide HK1 wr hB
      have hwW := hB.size
      go_wp2_with (refine wpList_store_row rfl 31 (.tmp 2) (.tmp 28) rfl (w.heap.size + 1) #[.slice B1 t.base.length d1, .slice A' t.blocks.length c', .slice B3 t.before.length d3] rfl rfl 31 #[.slice none 0 0, .slice none 0 0, .slice none 0 0] kR info_tr rfl (sl3_one _ _ _ _ _ _ _ _ _) ?_)
      refine bodyPost_ret (v := .agg #[.slice B1 t.base.length d1, .slice A' t.blocks.length c', .slice B3 t.before.length d3]) (results_cell_row (p := 2) (ty := 31) rfl _ _ (w.heap.size + 1) 31 #[.slice B1 t.base.length d1, .slice A' t.blocks.length c', .slice B3 t.before.length d3] (0, 0) _ rfl (blk_setRow kR) Tryz.underlying31 rfl info_tr) rfl ?_
      refine ⟨B1, d1, A', c', B3, d3, _, rfl, ⟨own_base (own_setRow p1 (by omega) _) (by omega), hgd.1.keep bkO_good (fun q hq _ => setRow_other wr (w.heap.size + 1) q _ (by have := hgd.2 q hq; omega)), own_base (own_setRow p3 (by omega) _) (by omega), fun q hq => by have := hgd.2 q hq; omega, fun q hq hq2 => ?_, unhide HA13, fun q hq hq2 => ?_⟩, below_setRow (bthen' hb0 hB) (by omega) _⟩
      · have := unhide HR1 q hq
        have := hgd.2 q hq2
        omega
      · have := unhide HR3 q hq
        have := hgd.2 q hq2
        omega
end Go.Proofs.YtmpdopjailomlaaGreat
namespace Go.Proofs.YtmpdopjailomlaaGreat
open Go.RowKit
set_option linter.unusedVariables false
set_option linter.unusedSimpArgs false

def pruneOk (t : Tr) (n : Int) : Bool := treeB t && inB n 0 ((t.blocks.length : Int) - 1)
def pruneT (t : Tr) (n : Int) : Tr := if treeB t = true then (if inB n 0 ((t.blocks.length : Int) - 1) = true then ⟨t.base, (keptL t n).map fun k => bAt t k.toNat, (keptL t n).map fun k => idxL (pAt t k.toNat) 0 (keptL t n)⟩ else t) else ⟨[], [], []⟩
theorem pruneT_no {t : Tr} {n : Int} (h : treeB t = false) : pruneT t n = ⟨[], [], []⟩ := by rw [pruneT, if_neg (by simp [h])]
theorem pruneT_out {t : Tr} {n : Int} (h : treeB t = true) (hn : inB n 0 ((t.blocks.length : Int) - 1) = false) : pruneT t n = t := by rw [pruneT, if_pos h, if_neg (by simp [hn])]
theorem pruneT_yes {t : Tr} {n : Int} (h : treeB t = true) (hn : inB n 0 ((t.blocks.length : Int) - 1) = true) : pruneT t n = ⟨t.base, (keptL t n).map fun k => bAt t k.toNat, (keptL t n).map fun k => idxL (pAt t k.toNat) 0 (keptL t n)⟩ := by rw [pruneT, if_pos h, if_pos hn]
theorem pruneT_lens (t : Tr) (n : Int) : (pruneT t n).base.length ≤ t.base.length ∧ (pruneT t n).blocks.length ≤ t.blocks.length ∧ ((pruneT t n).before.length ≤ t.before.length ∨ (pruneT t n).before.length ≤ t.blocks.length) := by
  have := keptL_len t n
  unfold pruneT
  split
  · split
    · simp [this]
    · simp
  · simp
theorem keptGo_asc (t : Tr) (n : Int) : ∀ k, (keptGo t n k).Pairwise (· < ·)
  | 0 => List.Pairwise.nil
  | k + 1 => by
    rw [keptGo]
    split
    · rw [List.pairwise_append]
      exact ⟨keptGo_asc t n k, by simp, fun a ha b hb => by rw [List.mem_singleton] at hb; rw [hb]; exact (keptGo_mem t n k a ha).2⟩
    · exact keptGo_asc t n k
theorem keptL_asc (t : Tr) (n : Int) : (keptL t n).Pairwise (· < ·) := by
  unfold keptL
  split
  · exact keptGo_asc t n _
  · exact List.Pairwise.nil
theorem keptL_self {t : Tr} {n : Int} (h : treeB t = true) (hn : inB n 0 ((t.blocks.length : Int) - 1) = true) : keptL t n ≠ [] := by
  have hb := inB_true.1 hn
  rw [keptL_yes h hn]
  have key : ∀ k : Nat, n < k → n ∈ keptGo t n k := by
    intro k
    induction k with
    | zero => intro hk; omega
    | succ k ih =>
      intro hk
      rw [keptGo]
      by_cases he : n = (k : Int)
      · have hm : n ∈ pathT t n := by rw [pathT_step h hb.1 (by omega)]; simp
        rw [if_pos (by rw [keepB, ← he]; simp [hm]), ← he]
        simp
      · have := ih (by omega)
        split
        · exact List.mem_append_left _ this
        · exact this
  have := key t.blocks.length (by omega)
  intro he
  rw [he] at this
  cases this
/-- the last place below j that holds z -/
def lastI (z : Int) (xs : List Int) : Nat → Int
  | 0 => -1
  | j + 1 => if xs.getD j 0 = z then (j : Int) else lastI z xs j
theorem asc_lt {xs : List Int} (h : xs.Pairwise (· < ·)) {i j : Nat} (hi : i < j) (hj : j < xs.length) : xs[i]'(by omega) < xs[j] := List.pairwise_iff_getElem.1 h i j (by omega) hj hi
theorem lastI_idx {xs : List Int} (h : xs.Pairwise (· < ·)) {z : Int} {k : Nat} (hk : k < xs.length) (hz : z < xs[k]) : lastI z xs k = idxL z 0 xs := by
  by_cases hm : z ∈ xs
  · obtain ⟨i, hi, rfl⟩ := List.getElem_of_mem hm
    have hik : i < k := by
      rcases Nat.lt_or_ge i k with h1 | h1
      · exact h1
      · rcases Nat.lt_or_ge k i with h2 | h2
        · have := asc_lt h h2 hi; omega
        · have : i = k := by omega
          subst this; omega
    rw [idxL_some 0 i hi rfl (fun j hj hji he => by have := asc_lt h hji hi; omega)]
    have key : ∀ j, j ≤ xs.length → i < j → lastI xs[i] xs j = (i : Int) := by
      intro j
      induction j with
      | zero => intro _ hj; omega
      | succ j ih =>
        intro hjl hj
        have e1 : xs.getD j 0 = xs[j]'(by omega) := by rw [List.getD_eq_getElem?_getD, List.getElem?_eq_getElem (by omega), Option.getD_some]
        rw [lastI, e1]
        by_cases he : j = i
        · subst he; rw [if_pos rfl]
        · have := asc_lt h (show i < j by omega) (by omega)
          rw [if_neg (by omega), ih (by omega) (by omega)]
    rw [key k (by omega) hik]
    simp
  · rw [idxL_none 0 hm]
    have key : ∀ j, j ≤ xs.length → lastI z xs j = -1 := by
      intro j
      induction j with
      | zero => intro _; rfl
      | succ j ih =>
        intro hj
        have e1 : xs.getD j 0 = xs[j]'(by omega) := by rw [List.getD_eq_getElem?_getD, List.getElem?_eq_getElem (by omega), Option.getD_some]
        rw [lastI, e1, if_neg (fun e => hm (by rw [← e]; exact List.getElem_mem _)), ih (by omega)]
    exact key k (by omega)
theorem idxL_bd (z : Int) (xs : List Int) : ∀ n, -1 ≤ idxL z n xs ∧ idxL z n xs ≤ n + xs.length := by
  induction xs with
  | nil => intro n; simp [idxL]
  | cons x xs ih =>
    intro n
    rw [idxL]
    have := ih (n + 1)
    split
    · simp; omega
    · simp at *; omega
/-- a row of one block by value -/
def rowB (x : Bk) (A : Option Addr) (c : Nat) (v : Value) (w : World) : Prop := ∃ q, v = .slice (some ⟨q, 0, none⟩) 1 1 ∧ Rd w (some ⟨q, 0, none⟩) (bkV x A c)
theorem sb_rowB (x : Bk) (A : Option Addr) (c : Nat) : StB (rowB x A c) := fun _ _ _ hb ⟨q, h1, h2⟩ => ⟨q, h1, h2.new hb⟩
def rowI (z : Int) (v : Value) (w : World) : Prop := ∃ q, v = .slice (some ⟨q, 0, none⟩) 1 1 ∧ Rd w (some ⟨q, 0, none⟩) [Value.int .i64 z]
theorem sb_rowI (z : Int) : StB (rowI z) := fun _ _ _ hb ⟨q, h1, h2⟩ => ⟨q, h1, h2.new hb⟩
theorem trO_nil (w : World) (B : Nat) : TrO w B ⟨[], [], []⟩ none 0 none 0 none 0 [] := ⟨own_nil _ _ _ _, ownD_nil _ _ _ _, own_nil _ _ _ _, by simp, by simp, by simp, by simp⟩
theorem trO_setRow {w : World} {B : Nat} {t : Tr} {A1 A2 A3 : Option Addr} {c1 c2 c3 : Nat} {fp : List Nat} (h : TrO w B t A1 c1 A2 c2 A3 c3 fp) {g : Nat} (hg : g < B) (ds : Array Value) : TrO (w.setRow g ds) B t A1 c1 A2 c2 A3 c3 fp :=
  ⟨own_setRow h.o1 hg ds, h.o2.keep bkO_good (fun q hq _ => setRow_other w g q ds (by have := h.ge q hq; omega)), own_setRow h.o3 hg ds, h.ge, h.a12, h.a13, h.a23⟩
theorem trO_base {w : World} {B B' : Nat} {t : Tr} {A1 A2 A3 : Option Addr} {c1 c2 c3 : Nat} {fp : List Nat} (h : TrO w B t A1 c1 A2 c2 A3 c3 fp) (hB : B' ≤ B) : TrO w B' t A1 c1 A2 c2 A3 c3 fp :=
  ⟨own_base h.o1 hB, h.o2, own_base h.o3 hB, fun k hk => Nat.le_trans hB (h.ge k hk), h.a12, h.a13, h.a23⟩
theorem below_le {B B' : Nat} {a b : World} (h : Below B a b) (hle : B' ≤ B) : Below B' a b := ⟨h.os, h.tape, h.output, h.size, fun q hq => h.block q (Nat.lt_of_lt_of_le hq hle)⟩
theorem ne_bi : (69 : TypeId) ≠ 3 := by decide
set_option maxRecDepth 100000 in
set_option maxHeartbeats 8000000 in
theorem prune_impl (t : Tr) (A1 : Option Addr) (c1 : Nat) (A2 : Option Addr) (c2 : Nat) (A3 : Option Addr) (c3 : Nat) (n : Int) (w : World) (h : TrR w t A1 A2 A3) (hb1 : t.base.length ≤ 1099511627776) (hb2 : t.blocks.length ≤ 1099511627776) (hbs : ∀ x ∈ t.blocks, x.list.length ≤ 1099511627776) (hb3 : t.before.length ≤ 1099511627776) :
    Calls Tryz.prog 10 #[.agg (trA t A1 c1 A2 c2 A3 c3), .int .i64 n] w fun e w' => ∃ B1 d1 B2 d2 B3 d3 fp, e = .returned (.tuple #[.agg (trA (pruneT t n) B1 d1 B2 d2 B3 d3), .bool (pruneOk t n)]) ∧ TrO w' w.heap.size (pruneT t n) B1 d1 B2 d2 B3 d3 fp ∧ Below w.heap.size w w' := by
  have HBS := hide hbs
  clear hbs
  have HR := hide (fun w' (hb : Below w.heap.size w w') => h.new hb)
  have hT := h
  have HAK := hide (fun w' (hb : Below w.heap.size w w') => kept_impl t A1 c1 A2 c2 A3 c3 n w' (unhide HR w' hb) hb1 hb2 (unhide HBS) hb3)
  have HCL := hide (fun w' (hb : Below w.heap.size w w') => clone_impl t A1 c1 A2 c2 A3 c3 w' (unhide HR w' hb) hb1 hb2 (unhide HBS) hb3)
  have KH := fun w' => has_impl t A1 c1 A2 c2 A3 c3 n w' hb2
  simp only [trA] at HAK HCL KH ⊢
  have k0 : Blk ((w.alloc (.cells #[.slice A1 t.base.length c1, .slice A2 t.blocks.length c2, .slice A3 t.before.length c3] 31)).alloc (.cells #[.slice none 0 0, .slice none 0 0, .slice none 0 0] 31)) w.heap.size 31 #[.slice A1 t.base.length c1, .slice A2 t.blocks.length c2, .slice A3 t.before.length c3] := (Blk.new _ _ _).alloc _
  have kr : Blk ((w.alloc (.cells #[.slice A1 t.base.length c1, .slice A2 t.blocks.length c2, .slice A3 t.before.length c3] 31)).alloc (.cells #[.slice none 0 0, .slice none 0 0, .slice none 0 0] 31)) (w.heap.size + 1) 31 #[.slice none 0 0, .slice none 0 0, .slice none 0 0] := by
    have := Blk.new (w.alloc (.cells #[.slice A1 t.base.length c1, .slice A2 t.blocks.length c2, .slice A3 t.before.length c3] 31)) 31 #[.slice none 0 0, .slice none 0 0, .slice none 0 0]
    simpa using this
  have hb0 : Below w.heap.size w ((w.alloc (.cells #[.slice A1 t.base.length c1, .slice A2 t.blocks.length c2, .slice A3 t.before.length c3] 31)).alloc (.cells #[.slice none 0 0, .slice none 0 0, .slice none 0 0] 31)) := ((Below.refl _ _).alloc (Nat.le_refl _) _).alloc (by simp) _
  have hz0 := kr.lt
  have KV := treeValid_impl t A1 c1 A2 c2 A3 c3 ((w.alloc (.cells #[.slice A1 t.base.length c1, .slice A2 t.blocks.length c2, .slice A3 t.before.length c3] 31)).alloc (.cells #[.slice none 0 0, .slice none 0 0, .slice none 0 0] 31)) (unhide HR _ hb0) hb1 hb2 (unhide HBS) hb3
  simp only [trA] at KV
  have x0 : ((w.alloc (.cells #[.slice A1 t.base.length c1, .slice A2 t.blocks.length c2, .slice A3 t.before.length c3] 31)).alloc (.cells #[.slice none 0 0, .slice none 0 0, .slice none 0 0] 31)).cell? ⟨w.heap.size, 0, none⟩ = some (.slice A1 t.base.length c1) := k0.cell 0
  have x1 : ((w.alloc (.cells #[.slice A1 t.base.length c1, .slice A2 t.blocks.length c2, .slice A3 t.before.length c3] 31)).alloc (.cells #[.slice none 0 0, .slice none 0 0, .slice none 0 0] 31)).cell? ⟨w.heap.size, 1, none⟩ = some (.slice A2 t.blocks.length c2) := k0.cell 1
  have x2 : ((w.alloc (.cells #[.slice A1 t.base.length c1, .slice A2 t.blocks.length c2, .slice A3 t.before.length c3] 31)).alloc (.cells #[.slice none 0 0, .slice none 0 0, .slice none 0 0] 31)).cell? ⟨w.heap.size, 2, none⟩ = some (.slice A3 t.before.length c3) := k0.cell 2
  clear h
  go_enter Tryz.func10, Tryz.ntmps10
  go_wp2_with fail
  refine KV.mono ?_
  rintro e w3 ⟨rfl, b3⟩
  replace k0 := k0.new_ b3
  replace kr := kr.new_ b3
  have hw3 : w.heap.size + 1 < w3.heap.size := Nat.lt_of_lt_of_le hz0 b3.size
  replace hb0 := bthen hb0 b3
  clear KV x0 x1 x2 b3 hz0
  have x0 : w3.cell? ⟨w.heap.size, 0, none⟩ = some (.slice A1 t.base.length c1) := k0.cell 0
  have x1 : w3.cell? ⟨w.heap.size, 1, none⟩ = some (.slice A2 t.blocks.length c2) := k0.cell 1
  have x2 : w3.cell? ⟨w.heap.size, 2, none⟩ = some (.slice A3 t.before.length c3) := k0.cell 2
  cases hv : treeB t
  · have HF := hide (show pruneOk t n = false by simp [pruneOk, hv])
    have HA := hide (pruneT_no (n := n) hv)
    go_wp2_with (refine wpList_store_row rfl 31 (.tmp 4) (.tmp 13) rfl (w.heap.size + 1) #[.slice none 0 0, .slice none 0 0, .slice none 0 0] rfl rfl 31 #[.slice none 0 0, .slice none 0 0, .slice none 0 0] kr info_tr rfl (sl3_one _ _ _ _ _ _ _ _ _) ?_)
    refine bodyPost_ret (v := .tuple #[.agg #[.slice none 0 0, .slice none 0 0, .slice none 0 0], .bool false]) (results_cell_tmp (p := 4) (q := 5) (ty := 31) rfl _ _ (w.heap.size + 1) 31 #[.slice none 0 0, .slice none 0 0, .slice none 0 0] (0, 0) _ rfl (blk_setRow kr) Tryz.underlying31 rfl info_tr) rfl ?_
    rw [unhide HA, unhide HF]
    exact ⟨none, 0, none, 0, none, 0, [], rfl, trO_nil _ _, below_setRow hb0 (by omega) _⟩
  have HV := hide hv
  have hl14 := (treeB_yes hv).2.2.1
  have HLB := hide (treeB_yes hv).2.2.2.1
  clear hv
  cases hin : inB n 0 ((t.blocks.length : Int) - 1)
  · have HF := hide (show pruneOk t n = false by simp [pruneOk, hin])
    have HA := hide (pruneT_out (unhide HV) hin)
    go_wp2_with fail
    refine (KH w3).mono ?_
    rintro e w4 ⟨rfl, b4⟩
    rw [hin]
    replace k0 := k0.new_ b4
    replace kr := kr.new_ b4
    replace hw3 := Nat.lt_of_lt_of_le hw3 b4.size
    replace hb0 := bthen hb0 b4
    have y0 : w4.cell? ⟨w.heap.size, 0, none⟩ = some (.slice A1 t.base.length c1) := k0.cell 0
    have y1 : w4.cell? ⟨w.heap.size, 1, none⟩ = some (.slice A2 t.blocks.length c2) := k0.cell 1
    have y2 : w4.cell? ⟨w.heap.size, 2, none⟩ = some (.slice A3 t.before.length c3) := k0.cell 2
    go_wp2_with fail
    refine (unhide HCL w4 hb0).mono ?_
    rintro e w5 ⟨B1, d1, B2, d2, B3, d3, fp, rfl, tO, b5⟩
    replace kr := kr.new_ b5
    have hs5 := b5.size
    go_wp2_with (refine wpList_store_row rfl 31 (.tmp 4) (.tmp 19) rfl (w.heap.size + 1) #[.slice B1 t.base.length d1, .slice B2 t.blocks.length d2, .slice B3 t.before.length d3] rfl rfl 31 #[.slice none 0 0, .slice none 0 0, .slice none 0 0] kr info_tr rfl (sl3_one _ _ _ _ _ _ _ _ _) ?_)
    refine bodyPost_ret (v := .tuple #[.agg #[.slice B1 t.base.length d1, .slice B2 t.blocks.length d2, .slice B3 t.before.length d3], .bool false]) (results_cell_tmp (p := 4) (q := 5) (ty := 31) rfl _ _ (w.heap.size + 1) 31 #[.slice B1 t.base.length d1, .slice B2 t.blocks.length d2, .slice B3 t.before.length d3] (0, 0) _ rfl (blk_setRow kr) Tryz.underlying31 rfl info_tr) rfl ?_
    rw [unhide HA, unhide HF]
    exact ⟨B1, d1, B2, d2, B3, d3, fp, rfl, trO_base (trO_setRow tO (by omega) _) (by omega), below_setRow (bthen hb0 b5) (by omega) _⟩
  have HF := hide (show pruneOk t n = true by rw [pruneOk, unhide HV, hin]; rfl)
  have HA := hide (pruneT_yes (unhide HV) hin)
  go_wp2_with fail
  refine (KH w3).mono ?_
  rintro e w4 ⟨rfl, b4⟩
  rw [hin]
  clear hin
  replace k0 := k0.new_ b4
  replace kr := kr.new_ b4
  replace hw3 := Nat.lt_of_lt_of_le hw3 b4.size
  replace hb0 := bthen hb0 b4
  have y0 : w4.cell? ⟨w.heap.size, 0, none⟩ = some (.slice A1 t.base.length c1) := k0.cell 0
  have y1 : w4.cell? ⟨w.heap.size, 1, none⟩ = some (.slice A2 t.blocks.length c2) := k0.cell 1
  have y2 : w4.cell? ⟨w.heap.size, 2, none⟩ = some (.slice A3 t.before.length c3) := k0.cell 2
  go_wp2_with fail
  refine (unhide HAK w4 hb0).mono ?_
  rintro e w5 ⟨AK, ck, rfl, oK, b5⟩
  clear y0 y1 y2 x0 x1 x2
  replace k0 := k0.new_ b5
  replace kr := kr.new_ b5
  have hs4 := b5.size
  replace hb0 := bthen hb0 b5
  have hkl := keptL_len t n
  have HKM := hide (fun x (hx : x ∈ keptL t n) => (keptL_mem (t := t) (n := n) hx).2)
  have y0 : w5.cell? ⟨w.heap.size, 0, none⟩ = some (.slice A1 t.base.length c1) := k0.cell 0
  have HAM := hide (show pruneT t n = ⟨t.base, (keptL t n).map fun k => bAt t k.toNat, (keptL t n).map fun k => idxL (pAt t k.toNat) 0 (keptL t n)⟩ from unhide HA)
  generalize hks : keptL t n = ks at *
  have HKS := hide hks
  clear hks HA
  go_wp2_with (refine wpList_store_row rfl 31 (.tmp 7) (.tmp 25) rfl w5.heap.size #[.slice A1 t.base.length c1, .slice none 0 0, .slice none 0 0] rfl rfl 31 #[.slice none 0 0, .slice none 0 0, .slice none 0 0] (box_new w5 31 #[.slice none 0 0, .slice none 0 0, .slice none 0 0] #[.slice A1 t.base.length c1, .slice none 0 0, .slice none 0 0]).1 info_tr rfl (sl3_one _ _ _ _ _ _ _ _ _) ?_; refine at_world (C := fun W => wpList _ _ _ _ _ W) (F := fun W => Blk W w5.heap.size 31 #[.slice A1 t.base.length c1, .slice none 0 0, .slice none 0 0] ∧ Below w5.heap.size w5 W) ⟨(box_new w5 31 #[.slice none 0 0, .slice none 0 0, .slice none 0 0] #[.slice A1 t.base.length c1, .slice none 0 0, .slice none 0 0]).2.1, (box_new w5 31 #[.slice none 0 0, .slice none 0 0, .slice none 0 0] #[.slice A1 t.base.length c1, .slice none 0 0, .slice none 0 0]).2.2⟩ ?_; rintro w6 ⟨kg, b6⟩)
  obtain ⟨g, hg⟩ : ∃ g, g = w5.heap.size := ⟨_, rfl⟩
  rw [← hg] at kg ⊢
  have hs6 := b6.size
  have hgl := kg.lt
  have hgw : w.heap.size + 1 < g := by omega
  have hg5 : w5.heap.size ≤ g := by omega
  clear hg
  replace k0 := k0.new_ b6
  replace kr := kr.new_ b6
  have HOK := hide oK
  have hb56 := b6
  replace hb0 := bthen hb0 b6
  have HKO := hide (fun (w' : World) (hb : Below w5.heap.size w5 w') => (own_rd (own_new (unhide HOK) hb) : Rd w' AK (ks.map (.int .i64))))
  clear oK b6 y0 KH
  go_loopw [9, 28] (fun _ i wr => ∃ (k : Nat) (A' : Option Addr) (c' : Nat) (D : Option Addr) (e' : Nat) (vs : List (List Value)), k ≤ ks.length ∧ i = .int .i64 k ∧ AllR bkR (fun _ => True) w ((ks.take k).map fun k => bAt t k.toNat) vs ∧ wr.ownsRow w6.heap.size 69 6 (.slice A' k c') k vs.flatten ∧ wr.ownsRow w6.heap.size 3 1 (.slice D k e') k (((ks.take k).map fun k => idxL (pAt t k.toNat) 0 ks).map (.int .i64)) ∧ Blk wr g 31 #[.slice A1 t.base.length c1, .slice A' k c', .slice D k e'] ∧ Chg (fun q => q = g) w6 wr) (fun _ i _ => ks.length - (intOf i).toNat)
  case atStart => exact ⟨0, none, 0, none, 0, [], Nat.zero_le _, rfl, trivial, own_nil _ _ _ _, own_nil _ _ _ _, kg, Chg.refl _ _⟩
  case round =>
    clear kg
    obtain ⟨k, A', c', D, e', vs, hk, rfl, hall, oB, oD, kg, hch⟩ := hrel
    have hgsz := hch.size
    have hB5 : Below w5.heap.size w5 wr := hb56.trans (hch.below (fun q hq e => by omega) (by omega))
    have hBw : Below w.heap.size w wr := hb0.trans (hch.below (fun q hq e => by omega) (by omega))
    have HRB := hide (own_rng oB)
    have HRD := hide (own_rng oD)
    have kb := k0.chg hch (by omega)
    have krr := kr.chg hch (by omega)
    by_cases hlt : k < ks.length
    · have i1 : (k : Int) < (ks.length : Int) := by omega
      obtain ⟨bk, offk, hAK, hkb, zk⟩ := (unhide HKO wr hB5).int hlt
      have hkm := unhide HKM ks[k] (List.getElem_mem hlt)
      have HT := hide (show ks.take (k + 1) = ks.take k ++ [ks[k]] from List.take_succ_eq_append_getElem hlt)
      generalize ks[k] = p at *
      obtain ⟨v, rfl⟩ := Int.eq_ofNat_of_zero_le hkm.1
      have hvn : v < t.blocks.length := by omega
      have hvp : v < t.before.length := by have := unhide HLB; omega
      have i2 : (v : Int) < (t.blocks.length : Int) := by omega
      have i3 : (v : Int) < (t.before.length : Int) := by omega
      obtain ⟨bq, offq, L1, e1, hA2, -, hbb, q0, q1, q2, q3, q4, q5, hlc, r1⟩ := hT.b2.bk hvn
      have HXB := hide (show bAt t v = t.blocks[v] from bAt_get t hvn)
      have hbx : bkR (fun _ => True) t.blocks[v] w (bkV t.blocks[v] L1 e1) := ⟨L1, e1, rfl, hlc, r1⟩
      generalize t.blocks[v] = x at *
      obtain ⟨bp, offp, hA3, hpb, zp⟩ := pAt_cell hT.b3 hvp
      have HIX := hide (idxL_bd (pAt t v) ks 0)
      have HAKE := hide hAK
      have HA2 := hide hA2
      have HA3 := hide hA3
      have HX := hide (fun (w' : World) (hb : Below w5.heap.size wr w') => show (w'.cell? ⟨w.heap.size, 1, none⟩ = some (.slice A2 t.blocks.length c2) ∧ w'.cell? ⟨w.heap.size, 2, none⟩ = some (.slice A3 t.before.length c3)) ∧ (w'.cell? ⟨bq, offq + v * 6, none⟩ = some (.int .i64 x.before) ∧ w'.cell? ⟨bq, offq + v * 6 + 1, none⟩ = some (.int .i64 x.height) ∧ w'.cell? ⟨bq, offq + v * 6 + 2, none⟩ = some (.int .i64 x.view) ∧ w'.cell? ⟨bq, offq + v * 6 + 3, none⟩ = some (.slice L1 x.list.length e1) ∧ w'.cell? ⟨bq, offq + v * 6 + 4, none⟩ = some (.int .i64 x.root) ∧ w'.cell? ⟨bq, offq + v * 6 + 5, none⟩ = some (.int .i64 x.eff)) ∧ w'.cell? ⟨bp, offp + v, none⟩ = some (.int .i64 (pAt t v)) ∧ Rd w' (some ⟨bk, offk, none⟩) (ks.map (.int .i64)) from by
        have hbw : Below w.heap.size w w' := hBw.trans ⟨hb.os, hb.tape, hb.output, hb.size, fun q hq => hb.block q (by omega)⟩
        have kb' : Blk w' w.heap.size 31 #[.slice A1 t.base.length c1, .slice A2 t.blocks.length c2, .slice A3 t.before.length c3] := (hb.block w.heap.size (by omega)).trans kb
        exact ⟨⟨kb'.cell 1, kb'.cell 2⟩, ⟨(hbw.cell (p := ⟨bq, offq + v * 6, none⟩) hbb).trans q0, (hbw.cell (p := ⟨bq, offq + v * 6 + 1, none⟩) hbb).trans q1, (hbw.cell (p := ⟨bq, offq + v * 6 + 2, none⟩) hbb).trans q2, (hbw.cell (p := ⟨bq, offq + v * 6 + 3, none⟩) hbb).trans q3, (hbw.cell (p := ⟨bq, offq + v * 6 + 4, none⟩) hbb).trans q4, (hbw.cell (p := ⟨bq, offq + v * 6 + 5, none⟩) hbb).trans q5⟩, (hbw.cell (p := ⟨bp, offp + v, none⟩) hpb).trans zp, by rw [← unhide HAKE]; exact unhide HKO w' (hB5.trans hb)⟩)
      clear hAK hA2 hA3 q0 q1 q2 q3 q4 q5 r1 hlc zp hkm
      have kgl := kg.lt
      rw [unhide HAKE]
      go_wp2
      have hF : StBL [bV (.pointer (some ⟨g, 1, none⟩)), bV (.slice A' k c'), bV (.pointer (some ⟨w.heap.size, 1, none⟩)), bV (.slice (some ⟨bq, offq, none⟩) t.blocks.length c2), bV (.int .i64 (v : Int)), bV (.pointer (some ⟨bq, offq + v * 6, none⟩)), bV (.agg #[.int .i64 x.before, .int .i64 x.height, .int .i64 x.view, .slice L1 x.list.length e1, .int .i64 x.root, .int .i64 x.eff]), rowB x L1 e1] :=
        ⟨sb_V _, sb_V _, sb_V _, sb_V _, sb_V _, sb_V _, sb_V _, sb_rowB _ _ _, trivial⟩
      go_upto_region 10 with fail
      refine wp_region_loc (by kernel_rfl) [(0, some 32), (1, some 33), (2, some 34), (3, some 35), (4, some 36), (5, some 37), (6, some 38), (7, some 39)] [[], [(0, some 32)], [], [(2, some 34)], [], [(3, some 35), (4, some 36)], [(5, some 37)], [(6, some 38)]] (by kernel_rfl)
        (locB _) (fun a b => Below a.heap.size a b) noR [0, 0, 0, 0, 0, 0, 0, 0] 0 (by kernel_rfl) (fun _ => Below.refl _ _) (fun _ _ _ => bthen) (locB_st hF _) trivial ?_ ?_
      · refine steps_cons ?s0 ( steps_cons ?s1 ( steps_cons ?s2 ( steps_cons ?s3 ( steps_cons ?s4 ( steps_cons ?s5 ( steps_cons ?s6 ( steps_cons ?s7 steps_nil)))))))
        case s0 =>
          intro w' m' hE hR
          intro Q hQ
          go_wp2
          exact hQ _ _ _ rfl rfl (Below.refl _ _) trivial
        case s1 =>
          intro w' m' hE hR
          rintro _ rfl Q hQ
          have s1 : w'.cell? ⟨g, 1, none⟩ = some (.slice A' k c') := (kg.new_ (below_undrew hE)).cell 1
          go_wp2
          exact hQ _ _ _ rfl rfl (Below.refl _ _) trivial
        case s2 =>
          intro w' m' hE hR
          intro Q hQ
          go_wp2
          exact hQ _ _ _ rfl rfl (Below.refl _ _) trivial
        case s3 =>
          intro w' m' hE hR
          rintro _ rfl Q hQ
          obtain ⟨⟨s1, s2⟩, ⟨u0, u1, u2, u3, u4, u5⟩, u6, u7⟩ := unhide HX w' (below_le (below_undrew hE) (by omega))
          rw [unhide HA2] at s1
          go_wp2
          exact hQ _ _ _ rfl rfl (Below.refl _ _) trivial
        case s4 =>
          intro w' m' hE hR
          intro Q hQ
          go_wp2
          exact hQ _ _ _ rfl rfl (Below.refl _ _) trivial
        case s5 =>
          intro w' m' hE hR
          rintro _ rfl _ rfl Q hQ
          go_wp2
          exact hQ _ _ _ rfl rfl (Below.refl _ _) trivial
        case s6 =>
          intro w' m' hE hR
          rintro _ rfl Q hQ
          obtain ⟨⟨s1, s2⟩, ⟨u0, u1, u2, u3, u4, u5⟩, u6, u7⟩ := unhide HX w' (below_le (below_undrew hE) (by omega))
          go_wp2
          exact hQ _ _ _ rfl rfl (Below.refl _ _) trivial
        case s7 =>
          intro w' m' hE hR
          rintro _ rfl Q hQ
          go_wp2
          exact hQ _ _ _ rfl ⟨_, rfl, rd_lit w' (bkV x L1 e1) _⟩ ((Below.refl _ _).alloc (Nat.le_refl _) _) trivial
      intro w7 hE _
      rintro v0 - v1 hv1 v2 - v3 - v4 - v5 - v6 - v7 ⟨ql, rfl, rl⟩
      obtain rfl : v1 = _ := hv1
      change wpList _ _ _ [_, _, _] _ _
      simp only [Act.put, List.setIfInBounds_toArray, List.set_cons_succ, List.set_cons_zero]
      have b7 := below_undrew hE
      clear hE hF
      have hs7 := b7.size
      have oB7 := own_new oB b7
      have kg7 := kg.new_ b7
      go_wp2_with (at_builtin; refine wpList_app rfl (.tmp 33) (.tmp 39) 29 rfl el_bk rfl oB7 rfl rl rfl (bkV_one x L1 e1) (by simp only [maxLen]; omega) (by omega) (by omega) ?_; intro A8 c8 w8 o8 ch8 d8 _; have kg8 := kg7.chg ch8 (fun e => by have := unhide HRB _ e; omega); have h1 : w8.cell? ⟨g, 1, none⟩ = some (.slice A' k c') := kg8.cell 1; have h2 : w8.frozen? ⟨g, 1, none⟩ = false := kg8.frozen 1)
      have chG : Chg (fun q => q = g) w8 (w8.setCell ⟨g, 1, none⟩ (.slice A8 (k + 1) c8)) := (Chg.refl (fun q => q = g) w8).setCell (p := ⟨g, 1, none⟩) (.inl rfl) _
      have hs8 := ch8.size
      have hr8 := own_rng o8
      have oB8 := own_chg o8 chG (fun q hq e => by have := hr8 q hq; omega)
      have oD8 := own_chg (own_chg (own_new oD b7) ch8 (fun q hq e => own_ne oB oD ne_bi q e hq)) chG (fun q hq e => by have := unhide HRD q hq; omega)
      have kg8s : Blk (w8.setCell ⟨g, 1, none⟩ (.slice A8 (k + 1) c8)) g 31 #[.slice A1 t.base.length c1, .slice A8 (k + 1) c8, .slice D k e'] := kg8.set_ 1 _
      have hM8 : Below w5.heap.size wr (w8.setCell ⟨g, 1, none⟩ (.slice A8 (k + 1) c8)) := ((below_le b7 (by omega)).trans (ch8.below (fun q hq e => by have := unhide HRB q e; omega) (by omega))).trans (chG.below (fun q hq e => by omega) (by omega))
      have hc8 : ∀ q, q < w6.heap.size → q ≠ g → (w8.setCell ⟨g, 1, none⟩ (.slice A8 (k + 1) c8)).heap[q]? = wr.heap[q]? := fun q h1 h2 => by rw [chG.block q (by omega) h2, ch8.block q (by omega) (fun e => by have := unhide HRB q e; omega), b7.block q (by omega)]
      have hs8s : wr.heap.size ≤ (w8.setCell ⟨g, 1, none⟩ (.slice A8 (k + 1) c8)).heap.size := by have := chG.size; omega
      obtain ⟨w9, hw9⟩ : ∃ w9, w9 = (w8.setCell ⟨g, 1, none⟩ (.slice A8 (k + 1) c8)) := ⟨_, rfl⟩
      rw [← hw9] at oB8 oD8 kg8s hM8 hc8 hs8s ⊢
      clear hw9 chG ch8 kg8 kg7 oB7 o8 h1 h2 hr8 hs8 hs7 b7 rl
      have hF : StBL [bV (.pointer (some ⟨g, 2, none⟩)), bV (.slice D k e'), bV (.slice (some ⟨bk, offk, none⟩) ks.length ck), bV (.pointer (some ⟨w.heap.size, 2, none⟩)), bV (.slice (some ⟨bp, offp, none⟩) t.before.length c3), bV (.int .i64 (v : Int)), bV (.pointer (some ⟨bp, offp + v, none⟩)), bV (.int .i64 (pAt t v)), bV (.int .i64 (idxL (pAt t v) 0 ks)), rowI (idxL (pAt t v) 0 ks)] :=
        ⟨sb_V _, sb_V _, sb_V _, sb_V _, sb_V _, sb_V _, sb_V _, sb_V _, sb_V _, sb_rowI _, trivial⟩
      go_upto_region 11 with fail
      refine wp_region_loc (by kernel_rfl) [(0, some 42), (1, some 43), (2, some 44), (3, some 45), (4, some 46), (5, some 47), (6, some 48), (7, some 49), (8, some 50), (9, some 51)] [[], [(0, some 42)], [], [], [(3, some 45)], [], [(4, some 46), (5, some 47)], [(6, some 48)], [(2, some 44), (7, some 49)], [(8, some 50)]] (by kernel_rfl)
        (locB _) (fun a b => Below a.heap.size a b) noR [0, 0, 0, 0, 0, 0, 0, 0, 0, 0] 0 (by kernel_rfl) (fun _ => Below.refl _ _) (fun _ _ _ => bthen) (locB_st hF _) trivial ?_ ?_
      · refine steps_cons ?s0 ( steps_cons ?s1 ( steps_cons ?s2 ( steps_cons ?s3 ( steps_cons ?s4 ( steps_cons ?s5 ( steps_cons ?s6 ( steps_cons ?s7 ( steps_cons ?s8 ( steps_cons ?s9 steps_nil)))))))))
        case s0 =>
          intro w' m' hE hR
          intro Q hQ
          go_wp2
          exact hQ _ _ _ rfl rfl (Below.refl _ _) trivial
        case s1 =>
          intro w' m' hE hR
          rintro _ rfl Q hQ
          have s1 : w'.cell? ⟨g, 2, none⟩ = some (.slice D k e') := (kg8s.new_ (below_undrew hE)).cell 2
          go_wp2
          exact hQ _ _ _ rfl rfl (Below.refl _ _) trivial
        case s2 =>
          intro w' m' hE hR
          intro Q hQ
          go_wp2
          exact hQ _ _ _ rfl rfl (Below.refl _ _) trivial
        case s3 =>
          intro w' m' hE hR
          intro Q hQ
          go_wp2
          exact hQ _ _ _ rfl rfl (Below.refl _ _) trivial
        case s4 =>
          intro w' m' hE hR
          rintro _ rfl Q hQ
          obtain ⟨⟨s1, s2⟩, ⟨u0, u1, u2, u3, u4, u5⟩, u6, u7⟩ := unhide HX w' (hM8.trans (below_le (below_undrew hE) (by omega)))
          rw [unhide HA3] at s2
          go_wp2
          exact hQ _ _ _ rfl rfl (Below.refl _ _) trivial
        case s5 =>
          intro w' m' hE hR
          intro Q hQ
          go_wp2
          exact hQ _ _ _ rfl rfl (Below.refl _ _) trivial
        case s6 =>
          intro w' m' hE hR
          rintro _ rfl _ rfl Q hQ
          go_wp2
          exact hQ _ _ _ rfl rfl (Below.refl _ _) trivial
        case s7 =>
          intro w' m' hE hR
          rintro _ rfl Q hQ
          obtain ⟨⟨s1, s2⟩, ⟨u0, u1, u2, u3, u4, u5⟩, u6, u7⟩ := unhide HX w' (hM8.trans (below_le (below_undrew hE) (by omega)))
          go_wp2
          exact hQ _ _ _ rfl rfl (Below.refl _ _) trivial
        case s8 =>
          intro w' m' hE hR
          rintro _ rfl _ rfl Q hQ
          obtain ⟨⟨s1, s2⟩, ⟨u0, u1, u2, u3, u4, u5⟩, u6, u7⟩ := unhide HX w' (hM8.trans (below_le (below_undrew hE) (by omega)))
          go_wp2_with fail
          refine (indexI_any _ ck ks (pAt t v) w' u7 (by omega)).mono ?_
          rintro e w1 ⟨rfl, rfl⟩
          go_wp2
          exact hQ _ _ _ rfl rfl (Below.refl _ _) trivial
        case s9 =>
          intro w' m' hE hR
          rintro _ rfl Q hQ
          go_wp2
          exact hQ _ _ _ rfl ⟨_, rfl, rd_lit w' [.int .i64 (idxL (pAt t v) 0 ks)] _⟩ ((Below.refl _ _).alloc (Nat.le_refl _) _) trivial
      intro w10 hE _
      rintro v0 - v1 hv1 v2 - v3 - v4 - v5 - v6 - v7 - v8 - v9 ⟨ql, rfl, rl⟩
      obtain rfl : v1 = _ := hv1
      change wpList _ _ _ [_, _, _] _ _
      simp only [Act.put, List.setIfInBounds_toArray, List.set_cons_succ, List.set_cons_zero]
      have b10 := below_undrew hE
      clear hE hF
      have hs10 := b10.size
      have oD10 := own_new oD8 b10
      have kg10 := kg8s.new_ b10
      go_wp2_with (at_builtin; refine wpList_app rfl (.tmp 43) (.tmp 51) 24 rfl el_int rfl oD10 rfl rl rfl (one_ints [idxL (pAt t v) 0 ks]) (by simp only [maxLen]; omega) (by omega) (by omega) ?_; intro D8 e8 w11 o11 ch11 d11 _; have kg11 := kg10.chg ch11 (fun e => by have := unhide HRD _ e; omega); have h1 : w11.cell? ⟨g, 2, none⟩ = some (.slice D k e') := kg11.cell 2; have h2 : w11.frozen? ⟨g, 2, none⟩ = false := kg11.frozen 2)
      have chG : Chg (fun q => q = g) w11 (w11.setCell ⟨g, 2, none⟩ (.slice D8 (k + 1) e8)) := (Chg.refl (fun q => q = g) w11).setCell (p := ⟨g, 2, none⟩) (.inl rfl) _
      have hs11 := ch11.size
      have hr11 := own_rng o11
      have hrB := own_rng oB8
      have oD12 := own_chg o11 chG (fun q hq e => by have := hr11 q hq; omega)
      have oB12 := own_chg (own_chg (own_new oB8 b10) ch11 (fun q hq e => own_ne oB8 oD8 ne_bi q hq e)) chG (fun q hq e => by have := hrB q hq; omega)
      have kg12 : Blk (w11.setCell ⟨g, 2, none⟩ (.slice D8 (k + 1) e8)) g 31 #[.slice A1 t.base.length c1, .slice A8 (k + 1) c8, .slice D8 (k + 1) e8] := kg11.set_ 2 _
      have hch12 : Chg (fun q => q = g) w6 (w11.setCell ⟨g, 2, none⟩ (.slice D8 (k + 1) e8)) := ⟨(chG.os.trans (ch11.os.trans (b10.os.trans hM8.os))).trans hch.os, (chG.tape.trans (ch11.tape.trans (b10.tape.trans hM8.tape))).trans hch.tape, (chG.output.trans (ch11.output.trans (b10.output.trans hM8.output))).trans hch.output, by have := chG.size; omega, fun q hq hqg => by rw [chG.block q (by omega) hqg, ch11.block q (by omega) (fun e => by have := unhide HRD q e; omega), b10.block q (by omega), hc8 q hq hqg, hch.block q hq hqg]⟩
      have hall12 := hall.append (AllR.one hbx)
      go_roundw
      case rel =>
        refine ⟨k + 1, A8, c8, D8, e8, vs ++ [bkV x L1 e1], by omega, by go_num, ?_, ?_, ?_, kg12, hch12⟩
        · rw [unhide HT, List.map_append]
          simpa [unhide HXB] using hall12
        · rw [List.flatten_append]; simpa using oB12
        · rw [unhide HT, List.map_append, List.map_append]; simpa using oD12
      case measure => simp [intOf]; omega
    · obtain rfl : k = ks.length := by omega
      rw [List.take_length] at hall oD
      have HBP := hide (show ∀ x ∈ (pruneT t n).blocks, x.list.length ≤ 1099511627776 from by
        rw [unhide HAM]
        intro x hx
        obtain ⟨p, hp, rfl⟩ := List.mem_map.1 hx
        have hpm := unhide HKM p hp
        rw [bAt_get t (by omega)]
        exact unhide HBS _ (List.getElem_mem _))
      have hTP : TrR wr (pruneT t n) A1 A' D := by
        rw [unhide HAM]
        refine ⟨(unhide HR wr hBw).b1, ⟨vs, hall.keep bk_good (Kp.below hBw), RdP.of_rd (own_rd oB) fun _ _ _ => trivial⟩, own_rd oD⟩
      have hl1 : (pruneT t n).base.length = t.base.length := by rw [unhide HAM]
      have hl2 : (pruneT t n).blocks.length = ks.length := by rw [unhide HAM]; simp
      have hl3 : (pruneT t n).before.length = ks.length := by rw [unhide HAM]; simp
      have KC := clone_impl (pruneT t n) A1 c1 A' c' D e' wr hTP (by omega) (by omega) (unhide HBP) (by omega)
      simp only [trA] at KC
      rw [hl1, hl2, hl3] at KC
      have HL1 := hide hl1
      have HL2 := hide hl2
      have HL3 := hide hl3
      have z0 : wr.cell? ⟨g, 0, none⟩ = some (.slice A1 t.base.length c1) := kg.cell 0
      have z1 : wr.cell? ⟨g, 1, none⟩ = some (.slice A' ks.length c') := kg.cell 1
      have z2 : wr.cell? ⟨g, 2, none⟩ = some (.slice D ks.length e') := kg.cell 2
      clear hl1 hl2 hl3 hTP hall
      go_wp2_with fail
      refine KC.mono ?_
      rintro e w9 ⟨B1, d1, B2, d2, B3, d3, fp, rfl, tO, b9⟩
      have kr9 := krr.new_ b9
      have hs9 := b9.size
      go_wp2_with (refine wpList_store_row rfl 31 (.tmp 4) (.tmp 56) rfl (w.heap.size + 1) #[.slice B1 t.base.length d1, .slice B2 ks.length d2, .slice B3 ks.length d3] rfl rfl 31 #[.slice none 0 0, .slice none 0 0, .slice none 0 0] kr9 info_tr rfl (sl3_one _ _ _ _ _ _ _ _ _) ?_)
      refine bodyPost_ret (v := .tuple #[.agg #[.slice B1 t.base.length d1, .slice B2 ks.length d2, .slice B3 ks.length d3], .bool true]) (results_cell_tmp (p := 4) (q := 5) (ty := 31) rfl _ _ (w.heap.size + 1) 31 #[.slice B1 t.base.length d1, .slice B2 ks.length d2, .slice B3 ks.length d3] (0, 0) _ rfl (blk_setRow kr9) Tryz.underlying31 rfl info_tr) rfl ?_
      rw [unhide HF]
      refine ⟨B1, d1, B2, d2, B3, d3, fp, ?_, trO_base (trO_setRow tO (by omega) _) (by omega), below_setRow (bthen hBw b9) (by omega) _⟩
      rw [unhide HL1, unhide HL2, unhide HL3]
end Go.Proofs.YtmpdopjailomlaaGreat
namespace Go.Proofs.YtmpdopjailomlaaGreat
open Go.RowKit
set_option linter.unusedVariables false
set_option linter.unusedSimpArgs false

theorem ne_bt : (69 : TypeId) ≠ 31 := by decide
set_option maxRecDepth 100000 in
set_option maxHeartbeats 16000000 in
theorem prune_spec (t : Tr) (A1 : Option Addr) (c1 : Nat) (A2 : Option Addr) (c2 : Nat) (A3 : Option Addr) (c3 : Nat) (n : Int) (w : World) (h : TrR w t A1 A2 A3) (hb1 : t.base.length ≤ 1099511627776) (hb2 : t.blocks.length ≤ 1099511627776) (hbs : ∀ x ∈ t.blocks, x.list.length ≤ 1099511627776) (hb3 : t.before.length ≤ 1099511627776) :
    Calls Tryz.prog 8 #[.agg (trA t A1 c1 A2 c2 A3 c3), .int .i64 n] w fun e w' => ∃ B1 d1 B2 d2 B3 d3 fp, e = .returned (.tuple #[.agg (trA (pruneT t n) B1 d1 B2 d2 B3 d3), .bool (pruneOk t n)]) ∧ TrO w' w.heap.size (pruneT t n) B1 d1 B2 d2 B3 d3 fp ∧ Below w.heap.size w w' := by
  have HBS := hide hbs
  clear hbs
  have HR := hide (fun w' (hb : Below w.heap.size w w') => h.new hb)
  have hT := h
  have HAK := hide (fun w' (hb : Below w.heap.size w w') => kept_spec t A1 c1 A2 c2 A3 c3 n w' (unhide HR w' hb) hb1 hb2 (unhide HBS) hb3)
  have HCL := hide (fun w' (hb : Below w.heap.size w w') => copy_spec t A1 c1 A2 c2 A3 c3 w' (unhide HR w' hb) hb1 hb2 (unhide HBS) hb3)
  simp only [trA] at HAK HCL ⊢
  have k0 : Blk ((w.alloc (.cells #[.slice A1 t.base.length c1, .slice A2 t.blocks.length c2, .slice A3 t.before.length c3] 31)).alloc (.cells #[.slice none 0 0, .slice none 0 0, .slice none 0 0] 31)) w.heap.size 31 #[.slice A1 t.base.length c1, .slice A2 t.blocks.length c2, .slice A3 t.before.length c3] := (Blk.new _ _ _).alloc _
  have kr : Blk ((w.alloc (.cells #[.slice A1 t.base.length c1, .slice A2 t.blocks.length c2, .slice A3 t.before.length c3] 31)).alloc (.cells #[.slice none 0 0, .slice none 0 0, .slice none 0 0] 31)) (w.heap.size + 1) 31 #[.slice none 0 0, .slice none 0 0, .slice none 0 0] := by
    have := Blk.new (w.alloc (.cells #[.slice A1 t.base.length c1, .slice A2 t.blocks.length c2, .slice A3 t.before.length c3] 31)) 31 #[.slice none 0 0, .slice none 0 0, .slice none 0 0]
    simpa using this
  have hb0 : Below w.heap.size w ((w.alloc (.cells #[.slice A1 t.base.length c1, .slice A2 t.blocks.length c2, .slice A3 t.before.length c3] 31)).alloc (.cells #[.slice none 0 0, .slice none 0 0, .slice none 0 0] 31)) := ((Below.refl _ _).alloc (Nat.le_refl _) _).alloc (by simp) _
  have hz0 := kr.lt
  have KV := treeValid_spec t A1 c1 A2 c2 A3 c3 ((w.alloc (.cells #[.slice A1 t.base.length c1, .slice A2 t.blocks.length c2, .slice A3 t.before.length c3] 31)).alloc (.cells #[.slice none 0 0, .slice none 0 0, .slice none 0 0] 31)) (unhide HR _ hb0) hb1 hb2 (unhide HBS) hb3
  simp only [trA] at KV
  have x0 : ((w.alloc (.cells #[.slice A1 t.base.length c1, .slice A2 t.blocks.length c2, .slice A3 t.before.length c3] 31)).alloc (.cells #[.slice none 0 0, .slice none 0 0, .slice none 0 0] 31)).cell? ⟨w.heap.size, 0, none⟩ = some (.slice A1 t.base.length c1) := k0.cell 0
  have x1 : ((w.alloc (.cells #[.slice A1 t.base.length c1, .slice A2 t.blocks.length c2, .slice A3 t.before.length c3] 31)).alloc (.cells #[.slice none 0 0, .slice none 0 0, .slice none 0 0] 31)).cell? ⟨w.heap.size, 1, none⟩ = some (.slice A2 t.blocks.length c2) := k0.cell 1
  have x2 : ((w.alloc (.cells #[.slice A1 t.base.length c1, .slice A2 t.blocks.length c2, .slice A3 t.before.length c3] 31)).alloc (.cells #[.slice none 0 0, .slice none 0 0, .slice none 0 0] 31)).cell? ⟨w.heap.size, 2, none⟩ = some (.slice A3 t.before.length c3) := k0.cell 2
  clear h
  go_enter Tryz.func8, Tryz.ntmps8
  go_wp2_with fail
  refine KV.mono ?_
  rintro e w3 ⟨rfl, b3⟩
  replace k0 := k0.new_ b3
  replace kr := kr.new_ b3
  have hw3 : w.heap.size + 1 < w3.heap.size := Nat.lt_of_lt_of_le hz0 b3.size
  replace hb0 := bthen hb0 b3
  clear KV x0 x1 x2 b3 hz0
  have x0 : w3.cell? ⟨w.heap.size, 0, none⟩ = some (.slice A1 t.base.length c1) := k0.cell 0
  have x1 : w3.cell? ⟨w.heap.size, 1, none⟩ = some (.slice A2 t.blocks.length c2) := k0.cell 1
  have x2 : w3.cell? ⟨w.heap.size, 2, none⟩ = some (.slice A3 t.before.length c3) := k0.cell 2
  cases hv : treeB t
  · have HF := hide (show pruneOk t n = false by simp [pruneOk, hv])
    have HA := hide (pruneT_no (n := n) hv)
    go_wp2_with (refine wpList_store_row rfl 31 (.tmp 4) (.tmp 15) rfl (w.heap.size + 1) #[.slice none 0 0, .slice none 0 0, .slice none 0 0] rfl rfl 31 #[.slice none 0 0, .slice none 0 0, .slice none 0 0] kr info_tr rfl (sl3_one _ _ _ _ _ _ _ _ _) ?_)
    refine bodyPost_ret (v := .tuple #[.agg #[.slice none 0 0, .slice none 0 0, .slice none 0 0], .bool false]) (results_cell_tmp (p := 4) (q := 5) (ty := 31) rfl _ _ (w.heap.size + 1) 31 #[.slice none 0 0, .slice none 0 0, .slice none 0 0] (0, 0) _ rfl (blk_setRow kr) Tryz.underlying31 rfl info_tr) rfl ?_
    rw [unhide HA, unhide HF]
    exact ⟨none, 0, none, 0, none, 0, [], rfl, trO_nil _ _, below_setRow hb0 (by omega) _⟩
  have HV := hide hv
  have hl14 := (treeB_yes hv).2.2.1
  have hb32 := store_len (treeB_yes hv).1
  have HLB := hide (treeB_yes hv).2.2.2.1
  clear hv
  go_wp2_with fail
  refine (unhide HAK w3 hb0).mono ?_
  rintro e w5 ⟨AK, ck, rfl, oK, b5⟩
  clear x0 x1 x2
  replace k0 := k0.new_ b5
  replace kr := kr.new_ b5
  have hs4 := b5.size
  replace hb0 := bthen hb0 b5
  have hkl := keptL_len t n
  have HKM := hide (fun x (hx : x ∈ keptL t n) => (keptL_mem (t := t) (n := n) hx).2)
  have HASC := hide (keptL_asc t n)
  have y0 : w5.cell? ⟨w.heap.size, 0, none⟩ = some (.slice A1 t.base.length c1) := k0.cell 0
  have y1 : w5.cell? ⟨w.heap.size, 1, none⟩ = some (.slice A2 t.blocks.length c2) := k0.cell 1
  have y2 : w5.cell? ⟨w.heap.size, 2, none⟩ = some (.slice A3 t.before.length c3) := k0.cell 2
  cases hin : inB n 0 ((t.blocks.length : Int) - 1)
  · have HF := hide (show pruneOk t n = false by simp [pruneOk, hin])
    have HA := hide (pruneT_out (unhide HV) hin)
    have he : ((keptL t n).length : Int) = 0 := by rw [keptL_no2 hin]; rfl
    have he2 : (((keptL t n).length : Int) == 0) = true := by simpa using he
    have HE := hide he
    clear he hin
    go_wp2_with fail
    refine (unhide HCL w5 hb0).mono ?_
    rintro e w6 ⟨B1, d1, B2, d2, B3, d3, fp, rfl, tO, b6⟩
    replace kr := kr.new_ b6
    have hs5 := b6.size
    go_wp2_with (refine wpList_store_row rfl 31 (.tmp 4) (.tmp 23) rfl (w.heap.size + 1) #[.slice B1 t.base.length d1, .slice B2 t.blocks.length d2, .slice B3 t.before.length d3] rfl rfl 31 #[.slice none 0 0, .slice none 0 0, .slice none 0 0] kr info_tr rfl (sl3_one _ _ _ _ _ _ _ _ _) ?_)
    refine bodyPost_ret (v := .tuple #[.agg #[.slice B1 t.base.length d1, .slice B2 t.blocks.length d2, .slice B3 t.before.length d3], .bool false]) (results_cell_tmp (p := 4) (q := 5) (ty := 31) rfl _ _ (w.heap.size + 1) 31 #[.slice B1 t.base.length d1, .slice B2 t.blocks.length d2, .slice B3 t.before.length d3] (0, 0) _ rfl (blk_setRow kr) Tryz.underlying31 rfl info_tr) rfl ?_
    rw [unhide HA, unhide HF]
    exact ⟨B1, d1, B2, d2, B3, d3, fp, rfl, trO_base (trO_setRow tO (by omega) _) (by omega), below_setRow (bthen hb0 b6) (by omega) _⟩
  have HF := hide (show pruneOk t n = true by rw [pruneOk, unhide HV, hin]; rfl)
  have HAM := hide (pruneT_yes (unhide HV) hin)
  have hn0 : 0 < (keptL t n).length := List.length_pos_iff.2 (keptL_self (unhide HV) hin)
  have hne : (((keptL t n).length : Int) == 0) = false := by simp; exact keptL_self (unhide HV) hin
  clear hin
  generalize hks : keptL t n = ks at *
  have HKS := hide hks
  clear hks
  have HOK := hide oK
  have hw5 : w.heap.size < w5.heap.size := by omega
  have hr0 := (unhide HR w5 hb0).b1
  have oe := own_made (base := w5.heap.size) (e := 99) (size := 2) w5 #[] 0 (Nat.le_refl _) (by simp [maxLen]) rfl
  have be : Below w5.heap.size w5 (w5.alloc (.cells #[] 99)) := (Below.refl _ _).alloc (Nat.le_refl _) _
  clear oK
  go_wp2_with (first | (at_builtin; refine wpList_app0 rfl (.tmp 24) (.tmp 26) 28 rfl el_ent rfl oe rfl (hr0.new be) (len_ents t.base) (one_ents t.base) (by simp only [maxLen]; omega) (by omega) (by simp) ?_; intro B1 d1 w7 o1 b7) | (refine wpList_store_row rfl 31 (.tmp 7) (.tmp 28) rfl w7.heap.size #[.slice B1 t.base.length d1, .slice none 0 0, .slice none 0 0] rfl rfl 31 #[.slice none 0 0, .slice none 0 0, .slice none 0 0] (box_new w7 31 #[.slice none 0 0, .slice none 0 0, .slice none 0 0] #[.slice B1 t.base.length d1, .slice none 0 0, .slice none 0 0]).1 info_tr rfl (sl3_one _ _ _ _ _ _ _ _ _) ?_; refine at_world (C := fun W => wpList _ _ _ _ _ W) (F := fun W => Blk W w7.heap.size 31 #[.slice B1 t.base.length d1, .slice none 0 0, .slice none 0 0] ∧ Below w7.heap.size w7 W) ⟨(box_new w7 31 #[.slice none 0 0, .slice none 0 0, .slice none 0 0] #[.slice B1 t.base.length d1, .slice none 0 0, .slice none 0 0]).2.1, (box_new w7 31 #[.slice none 0 0, .slice none 0 0, .slice none 0 0] #[.slice B1 t.base.length d1, .slice none 0 0, .slice none 0 0]).2.2⟩ ?_; rintro w6 ⟨kg, b6⟩))
  obtain ⟨g, hg⟩ : ∃ g, g = w7.heap.size := ⟨_, rfl⟩
  rw [← hg] at kg ⊢
  have hs6 := b6.size
  have b57 := bthen be b7
  have hs57 := b57.size
  have hgl := kg.lt
  have hgw : w.heap.size + 1 < g := by omega
  have hg5 : w5.heap.size ≤ g := by omega
  have HO1 := hide (own_rng o1)
  have hg1 : ∀ q, B1 = some ⟨q, 0, none⟩ → q < g := fun q hq => by have := unhide HO1 q hq; omega
  have HG1 := hide hg1
  clear hg hg1
  have hb56 := bthen b57 b6
  replace k0 := k0.new_ hb56
  replace kr := kr.new_ hb56
  replace hb0 := bthen hb0 hb56
  have o16 := own_new o1 b6
  have HKO := hide (fun (w' : World) (hb : Below w5.heap.size w5 w') => (own_rd (own_new (unhide HOK) hb) : Rd w' AK (ks.map (.int .i64))))
  clear o1 b6 b7 be oe hr0 y0 y1 y2 hn0 b57
  go_loopw [8, 9, 10, 11] (fun i _ _ _ wr => ∃ (k : Nat) (A' : Option Addr) (c' : Nat) (D : Option Addr) (e' : Nat) (vs : List (List Value)) (fs : List (List Nat)), k ≤ ks.length ∧ i = .int .i64 k ∧ AllO bkO wr ((ks.take k).map fun k => bAt t k.toNat) vs fs ∧ fs.flatten.Nodup ∧ Hid (∀ q ∈ fs.flatten, w6.heap.size ≤ q ∧ A' ≠ some ⟨q, 0, none⟩) ∧ Hid (∀ q ∈ fs.flatten, D ≠ some ⟨q, 0, none⟩) ∧ wr.ownsRow w6.heap.size 69 6 (.slice A' k c') k vs.flatten ∧ wr.ownsRow w6.heap.size 3 1 (.slice D k e') k (((ks.take k).map fun k => idxL (pAt t k.toNat) 0 ks).map (.int .i64)) ∧ wr.ownsRow w5.heap.size 99 2 (.slice B1 t.base.length d1) t.base.length (t.base.flatMap encE) ∧ Blk wr g 31 #[.slice B1 t.base.length d1, .slice A' k c', .slice D k e'] ∧ Chg (fun q => q = g) w6 wr) (fun i _ _ _ _ => ks.length - (intOf i).toNat)
  case atStart => exact ⟨0, none, 0, none, 0, [], [], Nat.zero_le _, rfl, trivial, by simp, hide (by simp), hide (by simp), own_nil _ _ _ _, own_nil _ _ _ _, o16, kg, Chg.refl _ _⟩
  case round =>
    clear kg o16
    obtain ⟨k, A', c', D, e', vs, fs, hk, rfl, hall, hnd, HFA, HFD, oB, oD, o1, kg, hch⟩ := hrel
    obtain ⟨wo, rfl⟩ : ∃ wo, wo = wr := ⟨_, rfl⟩
    have hgsz := hch.size
    have hB5 : Below w5.heap.size w5 wo := hb56.trans (hch.below (fun q hq e => by omega) (by omega))
    have hBw : Below w.heap.size w wo := hb0.trans (hch.below (fun q hq e => by omega) (by omega))
    have HRB := hide (own_rng oB)
    have HRD := hide (own_rng oD)
    have kb := k0.chg hch (by omega)
    have krr := kr.chg hch (by omega)
    by_cases hlt : k < ks.length
    · have i1 : (k : Int) < (ks.length : Int) := by omega
      have hkrd := unhide HKO wo hB5
      obtain ⟨bk, offk, hAK, hkb, hzk⟩ : ∃ b off, AK = some ⟨b, off, none⟩ ∧ b < wo.heap.size ∧ ∀ j (hj : j < ks.length), wo.cell? ⟨b, off + j, none⟩ = some (.int .i64 ks[j]) := by
        obtain ⟨b, off, h1, h2, h3⟩ := hkrd (by simp; omega)
        exact ⟨b, off, h1, h2, fun j hj => h3 j _ (by simp [hj])⟩
      have HZK := hide hzk
      have hkm := unhide HKM ks[k] (List.getElem_mem hlt)
      have HT := hide (show ks.take (k + 1) = ks.take k ++ [ks[k]] from List.take_succ_eq_append_getElem hlt)
      have HKV := hide (show ks[k] = ks[k] from rfl)
      obtain ⟨v, hv⟩ := Int.eq_ofNat_of_zero_le hkm.1
      have hvn : v < t.blocks.length := by omega
      have HLI := hide (show lastI (pAt t v) ks k = idxL (pAt t v) 0 ks from lastI_idx (unhide HASC) hlt (by have := pAt_lt (unhide HV) hvn; omega))
      have zv : wo.cell? ⟨bk, offk + k, none⟩ = some (.int .i64 (v : Int)) := by rw [hzk k hlt, hv]
      have HT2 := hide (show ks.take (k + 1) = ks.take k ++ [(v : Int)] by rw [unhide HT, hv])
      have hvp : v < t.before.length := by have := unhide HLB; omega
      have i2 : (v : Int) < (t.blocks.length : Int) := by omega
      have i3 : (v : Int) < (t.before.length : Int) := by omega
      obtain ⟨bq, offq, L1, e1, hA2, -, hbb, q0, q1, q2, q3, q4, q5, hlc, r1⟩ := hT.b2.bk hvn
      have HXB := hide (show bAt t v = t.blocks[v] from bAt_get t hvn)
      have hxl := unhide HBS t.blocks[v] (List.getElem_mem hvn)
      generalize t.blocks[v] = x at *
      obtain ⟨bp, offp, hA3, hpb, zp⟩ := pAt_cell hT.b3 hvp
      have HAKE := hide hAK
      have HA2 := hide hA2
      have HA3 := hide hA3
      have HRX := hide (fun (w' : World) (hb : Below wo.heap.size wo w') => (r1.rd.new (hBw.trans (below_le hb (by omega))) : Rd w' L1 (x.list.flatMap encA)))
      have HX := hide (fun (w' : World) (hb : Below wo.heap.size wo w') => show (w'.cell? ⟨w.heap.size, 1, none⟩ = some (.slice A2 t.blocks.length c2) ∧ w'.cell? ⟨w.heap.size, 2, none⟩ = some (.slice A3 t.before.length c3)) ∧ (w'.cell? ⟨bq, offq + v * 6, none⟩ = some (.int .i64 x.before) ∧ w'.cell? ⟨bq, offq + v * 6 + 1, none⟩ = some (.int .i64 x.height) ∧ w'.cell? ⟨bq, offq + v * 6 + 2, none⟩ = some (.int .i64 x.view) ∧ w'.cell? ⟨bq, offq + v * 6 + 3, none⟩ = some (.slice L1 x.list.length e1) ∧ w'.cell? ⟨bq, offq + v * 6 + 4, none⟩ = some (.int .i64 x.root) ∧ w'.cell? ⟨bq, offq + v * 6 + 5, none⟩ = some (.int .i64 x.eff)) ∧ w'.cell? ⟨bp, offp + v, none⟩ = some (.int .i64 (pAt t v)) ∧ w'.cell? ⟨bk, offk + k, none⟩ = some (.int .i64 (v : Int)) from by
        have hbw : Below w.heap.size w w' := hBw.trans (below_le hb (by omega))
        have kb' := kb.new_ hb
        exact ⟨⟨kb'.cell 1, kb'.cell 2⟩, ⟨(hbw.cell (p := ⟨bq, offq + v * 6, none⟩) hbb).trans q0, (hbw.cell (p := ⟨bq, offq + v * 6 + 1, none⟩) hbb).trans q1, (hbw.cell (p := ⟨bq, offq + v * 6 + 2, none⟩) hbb).trans q2, (hbw.cell (p := ⟨bq, offq + v * 6 + 3, none⟩) hbb).trans q3, (hbw.cell (p := ⟨bq, offq + v * 6 + 4, none⟩) hbb).trans q4, (hbw.cell (p := ⟨bq, offq + v * 6 + 5, none⟩) hbb).trans q5⟩, (hbw.cell (p := ⟨bp, offp + v, none⟩) hpb).trans zp, (hb.cell (p := ⟨bk, offk + k, none⟩) hkb).trans zv⟩)
      clear hAK hA2 hA3 q0 q1 q2 q3 q4 q5 r1 hlc zp zv hkm hv hkrd hzk
      have kgl := kg.lt
      rw [unhide HAKE]
      go_wp2
      go_loopw [9, 10] (fun s i wr => ∃ (j : Nat), j ≤ k ∧ i = .int .i64 j ∧ s = .int .i64 (lastI (pAt t v) ks j) ∧ Below wo.heap.size wo wr) (fun _ i _ => k - (intOf i).toNat)
      case atStart => exact ⟨0, Nat.zero_le _, rfl, rfl, Below.refl _ _⟩
      case round =>
        obtain ⟨j, hj, rfl, rfl, bq1⟩ := hrel
        by_cases hjk : j < k
        · have i4 : (j : Int) < (k : Int) := by omega
          have i5 : (j : Int) < (ks.length : Int) := by omega
          have hjl : j < ks.length := by omega
          have HJ := hide (unhide HZK j hjl)
          have HLS := hide (show lastI (pAt t v) ks (j + 1) = if ks[j] = pAt t v then (j : Int) else lastI (pAt t v) ks j by
            rw [lastI, List.getD_eq_getElem?_getD, List.getElem?_eq_getElem hjl, Option.getD_some])
          generalize ks[j] = kj at *
          go_wp2
          have hF : StBL [bV (.slice (some ⟨bk, offk, none⟩) ks.length ck), bV (.int .i64 (j : Int)), bV (.pointer (some ⟨bk, offk + j, none⟩)), bV (.int .i64 kj), bV (.pointer (some ⟨w.heap.size, 2, none⟩)), bV (.slice (some ⟨bp, offp, none⟩) t.before.length c3), bV (.slice (some ⟨bk, offk, none⟩) ks.length ck), bV (.int .i64 (k : Int)), bV (.pointer (some ⟨bk, offk + k, none⟩)), bV (.int .i64 (v : Int)), bV (.pointer (some ⟨bp, offp + v, none⟩)), bV (.int .i64 (pAt t v))] :=
            ⟨sb_V _, sb_V _, sb_V _, sb_V _, sb_V _, sb_V _, sb_V _, sb_V _, sb_V _, sb_V _, sb_V _, sb_V _, trivial⟩
          go_upto_region 14 with fail
          refine wp_region_loc (by kernel_rfl) [(0, some 40), (1, some 41), (2, some 42), (3, some 43), (4, some 44), (5, some 45), (6, some 46), (7, some 47), (8, some 48), (9, some 49), (10, some 50), (11, some 51)] [[], [], [(0, some 40), (1, some 41)], [(2, some 42)], [], [(4, some 44)], [], [], [(6, some 46), (7, some 47)], [(8, some 48)], [(5, some 45), (9, some 49)], [(10, some 50)]] (by kernel_rfl)
            (locB _) (fun a b => Below a.heap.size a b) noR [0, 0, 0, 0, 0, 0, 0, 0, 0, 0, 0, 0] 0 (by kernel_rfl) (fun _ => Below.refl _ _) (fun _ _ _ => bthen) (locB_st hF _) trivial ?_ ?_
          · refine steps_cons ?s0 ( steps_cons ?s1 ( steps_cons ?s2 ( steps_cons ?s3 ( steps_cons ?s4 ( steps_cons ?s5 ( steps_cons ?s6 ( steps_cons ?s7 ( steps_cons ?s8 ( steps_cons ?s9 ( steps_cons ?s10 ( steps_cons ?s11 steps_nil)))))))))))
            case s0 =>
              intro w' m' hE hR
              intro Q hQ
              go_wp2
              exact hQ _ _ _ rfl rfl (Below.refl _ _) trivial
            case s1 =>
              intro w' m' hE hR
              intro Q hQ
              go_wp2
              exact hQ _ _ _ rfl rfl (Below.refl _ _) trivial
            case s2 =>
              intro w' m' hE hR
              rintro _ rfl _ rfl Q hQ
              go_wp2
              exact hQ _ _ _ rfl rfl (Below.refl _ _) trivial
            case s3 =>
              intro w' m' hE hR
              rintro _ rfl Q hQ
              have u8 : w'.cell? ⟨bk, offk + j, none⟩ = some (.int .i64 kj) := (((bthen bq1 (below_undrew hE))).cell (p := ⟨bk, offk + j, none⟩) hkb).trans (unhide HJ)
              go_wp2
              exact hQ _ _ _ rfl rfl (Below.refl _ _) trivial
            case s4 =>
              intro w' m' hE hR
              intro Q hQ
              go_wp2
              exact hQ _ _ _ rfl rfl (Below.refl _ _) trivial
            case s5 =>
              intro w' m' hE hR
              rintro _ rfl Q hQ
              obtain ⟨⟨s1, s2⟩, ⟨u0, u1, u2, u3, u4, u5⟩, u6, u7⟩ := unhide HX w' (bthen bq1 (below_undrew hE))
              rw [unhide HA3] at s2
              go_wp2
              exact hQ _ _ _ rfl rfl (Below.refl _ _) trivial
            case s6 =>
              intro w' m' hE hR
              intro Q hQ
              go_wp2
              exact hQ _ _ _ rfl rfl (Below.refl _ _) trivial
            case s7 =>
              intro w' m' hE hR
              intro Q hQ
              go_wp2
              exact hQ _ _ _ rfl rfl (Below.refl _ _) trivial
            case s8 =>
              intro w' m' hE hR
              rintro _ rfl _ rfl Q hQ
              go_wp2
              exact hQ _ _ _ rfl rfl (Below.refl _ _) trivial
            case s9 =>
              intro w' m' hE hR
              rintro _ rfl Q hQ
              obtain ⟨⟨s1, s2⟩, ⟨u0, u1, u2, u3, u4, u5⟩, u6, u7⟩ := unhide HX w' (bthen bq1 (below_undrew hE))
              go_wp2
              exact hQ _ _ _ rfl rfl (Below.refl _ _) trivial
            case s10 =>
              intro w' m' hE hR
              rintro _ rfl _ rfl Q hQ
              go_wp2
              exact hQ _ _ _ rfl rfl (Below.refl _ _) trivial
            case s11 =>
              intro w' m' hE hR
              rintro _ rfl Q hQ
              obtain ⟨⟨s1, s2⟩, ⟨u0, u1, u2, u3, u4, u5⟩, u6, u7⟩ := unhide HX w' (bthen bq1 (below_undrew hE))
              go_wp2
              exact hQ _ _ _ rfl rfl (Below.refl _ _) trivial
          intro w9 hE _
          rintro v0 - v1 - v2 - v3 hv3 v4 - v5 - v6 - v7 - v8 - v9 - v10 - v11 hv11
          obtain rfl : v3 = _ := hv3
          obtain rfl : v11 = _ := hv11
          change wpList _ _ _ [_] _ _
          simp only [Act.put, List.setIfInBounds_toArray, List.set_cons_succ, List.set_cons_zero]
          have b9 := below_undrew hE
          clear hE hF
          by_cases he : kj = pAt t v
          · have he2 : (kj == pAt t v) = true := by simpa using he
            have HLN := hide (show (j : Int) = lastI (pAt t v) ks (j + 1) by rw [unhide HLS, if_pos he])
            clear he
            go_wp2
            go_roundw
            case rel => exact ⟨j + 1, by omega, by go_num, by rw [← unhide HLN], bthen bq1 b9⟩
            case measure => simp [intOf]; omega
          · have he2 : (kj == pAt t v) = false := by simpa using he
            have HLN := hide (show lastI (pAt t v) ks j = lastI (pAt t v) ks (j + 1) by rw [unhide HLS, if_neg he])
            clear he
            go_wp2
            go_roundw
            case rel => exact ⟨j + 1, by omega, by go_num, by rw [← unhide HLN], bthen bq1 b9⟩
            case measure => simp [intOf]; omega
        · obtain rfl : j = k := by omega
          rw [unhide HLI]
          have hsq := bq1.size
          go_wp2
          have hF : StBL [bV (.pointer (some ⟨w.heap.size, 1, none⟩)), bV (.slice (some ⟨bq, offq, none⟩) t.blocks.length c2), bV (.slice (some ⟨bk, offk, none⟩) ks.length ck), bV (.int .i64 (j : Int)), bV (.pointer (some ⟨bk, offk + j, none⟩)), bV (.int .i64 (v : Int)), bV (.pointer (some ⟨bq, offq + v * 6, none⟩)), bV (.agg #[.int .i64 x.before, .int .i64 x.height, .int .i64 x.view, .slice L1 x.list.length e1, .int .i64 x.root, .int .i64 x.eff]), newBox wr.heap.size 69 #[.int .i64 0, .int .i64 0, .int .i64 0, .slice none 0 0, .int .i64 0, .int .i64 0]] :=
            ⟨sb_V _, sb_V _, sb_V _, sb_V _, sb_V _, sb_V _, sb_V _, sb_V _, sb_newBox _ _ _, trivial⟩
          go_upto_region 16 with fail
          refine wp_region_loc (by kernel_rfl) [(0, some 54), (1, some 55), (2, some 56), (3, some 57), (4, some 58), (5, some 59), (6, some 60), (7, some 61), (8, some 11)] [[], [(0, some 54)], [], [], [(2, some 56), (3, some 57)], [(4, some 58)], [(1, some 55), (5, some 59)], [(6, some 60)], []] (by kernel_rfl)
            (locB _) (fun a b => Below a.heap.size a b) noR [0, 0, 0, 0, 0, 0, 0, 0, 0] 0 (by kernel_rfl) (fun _ => Below.refl _ _) (fun _ _ _ => bthen) (locB_st hF _) trivial ?_ ?_
          · refine steps_cons ?s0 ( steps_cons ?s1 ( steps_cons ?s2 ( steps_cons ?s3 ( steps_cons ?s4 ( steps_cons ?s5 ( steps_cons ?s6 ( steps_cons ?s7 ( steps_cons ?s8 steps_nil))))))))
            case s0 =>
              intro w' m' hE hR
              intro Q hQ
              go_wp2
              exact hQ _ _ _ rfl rfl (Below.refl _ _) trivial
            case s1 =>
              intro w' m' hE hR
              rintro _ rfl Q hQ
              obtain ⟨⟨s1, s2⟩, ⟨u0, u1, u2, u3, u4, u5⟩, u6, u7⟩ := unhide HX w' (bthen bq1 (below_undrew hE))
              rw [unhide HA2] at s1
              go_wp2
              exact hQ _ _ _ rfl rfl (Below.refl _ _) trivial
            case s2 =>
              intro w' m' hE hR
              intro Q hQ
              go_wp2
              exact hQ _ _ _ rfl rfl (Below.refl _ _) trivial
            case s3 =>
              intro w' m' hE hR
              intro Q hQ
              go_wp2
              exact hQ _ _ _ rfl rfl (Below.refl _ _) trivial
            case s4 =>
              intro w' m' hE hR
              rintro _ rfl _ rfl Q hQ
              go_wp2
              exact hQ _ _ _ rfl rfl (Below.refl _ _) trivial
            case s5 =>
              intro w' m' hE hR
              rintro _ rfl Q hQ
              obtain ⟨⟨s1, s2⟩, ⟨u0, u1, u2, u3, u4, u5⟩, u6, u7⟩ := unhide HX w' (bthen bq1 (below_undrew hE))
              go_wp2
              exact hQ _ _ _ rfl rfl (Below.refl _ _) trivial
            case s6 =>
              intro w' m' hE hR
              rintro _ rfl _ rfl Q hQ
              go_wp2
              exact hQ _ _ _ rfl rfl (Below.refl _ _) trivial
            case s7 =>
              intro w' m' hE hR
              rintro _ rfl Q hQ
              obtain ⟨⟨s1, s2⟩, ⟨u0, u1, u2, u3, u4, u5⟩, u6, u7⟩ := unhide HX w' (bthen bq1 (below_undrew hE))
              go_wp2
              exact hQ _ _ _ rfl rfl (Below.refl _ _) trivial
            case s8 =>
              intro w' m' hE hR
              intro Q hQ
              have hsz := hE.size
              go_wp2
              exact hQ _ _ _ rfl ⟨w'.heap.size, rfl, hsz, Blk.new _ _ _⟩ ((Below.refl _ _).alloc (Nat.le_refl _) _) trivial
          intro w10 hE _
          rintro v0 - v1 - v2 - v3 - v4 - v5 - v6 - v7 hv7 v8 ⟨g5, rfl, hg5q, kz⟩
          obtain rfl : v7 = _ := hv7
          change wpList _ _ _ [_] _ _
          simp only [Act.put, List.setIfInBounds_toArray, List.set_cons_succ, List.set_cons_zero]
          have b10 := bthen bq1 (below_undrew hE)
          clear hE hF
          have hg5r : wo.heap.size ≤ g5 := by omega
          have hne : g ≠ g5 := by omega
          have hne2 : g5 ≠ g := by omega
          go_wp2_with (first | (refine wpList_store_row rfl 69 (.tmp 11) (.tmp 61) rfl g5 #[.int .i64 x.before, .int .i64 x.height, .int .i64 x.view, .slice L1 x.list.length e1, .int .i64 x.root, .int .i64 x.eff] rfl rfl 69 #[.int .i64 0, .int .i64 0, .int .i64 0, .slice none 0 0, .int .i64 0, .int .i64 0] kz info_bkS rfl (bk6_one _ _ _ _ _ _ _ _) ?_; refine at_world (C := fun W => wpList _ _ _ _ _ W) (F := fun W => Blk W g5 69 #[.int .i64 x.before, .int .i64 x.height, .int .i64 x.view, .slice L1 x.list.length e1, .int .i64 x.root, .int .i64 x.eff] ∧ Below wo.heap.size wo W ∧ g5 < W.heap.size) ⟨blk_setRow kz, below_setRow b10 hg5r _, by rw [size_setRow]; exact kz.lt⟩ ?_; rintro w20 ⟨k20, b20, hl20⟩; have v3 : w20.cell? ⟨g5, 3, none⟩ = some (.slice L1 x.list.length e1) := k20.cell 3; have oe := own_made (base := w20.heap.size) (e := 134) (size := 4) w20 #[] 0 (Nat.le_refl _) (by simp [maxLen]) rfl; have hs20 := b20.size; have be : Below wo.heap.size wo (w20.alloc (.cells #[] 134)) := b20.alloc hs20 _) | (at_builtin; refine wpList_app0 rfl (.tmp 62) (.tmp 64) 67 rfl el_actz rfl oe rfl (unhide HRX _ be) (len_acts x.list) (one_acts2 x.list) (by simp only [maxLen]; omega) (by omega) (by simp) ?_; intro A7 c7 w7 o7 b7; have b57 : Below wo.heap.size wo w7 := be.trans (below_le b7 (by simp; omega)); have k7 := (k20.new_ ((Below.refl _ _).alloc (Nat.le_refl _) _)).new_ b7; have u0 : w7.cell? ⟨g5, 0, none⟩ = some _ := k7.cell 0; have u1 : w7.cell? ⟨g5, 1, none⟩ = some _ := k7.cell 1; have u2 : w7.cell? ⟨g5, 2, none⟩ = some _ := k7.cell 2; have u3 : w7.cell? ⟨g5, 3, none⟩ = some _ := k7.cell 3; have u4 : w7.cell? ⟨g5, 4, none⟩ = some _ := k7.cell 4; have u5 : w7.cell? ⟨g5, 5, none⟩ = some _ := k7.cell 5; have f3 : w7.frozen? ⟨g5, 3, none⟩ = false := k7.frozen 3; have kg7 := kg.new_ b57; have g1 : w7.cell? ⟨g, 1, none⟩ = some (.slice A' j c') := kg7.cell 1; have chS : Chg (fun q => q = g5) w7 (w7.setCell ⟨g5, 3, none⟩ (.slice A7 x.list.length c7)) := (Chg.refl (fun q => q = g5) w7).setCell (p := ⟨g5, 3, none⟩) (.inl rfl) _; have oA := own_chg (own_new oB b57) chS (fun q hq e => by have := unhide HRB q hq; omega); have oD7 := own_chg (own_new oD b57) chS (fun q hq e => by have := unhide HRD q hq; omega); have o7s := own_chg o7 chS (fun q hq e => by have := own_rng o7 q hq; omega); have hs7 := b57.size; have kg7s := kg7.chg chS hne; have es : (w7.setCell ⟨g5, 3, none⟩ (.slice A7 x.list.length c7)).heap.size = w7.heap.size := (by simp); have rl := rd_lit (w7.setCell ⟨g5, 3, none⟩ (.slice A7 x.list.length c7)) (bkV x A7 c7) 69; rw [es] at rl; clear es) | (at_builtin; refine wpList_app rfl (.tmp 68) (.tmp 70) 29 rfl el_bk rfl (own_alloc oA _) rfl rl rfl (bkV_one x A7 c7) (by simp only [maxLen]; omega) (by omega) (by simp; omega) ?_; intro A8 c8 w8 o8 ch8 d8 _; have kg8 := (kg7s.alloc (.cells (bkV x A7 c7).toArray 69)).chg ch8 (fun e => by have := unhide HRB _ e; omega); have h1 : w8.cell? ⟨g, 1, none⟩ = some (.slice A' j c') := kg8.cell 1; have h2 : w8.frozen? ⟨g, 1, none⟩ = false := kg8.frozen 1; have h3 : w8.cell? ⟨g, 2, none⟩ = some (.slice D j e') := kg8.cell 2; have hs8 := ch8.size; have oD8a := own_chg (own_alloc oD7 (.cells (bkV x A7 c7).toArray 69)) ch8 (fun q hq e => own_ne oB oD ne_bi q e hq); have chG : Chg (fun q => q = g) w8 (w8.setCell ⟨g, 1, none⟩ (.slice A8 (j + 1) c8)) := (Chg.refl (fun q => q = g) w8).setCell (p := ⟨g, 1, none⟩) (.inl rfl) _; have oD8 := own_chg oD8a chG (fun q hq e => by have := unhide HRD q hq; omega); have kg8s : Blk (w8.setCell ⟨g, 1, none⟩ (.slice A8 (j + 1) c8)) g 31 #[.slice B1 t.base.length d1, .slice A8 (j + 1) c8, .slice D j e'] := kg8.set_ 1 _; have es2 : (w8.setCell ⟨g, 1, none⟩ (.slice A8 (j + 1) c8)).heap.size = w8.heap.size := (by simp); have rl2 := rd_lit (w8.setCell ⟨g, 1, none⟩ (.slice A8 (j + 1) c8)) [.int .i64 (idxL (pAt t v) 0 ks)] 3; rw [es2] at rl2; clear es2) | (at_builtin; refine wpList_app rfl (.tmp 74) (.tmp 76) 24 rfl el_int rfl (own_alloc oD8 _) rfl rl2 rfl (one_ints [idxL (pAt t v) 0 ks]) (by simp only [maxLen]; omega) (by omega) (by simp at *; omega) ?_; intro D8 e8 w11 o11 ch11 d11 _; have kg11 := (kg8s.alloc (.cells #[.int .i64 (idxL (pAt t v) 0 ks)] 3)).chg ch11 (fun e => by have := unhide HRD _ e; omega); have h5 : w11.cell? ⟨g, 2, none⟩ = some (.slice D j e') := kg11.cell 2; have h6 : w11.frozen? ⟨g, 2, none⟩ = false := kg11.frozen 2))
          have b37 : Below wo.heap.size wo (w7.setCell ⟨g5, 3, none⟩ (.slice A7 x.list.length c7)) := b57.trans (chS.below (fun q hq e => by omega) b57.size)
          have hx : bkO x (w7.setCell ⟨g5, 3, none⟩ (.slice A7 x.list.length c7)) (bkV x A7 c7) (blk A7) := ⟨A7, c7, rfl, own_base0 o7s, rfl⟩
          have hfb : ∀ q ∈ blk A7, wo.heap.size ≤ q := fun q hq => by have := (blk_own o7s hq).2.1; omega
          obtain ⟨hall8, hnd8, hF8, hown8⟩ := grow_step bkO_good bk_good hall hnd (unhide HFA) oB hgsz b37 hx (blk_nodup _) hfb ch8 d8 (by simpa [bkV] using o8)
          have hFD8 : ∀ q ∈ (fs ++ [blk A7]).flatten, D ≠ some ⟨q, 0, none⟩ := fun q hq e => by
            rw [List.flatten_append] at hq
            rcases List.mem_append.1 hq with hq | hq
            · exact unhide HFD q hq e
            · have h1 := hfb q (by simpa using hq)
              have h2 := unhide HRD q e
              omega
          have chH : Chg (fun q => q = g) w11 (w11.setCell ⟨g, 2, none⟩ (.slice D8 (j + 1) e8)) := (Chg.refl (fun q => q = g) w11).setCell (p := ⟨g, 2, none⟩) (.inl rfl) _
          have hs11 := ch11.size
          have hsG := chG.size
          have hsH := chH.size
          have hsS := chS.size
          simp only [World.size_alloc, World.size_setCell] at hs8 hs11 hsG hsS
          have keep8 : ∀ q, q < w8.heap.size → q ≠ g → (¬ D = some ⟨q, 0, none⟩) → (w11.setCell ⟨g, 2, none⟩ (.slice D8 (j + 1) e8)).heap[q]? = w8.heap[q]? := fun q h1 h2 h3 => by
            rw [chH.block q (by omega) h2, ch11.block q (by simp; omega) h3, Below.heap_alloc _ _ _ (by simp; omega), chG.block q h1 h2]
          have hcAll : ∀ q, q < w6.heap.size → q ≠ g → (w11.setCell ⟨g, 2, none⟩ (.slice D8 (j + 1) e8)).heap[q]? = wo.heap[q]? := fun q h1 h2 => by
            rw [keep8 q (by omega) h2 (fun e => by have := unhide HRD q e; omega), ch8.block q (by simp; omega) (fun e => by have := unhide HRB q e; omega), Below.heap_alloc _ _ _ (by simp; omega), chS.block q (by omega) (by omega), b57.block q (by omega)]
          have hlt8 := hall8.lt bkO_good
          have hall12 := hall8.keep bkO_good (w' := (w11.setCell ⟨g, 2, none⟩ (.slice D8 (j + 1) e8))) (fun q hq hqw => keep8 q hqw (fun e => by have := (hF8 q hq).1; omega) (hFD8 q hq))
          have hr8 := own_rng hown8
          have oB12 := own_keep hown8 (w' := (w11.setCell ⟨g, 2, none⟩ (.slice D8 (j + 1) e8))) (fun q hq hqw => keep8 q hqw (fun e => by have := hr8 q hq; omega) (own_ne hown8 oD8a ne_bi q hq))
          have hr11 := own_rng o11
          have oD12 := own_chg o11 chH (fun q hq e => by have := hr11 q hq; omega)
          have hr1 := own_rng o1
          have o112 := own_keep o1 (w' := (w11.setCell ⟨g, 2, none⟩ (.slice D8 (j + 1) e8))) (fun q hq hqw => hcAll q (by have := unhide HG1 q hq; omega) (fun e => by have := unhide HG1 q hq; omega))
          have kg12 : Blk (w11.setCell ⟨g, 2, none⟩ (.slice D8 (j + 1) e8)) g 31 #[.slice B1 t.base.length d1, .slice A8 (j + 1) c8, .slice D8 (j + 1) e8] := kg11.set_ 2 _
          have hch12 : Chg (fun q => q = g) w6 (w11.setCell ⟨g, 2, none⟩ (.slice D8 (j + 1) e8)) := ⟨(chH.os.trans (ch11.os.trans (chG.os.trans (ch8.os.trans (chS.os.trans b57.os))))).trans hch.os, (chH.tape.trans (ch11.tape.trans (chG.tape.trans (ch8.tape.trans (chS.tape.trans b57.tape))))).trans hch.tape, (chH.output.trans (ch11.output.trans (chG.output.trans (ch8.output.trans (chS.output.trans b57.output))))).trans hch.output, by omega, fun q hq hqg => by rw [hcAll q hq hqg, hch.block q hq hqg]⟩
          have HFD12 := hide (show ∀ q ∈ (fs ++ [blk A7]).flatten, D8 ≠ some ⟨q, 0, none⟩ from fun q hq e => by
            rcases d11 with rfl | ⟨rfl, _⟩
            · exact hFD8 q hq e
            · have h1 := hlt8 q hq
              injection e with e; injection e with e; simp at e; omega)
          have HFA12 := hide hF8
          go_roundw
          case rel =>
            refine ⟨j + 1, A8, c8, D8, e8, _, _, by omega, by go_num, ?_, hnd8, HFA12, HFD12, oB12, ?_, o112, kg12, hch12⟩
            · rw [unhide HT2, List.map_append]
              simpa [unhide HXB] using hall12
            · rw [unhide HT2, List.map_append, List.map_append]; simpa using oD12
          case measure => simp [intOf]; omega
    · obtain rfl : k = ks.length := by omega
      rw [List.take_length] at hall oD
      have hl1 : (pruneT t n).base.length = t.base.length := by rw [unhide HAM]
      have hl2 : (pruneT t n).blocks.length = ks.length := by rw [unhide HAM]; simp
      have hl3 : (pruneT t n).before.length = ks.length := by rw [unhide HAM]; simp
      have hlm : (ks.map fun k => bAt t k.toNat).length = ks.length := by simp
      have hgd := grow_done (xs := ks.map fun k => bAt t k.toNat) hall hnd (unhide HFA) (by rw [hlm]; exact oB)
      have tP : TrO wo w5.heap.size (pruneT t n) B1 d1 A' c' D e' (blk A' ++ fs.flatten) := by
        rw [unhide HAM]
        refine ⟨o1, hgd.1, ?_, fun q hq => by have := hgd.2 q hq; omega, fun q hq hq2 => ?_, own_ne o1 (own_base oD (base' := 0) (by omega)) ne_ei, fun q hq hq2 => ?_⟩
        · simpa using own_base oD (base' := w5.heap.size) (by omega)
        · have := unhide HG1 q hq
          have := hgd.2 q hq2
          omega
        · rcases List.mem_append.1 hq2 with h1 | h1
          · exact own_ne oB oD ne_bi q (blk_own oB h1).1 hq
          · exact unhide HFD q h1 hq
      have HL1 := hide hl1
      have HL2 := hide hl2
      have HL3 := hide hl3
      have z0 : wo.cell? ⟨g, 0, none⟩ = some (.slice B1 t.base.length d1) := kg.cell 0
      have z1 : wo.cell? ⟨g, 1, none⟩ = some (.slice A' ks.length c') := kg.cell 1
      have z2 : wo.cell? ⟨g, 2, none⟩ = some (.slice D ks.length e') := kg.cell 2
      clear hl1 hl2 hl3 hlm hall hgd
      go_wp2_with (refine wpList_store_row rfl 31 (.tmp 4) (.tmp 79) rfl (w.heap.size + 1) #[.slice B1 t.base.length d1, .slice A' ks.length c', .slice D ks.length e'] rfl rfl 31 #[.slice none 0 0, .slice none 0 0, .slice none 0 0] krr info_tr rfl (sl3_one _ _ _ _ _ _ _ _ _) ?_)
      refine bodyPost_ret (v := .tuple #[.agg #[.slice B1 t.base.length d1, .slice A' ks.length c', .slice D ks.length e'], .bool true]) (results_cell_tmp (p := 4) (q := 5) (ty := 31) rfl _ _ (w.heap.size + 1) 31 #[.slice B1 t.base.length d1, .slice A' ks.length c', .slice D ks.length e'] (0, 0) _ rfl (blk_setRow krr) Tryz.underlying31 rfl info_tr) rfl ?_
      rw [unhide HF]
      refine ⟨B1, d1, A', c', D, e', _, ?_, trO_base (trO_setRow tP (by omega) _) (by omega), below_setRow hBw (by omega) _⟩
      rw [unhide HL1, unhide HL2, unhide HL3]
end Go.Proofs.YtmpdopjailomlaaGreat
namespace Go.Proofs.YtmpdopjailomlaaGreat
open Go.RowKit
set_option linter.unusedVariables false
set_option linter.unusedSimpArgs false

theorem markBks_get (k : Int) (xs : List Bk) (j : Nat) (hj : j < xs.length) : (markBks k xs)[j]'(by rw [markBks_len]; exact hj) = markBk1 (markBkE k (xs.take j)) xs[j] := by
  induction xs generalizing k j with
  | nil => simp at hj
  | cons x xs ih =>
    cases j with
    | zero => rfl
    | succ j => simpa [markBks, markBkE] using ih (markBkN k x) j (by simpa using hj)
set_option maxHeartbeats 4000000 in
theorem heldBlockS_any (A : Option Addr) (c : Nat) (k0 : Int) (xs : List Bk) (P : Nat → Prop) (w : World) (h : RdD bkR P w A (markBks k0 xs)) (h0 : 0 ≤ k0) (h1 : markBkE k0 xs ≤ 576460752303423488) :
    Calls Tryz.prog 50 #[.slice A xs.length c, .int .i64 k0] w fun e w' => e = .returned (.int .i64 (markBkE k0 xs)) ∧ w = w' := by
  have hxl : (xs.length : Int) ≤ 576460752303423488 := by rw [markBkE_eq] at h1; omega
  go_enter Tryz.func50, Tryz.ntmps50
  go_wp2
  go_loop [1, 5] (fun kk i => ∃ (k : Nat) (z : Int), k ≤ xs.length ∧ i = .int .i64 k ∧ kk = .int .i64 z ∧ Hid (z = markBkE k0 (xs.take k))) (fun _ i => xs.length - (intOf i).toNat)
  case atStart => exact ⟨0, k0, Nat.zero_le _, rfl, rfl, hide rfl⟩
  case round =>
    obtain ⟨k, z, hk, rfl, rfl, HZ⟩ := hrel
    by_cases hlt : k < xs.length
    · have hltm : k < (markBks k0 xs).length := by rw [markBks_len]; exact hlt
      obtain ⟨b, off, A1, e1, rfl, hbP, hbb, d0, d1, d2, d3, d4, d5, hlc, q1⟩ := h.bk hltm
      rw [markBks_get k0 xs k hlt, ← unhide HZ] at d0 d1 d2 d3 d4 d5 q1
      simp only [markBk1] at d0 d1 d2 d3 d4 d5 q1
      have HSN := hide (markBks_snoc k0 (xs.take k) xs[k])
      have hzb : 0 ≤ z ∧ z + 5 + 4 * (xs[k].list.length : Int) ≤ 576460752303423488 := by
        have e1 := unhide HZ
        have e2 : bkTot (xs.take k) + xs[k].list.length ≤ bkTot xs := by
          have e3 : xs = xs.take k ++ xs[k] :: xs.drop (k + 1) := by rw [← drop_get xs k hlt, List.take_append_drop]
          have e4 := congrArg bkTot e3
          rw [bkTot_append, bkTot] at e4
          omega
        rw [markBkE_eq] at e1 h1
        rw [List.length_take] at e1
        omega
      have HTK := hide (List.take_succ_eq_append_getElem hlt)
      rw [markAct_length] at d3
      generalize xs[k] = x at *
      have i1 : (k : Int) < (xs.length : Int) := by omega
      have i2 : ¬ z + 1 + 1 + 1 + (x.list.length : Int) * 4 < 0 := by omega
      have HZN := hide (show z + 1 + 1 + 1 + x.list.length * 4 + 1 + 1 = markBkE k0 (xs.take (k + 1)) by rw [unhide HTK, (unhide HSN).2, ← unhide HZ]; rfl)
      clear hlc hltm
      go_wp2_with fail
      refine (heldActionS_any A1 e1 x.list.length (z + 1 + 1 + 1) w q1.rd (by omega) (by omega) (by omega)).mono ?_
      rintro e w' ⟨rfl, rfl⟩
      go_wp2
      go_round
      case rel => exact ⟨k + 1, _, by omega, by go_num, rfl, HZN⟩
      case measure => simp [intOf]; omega
    · obtain rfl : k = xs.length := by omega
      rw [List.take_length] at HZ
      go_wp2
      go_ret
      exact ⟨reti (unhide HZ), rfl⟩
set_option maxHeartbeats 4000000 in
theorem heldBlockTree_any (t : Tr) (A1 : Option Addr) (c1 : Nat) (A2 : Option Addr) (c2 : Nat) (A3 : Option Addr) (c3 : Nat) (k0 : Int) (w : World) (h : TrR w (markTr k0 t) A1 A2 A3) (h0 : 0 ≤ k0) (h1 : k0 ≤ 10000000) (ht : trTot t ≤ 10000000) :
    Calls Tryz.prog 13 #[.agg (trA t A1 c1 A2 c2 A3 c3), .int .i64 k0] w fun e w' => e = .returned (.int .i64 (markTrE k0 t)) ∧ Below w.heap.size w w' := by
  have b0 : Below w.heap.size w (w.alloc (.cells (trA t A1 c1 A2 c2 A3 c3) 31)) := (Below.refl _ _).alloc (Nat.le_refl _) _
  have K := Blk.new w 31 (trA t A1 c1 A2 c2 A3 c3)
  have z0 : (w.alloc (.cells (trA t A1 c1 A2 c2 A3 c3) 31)).cell? ⟨w.heap.size, 0, none⟩ = some (.slice A1 t.base.length c1) := K.cell 0
  have z1 : (w.alloc (.cells (trA t A1 c1 A2 c2 A3 c3) 31)).cell? ⟨w.heap.size, 1, none⟩ = some (.slice A2 t.blocks.length c2) := K.cell 1
  have z2 : (w.alloc (.cells (trA t A1 c1 A2 c2 A3 c3) 31)).cell? ⟨w.heap.size, 2, none⟩ = some (.slice A3 t.before.length c3) := K.cell 2
  have hle := markTrE_le k0 t h0
  have hr := h.new b0
  have r1 := hr.b1
  have r2 := hr.b2
  have r3 := hr.b3
  simp only [markTr] at r1 r2 r3
  have htt := ht
  unfold trTot at htt
  have HE1 := hide (show k0 + t.base.length * 2 = markTrE1 k0 t from rfl)
  have HE2 := hide (show markBkE (markTrE1 k0 t) t.blocks = markTrE2 k0 t from rfl)
  have HE3 := hide (show markTrE2 k0 t + t.before.length = markTrE k0 t from rfl)
  have hn1 : ¬ markTrE1 k0 t < 0 := by omega
  have hn2 : ¬ markTrE2 k0 t < 0 := by omega
  have hn3 : ¬ markTrE k0 t < 0 := by omega
  simp only [trA] at b0 z0 z1 z2 r1 r2 r3 ⊢
  clear h hr K
  go_enter Tryz.func13, Tryz.ntmps13
  go_wp2_with fail
  refine (heldEntryS_any A1 c1 t.base.length k0 _ r1 (by omega) h0 (by omega)).mono ?_
  rintro e w' ⟨rfl, rfl⟩
  rw [unhide HE1]
  go_wp2_with fail
  refine (heldBlockS_any A2 c2 (markTrE1 k0 t) t.blocks (fun _ => True) _ r2 (by omega) (by rw [unhide HE2]; omega)).mono ?_
  rintro e w' ⟨rfl, rfl⟩
  rw [unhide HE2]
  go_wp2_with fail
  refine (heldIntS_any A3 c3 t.before.length (markTrE2 k0 t) _ r3 (by omega) (by omega) (by omega)).mono ?_
  rintro e w' ⟨rfl, rfl⟩
  rw [unhide HE3]
  go_wp2
  go_ret
  exact ⟨rfl, b0⟩
end Go.Proofs.YtmpdopjailomlaaGreat
