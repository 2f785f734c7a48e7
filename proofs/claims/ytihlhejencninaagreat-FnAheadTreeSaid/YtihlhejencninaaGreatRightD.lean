/- The right blocks of a tree, of the reference, and of the program for trees that are none (printed by gen_in.py from xrightd.in). -/
import Derived.Test.YtihlhejencninaaGreatRight
import Derived.Test.YtihlhejencninaaGreatRightC
import Derived.Test.YtihlhejencninaaGreatGpath
import Derived.Test.YtihlhejencninaaGreatBTreeS
namespace Go.Proofs.YtihlhejencninaaGreat
open Go.RowKit
set_option linter.unusedVariables false
set_option linter.unusedSimpArgs false

set_option maxHeartbeats 1000000 in
theorem rightBlocks_impl_no (t : Tr) (A1 : Option Addr) (c1 : Nat) (A2 : Option Addr) (c2 : Nat) (A3 : Option Addr) (c3 : Nat) (w : World) (h : TrR w t A1 A2 A3) (hv : treeB t = false) (hb1 : t.base.length ≤ 1099511627776) (hb2 : t.blocks.length ≤ 1099511627776) (hbs : ∀ x ∈ t.blocks, x.list.length ≤ 1099511627776) (hb3 : t.before.length ≤ 1099511627776) :
   Calls Tryz.prog 44 #[.agg (trA t A1 c1 A2 c2 A3 c3)] w fun e w' => e = .returned (.slice none 0 0) ∧ Below w.heap.size w w' := by
 have HBS := hide hbs
 clear hbs
 obtain ⟨W, hW⟩ : ∃ W : World, W = w.alloc (.cells (trA t A1 c1 A2 c2 A3 c3) 69) := ⟨_, rfl⟩
 have hb0 : Below w.heap.size w W := by rw [hW]; exact (Below.refl _ _).alloc (Nat.le_refl _) _
 have K0 : Blk W w.heap.size 69 (trA t A1 c1 A2 c2 A3 c3) := by rw [hW]; exact Blk.new _ _ _
 have HR := hide (fun w' (hb : Below W.heap.size W w') => h.new (bthen hb0 hb))
 have hWs : w.heap.size < W.heap.size := K0.lt
 have BX := hide (fun w' (hb : Below W.heap.size W w') => show w'.cell? ⟨w.heap.size, 0, none⟩ = some (.slice A1 t.base.length c1) ∧ w'.cell? ⟨w.heap.size, 1, none⟩ = some (.slice A2 t.blocks.length c2) ∧ w'.cell? ⟨w.heap.size, 2, none⟩ = some (.slice A3 t.before.length c3) from ⟨(K0.new_ hb).cell 0, (K0.new_ hb).cell 1, (K0.new_ hb).cell 2⟩)
 have KV := treeValid_impl t A1 c1 A2 c2 A3 c3 W (unhide HR _ (Below.refl _ _)) hb1 hb2 (unhide HBS) hb3
 rw [hv] at KV
 obtain ⟨x0, x1, x2⟩ := unhide BX W (Below.refl _ _)
 simp only [trA] at K0 hW KV ⊢
 clear h K0 hv
 go_enter Tryz.func44, Tryz.ntmps44
 go_wp2_with fail
 rw [← hW]
 clear hW
 refine KV.mono ?_
 rintro e w3 ⟨rfl, b3⟩
 go_wp2
 go_ret
 exact ⟨rfl, bthen hb0 b3⟩
set_option maxHeartbeats 1000000 in
theorem rightBlocks_spec_no (t : Tr) (A1 : Option Addr) (c1 : Nat) (A2 : Option Addr) (c2 : Nat) (A3 : Option Addr) (c3 : Nat) (w : World) (h : TrR w t A1 A2 A3) (hv : treeB t = false) (hb1 : t.base.length ≤ 1099511627776) (hb2 : t.blocks.length ≤ 1099511627776) (hbs : ∀ x ∈ t.blocks, x.list.length ≤ 1099511627776) (hb3 : t.before.length ≤ 1099511627776) :
   Calls Tryz.prog 45 #[.agg (trA t A1 c1 A2 c2 A3 c3)] w fun e w' => ∃ A' c', e = .returned (.slice A' 0 c') ∧ Below w.heap.size w w' := by
 have HBS := hide hbs
 clear hbs
 obtain ⟨W, hW⟩ : ∃ W : World, W = w.alloc (.cells (trA t A1 c1 A2 c2 A3 c3) 69) := ⟨_, rfl⟩
 have hb0 : Below w.heap.size w W := by rw [hW]; exact (Below.refl _ _).alloc (Nat.le_refl _) _
 have K0 : Blk W w.heap.size 69 (trA t A1 c1 A2 c2 A3 c3) := by rw [hW]; exact Blk.new _ _ _
 have HR := hide (fun w' (hb : Below W.heap.size W w') => h.new (bthen hb0 hb))
 have hWs : w.heap.size < W.heap.size := K0.lt
 have BX := hide (fun w' (hb : Below W.heap.size W w') => show w'.cell? ⟨w.heap.size, 0, none⟩ = some (.slice A1 t.base.length c1) ∧ w'.cell? ⟨w.heap.size, 1, none⟩ = some (.slice A2 t.blocks.length c2) ∧ w'.cell? ⟨w.heap.size, 2, none⟩ = some (.slice A3 t.before.length c3) from ⟨(K0.new_ hb).cell 0, (K0.new_ hb).cell 1, (K0.new_ hb).cell 2⟩)
 have HKV := hide (fun w' (hb : Below W.heap.size W w') => show Calls Tryz.prog 88 #[.agg (trA t A1 c1 A2 c2 A3 c3)] w' fun e w'' => e = .returned (.bool false) ∧ Below w'.heap.size w' w'' by have K := treeValid_spec t A1 c1 A2 c2 A3 c3 w' (unhide HR w' hb) hb1 hb2 (unhide HBS) hb3; rw [hv] at K; exact K)
 have b1 : Below W.heap.size W (W.alloc (.cells #[] 4)) := (Below.refl _ _).alloc (Nat.le_refl _) _
 obtain ⟨x0, x1, x2⟩ := unhide BX _ b1
 simp only [trA] at K0 hW HKV ⊢
 clear h K0 hv
 go_enter Tryz.func45, Tryz.ntmps45
 go_upto_region 1 with fail
 rw [← hW]
 clear hW
 go_wp2
 go_loopw [3, 4, 5, 6] (fun r i _ _ wr => (∃ (c' : Nat) (A' : Option Addr), r = .slice A' 0 c') ∧ i = .int .i64 0 ∧ Below W.heap.size W wr) (fun _ _ _ _ _ => 0)
 case atStart => exact ⟨⟨_, _, rfl⟩, rfl, b1⟩
 case round =>
   clear b1 x0 x1 x2
   obtain ⟨⟨c', A', rfl⟩, rfl, hB⟩ := hrel
   obtain ⟨x0, x1, x2⟩ := unhide BX _ hB
   go_wp2_with fail
   refine (unhide HKV wr hB).mono ?_
   rintro e w3 ⟨rfl, b3⟩
   go_wp2
   go_ret
   exact ⟨A', c', rfl, bthen hb0 (bthen hB b3)⟩
set_option maxRecDepth 100000 in
set_option maxHeartbeats 4000000 in
theorem rightBlocks_spec_yes (t : Tr) (A1 : Option Addr) (c1 : Nat) (A2 : Option Addr) (c2 : Nat) (A3 : Option Addr) (c3 : Nat) (w : World) (h : TrR w t A1 A2 A3) (hv : treeB t = true) (hb1 : t.base.length ≤ 1099511627776) (hb2 : t.blocks.length ≤ 1099511627776) (hbs : ∀ x ∈ t.blocks, x.list.length ≤ 1099511627776) (hb3 : t.before.length ≤ 1099511627776) :
   Calls Tryz.prog 45 #[.agg (trA t A1 c1 A2 c2 A3 c3)] w fun e w' => ∃ A' c', e = .returned (.slice A' t.blocks.length c') ∧ Below w.heap.size w w' := by
 have HBS := hide hbs
 clear hbs
 obtain ⟨W, hW⟩ : ∃ W : World, W = w.alloc (.cells (trA t A1 c1 A2 c2 A3 c3) 69) := ⟨_, rfl⟩
 have hb0 : Below w.heap.size w W := by rw [hW]; exact (Below.refl _ _).alloc (Nat.le_refl _) _
 have K0 : Blk W w.heap.size 69 (trA t A1 c1 A2 c2 A3 c3) := by rw [hW]; exact Blk.new _ _ _
 have HR := hide (fun w' (hb : Below W.heap.size W w') => h.new (bthen hb0 hb))
 have hWs : w.heap.size < W.heap.size := K0.lt
 have BX := hide (fun w' (hb : Below W.heap.size W w') => show w'.cell? ⟨w.heap.size, 0, none⟩ = some (.slice A1 t.base.length c1) ∧ w'.cell? ⟨w.heap.size, 1, none⟩ = some (.slice A2 t.blocks.length c2) ∧ w'.cell? ⟨w.heap.size, 2, none⟩ = some (.slice A3 t.before.length c3) from ⟨(K0.new_ hb).cell 0, (K0.new_ hb).cell 1, (K0.new_ hb).cell 2⟩)
 have HKV := hide (fun w' (hb : Below W.heap.size W w') => show Calls Tryz.prog 88 #[.agg (trA t A1 c1 A2 c2 A3 c3)] w' fun e w'' => e = .returned (.bool true) ∧ Below w'.heap.size w' w'' by have K := treeValid_spec t A1 c1 A2 c2 A3 c3 w' (unhide HR w' hb) hb1 hb2 (unhide HBS) hb3; rw [hv] at K; exact K)
 have HSO := hide (fun w' (hb : Below W.heap.size W w') (n : Int) => storeOf_spec t A1 c1 A2 c2 A3 c3 n w' (unhide HR w' hb) hb1 hb2 (unhide HBS) hb3)
 have HV := hide hv
 have HBL := hide (treeB_yes hv).2.2.2.1
 have hb14 : t.blocks.length ≤ 14 := (treeB_yes hv).2.2.1
 have b1 : Below W.heap.size W (W.alloc (.cells #[] 4)) := (Below.refl _ _).alloc (Nat.le_refl _) _
 have o1 := own_made (base := W.heap.size) (e := 4) (size := 1) W #[] 0 (Nat.le_refl _) (by simp [maxLen]) rfl
 obtain ⟨x0, x1, x2⟩ := unhide BX _ b1
 simp only [trA] at K0 hW HKV HSO ⊢
 clear h K0 hv
 go_enter Tryz.func45, Tryz.ntmps45
 go_upto_region 1 with fail
 rw [← hW]
 clear hW
 go_wp2
 go_loopw [3, 4, 5, 6] (fun r i _ _ wr => ∃ (k : Nat) (A' : Option Addr) (c' : Nat) (xs : List Bool), k ≤ t.blocks.length ∧ xs.length = k ∧ i = .int .i64 k ∧ r = .slice A' k c' ∧ wr.ownsRow W.heap.size 4 1 (.slice A' k c') k (xs.map .bool) ∧ Below W.heap.size W wr) (fun _ i _ _ _ => t.blocks.length - (intOf i).toNat)
 case atStart => exact ⟨0, _, _, [], Nat.zero_le _, rfl, rfl, rfl, by simpa using o1, b1⟩
 case round =>
   clear b1 x0 x1 x2 o1
   obtain ⟨k, A', c', xs, hk, HXL, rfl, rfl, hown, hB⟩ := hrel
   replace HXL := hide HXL
   obtain ⟨x0, x1, x2⟩ := unhide BX _ hB
   go_wp2_with fail
   refine (unhide HKV wr hB).mono ?_
   rintro e w3 ⟨rfl, b3⟩
   have hB3 := bthen hB b3
   have hown3 := own_new hown b3
   clear hown hB b3 x0 x1 x2
   obtain ⟨x0, x1, x2⟩ := unhide BX _ hB3
   by_cases hlt : k < t.blocks.length
   · have i1 : (k : Int) < (t.blocks.length : Int) := by omega
     obtain ⟨bq, offq, L1, e1, hA2, -, hbb, d0, d1, d2, d3, d4, d5, -, q1⟩ := (unhide HR w3 hB3).b2.bk hlt
     have hll := unhide HBS t.blocks[k] (List.getElem_mem hlt)
     have hp := pAt_lt (unhide HV) hlt
     have hp0 := hide (fun (h0 : 0 < k) => show 0 ≤ pAt t k from by have := inB_true.1 (by have := (treeB_yes (unhide HV)).2.2.2.2.2.2.2 k h0 hlt; rw [nodeOk, Bool.and_eq_true] at this; exact this.1); omega)
     have hk3 : k < t.before.length := by have := unhide HBL; omega
     obtain ⟨b3, off3, hA3, hb3b, u0⟩ := (unhide HR w3 hB3).b3.int hk3
     rw [← pAt_get t hk3] at u0
     have q1r : Rd w3 L1 (t.blocks[k].list.flatMap encA) := q1.rd
     have hst := storeT_len t (pAt t k)
     generalize t.blocks[k] = x at *
     have HSK := hide (fun w' (hb : Below W.heap.size W w') => unhide HSO w' hb (pAt t k))
     generalize storeT t (pAt t k) = sx at *
     generalize pAt t k = pk at *
     have HA2 := hide hA2
     have HA3 := hide hA3
     rw [unhide HA2] at x1
     have HX := hide (fun (w' : World) (b : Below w3.heap.size w3 w') => show (w'.cell? ⟨bq, offq + k * 6, none⟩ = some (.int .i64 x.before) ∧ w'.cell? ⟨bq, offq + k * 6 + 1, none⟩ = some (.int .i64 x.height) ∧ w'.cell? ⟨bq, offq + k * 6 + 2, none⟩ = some (.int .i64 x.view) ∧ w'.cell? ⟨bq, offq + k * 6 + 3, none⟩ = some (.slice L1 x.list.length e1) ∧ w'.cell? ⟨bq, offq + k * 6 + 4, none⟩ = some (.int .i64 x.root) ∧ w'.cell? ⟨bq, offq + k * 6 + 5, none⟩ = some (.int .i64 x.eff)) ∧ w'.cell? ⟨b3, off3 + k, none⟩ = some (.int .i64 pk) ∧ Rd w' L1 (x.list.flatMap encA) ∧ w'.ownsRow W.heap.size 4 1 (.slice A' k c') k (xs.map .bool) ∧ Below W.heap.size W w' from
       ⟨⟨(b.cell hbb).trans d0, (b.cell hbb).trans d1, (b.cell hbb).trans d2, (b.cell hbb).trans d3, (b.cell hbb).trans d4, (b.cell hbb).trans d5⟩, (b.cell (p := ⟨b3, off3 + k, none⟩) hb3b).trans u0, q1r.new b, own_new hown3 b, bthen hB3 b⟩)
     clear hA2 hA3 q1 d0 d1 d2 d3 d4 d5 u0 q1r
     have hxb := (unhide HR w3 hB3).b1
     by_cases hz : k = 0
     · have hkz : ¬ (0 : Int) < (k : Int) := by omega
       have hkz2 : decide (0 < k) = false := by simp; omega
       have HZ := hide hz
       clear hz
       obtain ⟨⟨s0, s1, s2, s3, s4, s5⟩, s9, s10, s11, s12⟩ := unhide HX w3 (Below.refl _ _)
       go_wp2_with fail
       refine (blockRight_spec x L1 e1 A1 c1 t.base w3 s10 (by omega) hxb (by omega)).mono ?_
       rintro e w10 ⟨rfl, b10⟩
       obtain ⟨-, -, -, o10, b10'⟩ := unhide HX w10 b10
       clear HX s0 s1 s2 s3 s4 s5 s9 s10 s11 s12 b10 x0 x1 x2 hxb
       have hs10 : W.heap.size ≤ w10.heap.size := b10'.size
       have hrg := own_rng o10
       generalize blkRightB x t.base = rb at *
       go_wp2_with (at_builtin; refine wpList_app rfl (.tmp 38) (.tmp 49) 71 rfl el_bool rfl (own_alloc o10 _) rfl (rd_lit w10 [.bool rb] _) rfl (one_bools [rb]) (by simp only [maxLen]; omega) (by omega) (by simp; omega) ?_; intro A8 c8 w8 o8 ch8 d8 _)
       have hB8 := (b10'.alloc b10'.size (.cells #[.bool rb] 4)).trans (ch8.below (fun q hq e => by have := hrg q e; omega) (by simp; omega))
       go_roundw
       case rel => exact ⟨k + 1, A8, c8, xs ++ [rb], by omega, by simp; exact unhide HXL, by go_num, rfl, by simpa using o8, hB8⟩
       case measure => simp [intOf]; omega
     · have hkz : (0 : Int) < (k : Int) := by omega
       have hkz2 : 0 < k := by omega
       have hpk := unhide hp0 (by omega)
       obtain ⟨q, rfl⟩ := Int.eq_ofNat_of_zero_le hpk
       have hqk : q < k := by omega
       have i2 : (q : Int) < (k : Int) := by omega
       have i3 : (k : Int) < (t.before.length : Int) := by omega
       obtain ⟨g, hg, hg1, hg2⟩ := own_addr hown3 (by omega)
       subst hg
       obtain ⟨⟨s0, s1, s2, s3, s4, s5⟩, s9, s10, s11, s12⟩ := unhide HX w3 (Below.refl _ _)
       have KST := unhide HSK w3.drew (below_drewN hB3 1)
       rw [unhide HA3] at x2
       have hA2' := unhide HA2
       have hA3' := unhide HA3
       rw [hA2', hA3'] at KST
       clear hA2' hA3'
       have hxl : q < xs.length := by have := unhide HXL; omega
       go_upto_region 8 with fail
       go_still_tail 6, (by kernel_rfl)
       change wpList _ _ _ _ _ w3.drew
       go_wp2_with fail
       refine KST.mono ?_
       rintro e w5 ⟨A5, c5, rfl, o5, b5⟩
       replace b5 := below_undrew b5
       have r5 := own_rd o5
       clear KST x0 x1 x2 s0 s1 s2 s3 s4 s5 s9 s10 s11 s12 o5 hxb
       obtain ⟨⟨s0, s1, s2, s3, s4, s5⟩, s9, s10, s11, s12⟩ := unhide HX w5 b5
       obtain ⟨x0, x1, x2⟩ := unhide BX w5 s12
       have hcl : w5.cell? ⟨g, q, none⟩ = some (.bool (xs.getD q false)) := by rw [own_cell s11 q (by simp; omega)]; simp [List.getD_eq_getElem?_getD, hxl]
       rw [unhide HA2] at x1
       rw [unhide HA3] at x2
       generalize xs.getD q false = gb at *
       cases gb
       · have hrg := own_rng s11
         have hs10 : W.heap.size ≤ w5.heap.size := s12.size
         have o10 := s11
         have b10' := s12
         clear HX r5 b5
         go_wp2_with (at_builtin; refine wpList_app rfl (.tmp 38) (.tmp 49) 71 rfl el_bool rfl (own_alloc o10 _) rfl (rd_lit w5 [.bool false] _) rfl (one_bools [false]) (by simp only [maxLen]; omega) (by omega) (by simp; omega) ?_; intro A8 c8 w8 o8 ch8 d8 _)
         have hB8 := (b10'.alloc b10'.size (.cells #[.bool false] 4)).trans (ch8.below (fun q hq e => by have := hrg q e; omega) (by simp; omega))
         go_roundw
         case rel => exact ⟨k + 1, A8, c8, xs ++ [false], by omega, by simp; exact unhide HXL, by go_num, rfl, by simpa using o8, hB8⟩
         case measure => simp [intOf]; omega
       · go_wp2_with fail
         refine (blockRight_spec x L1 e1 A5 c5 sx w5 s10 (by omega) r5 (by omega)).mono ?_
         rintro e w10 ⟨rfl, b10⟩
         obtain ⟨-, -, -, o10, b10'⟩ := unhide HX w10 (bthen b5 b10)
         clear HX s0 s1 s2 s3 s4 s5 s9 s10 s11 s12 b10 b5 x0 x1 x2 r5 hcl
         have hs10 : W.heap.size ≤ w10.heap.size := b10'.size
         have hrg := own_rng o10
         generalize blkRightB x sx = rb at *
         go_wp2_with (at_builtin; refine wpList_app rfl (.tmp 38) (.tmp 49) 71 rfl el_bool rfl (own_alloc o10 _) rfl (rd_lit w10 [.bool rb] _) rfl (one_bools [rb]) (by simp only [maxLen]; omega) (by omega) (by simp; omega) ?_; intro A8 c8 w8 o8 ch8 d8 _)
         have hB8 := (b10'.alloc b10'.size (.cells #[.bool rb] 4)).trans (ch8.below (fun q hq e => by have := hrg q e; omega) (by simp; omega))
         go_roundw
         case rel => exact ⟨k + 1, A8, c8, xs ++ [rb], by omega, by simp; exact unhide HXL, by go_num, rfl, by simpa using o8, hB8⟩
         case measure => simp [intOf]; omega
   · obtain rfl : k = t.blocks.length := by omega
     go_wp2
     go_ret
     exact ⟨A', c', rfl, bthen hb0 hB3⟩
end Go.Proofs.YtihlhejencninaaGreat
