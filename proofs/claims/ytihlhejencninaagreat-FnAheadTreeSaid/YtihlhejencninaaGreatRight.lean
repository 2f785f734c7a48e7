/- The right blocks of a tree, of the program (printed by gen_in.py from xright.in). -/
import Derived.Test.YtihlhejencninaaGreatGpath
import Derived.Test.YtihlhejencninaaGreatEffSI
import Derived.Test.YtihlhejencninaaGreatRightB
namespace Go.Proofs.YtihlhejencninaaGreat
open Go.RowKit
set_option linter.unusedVariables false
set_option linter.unusedSimpArgs false

/-- the values before a block -/
def aheadV (t : Tr) (k : Nat) : List Int := afterV t (pathT t (pAt t k))
theorem aheadV_zero {t : Tr} (h : treeB t = true) : aheadV t 0 = valsL t.base := by
 have h0 := (treeB_yes h).2.2.2.2.2.1
 unfold aheadV
 rw [h0, pathT_out t (by omega)]
 rfl
theorem valOk_ahead {t : Tr} (h : treeB t = true) (k : Nat) : valOk (aheadV t k) := valOk_after h _ fun x hx => pathT_mem hx
/-- are a block and all before it right? -/
def rightN (t : Tr) : Nat → List Bool
 | 0 => []
 | n + 1 => rightN t n ++ [blkRightB (bAt t n) (storeL (aheadV t n)) && (n == 0 || (rightN t n).getD (pAt t n).toNat false)]
theorem rightN_len (t : Tr) : ∀ n, (rightN t n).length = n
 | 0 => rfl
 | n + 1 => by rw [rightN, List.length_append, rightN_len t n]; rfl
set_option maxRecDepth 100000 in
set_option maxHeartbeats 4000000 in
theorem ahead_impl (t : Tr) (A1 : Option Addr) (c1 : Nat) (A2 : Option Addr) (c2 : Nat) (A3 : Option Addr) (c3 : Nat) (k : Nat) (w : World) (h : TrR w t A1 A2 A3) (hv : treeB t = true) (hk : k < t.blocks.length) :
   Calls Tryz.prog 87 #[.agg (trA t A1 c1 A2 c2 A3 c3), .int .i64 (k : Int)] w fun e w' => e = .returned (.agg (vA (aheadV t k))) ∧ Below w.heap.size w w' := by
 have HV := hide hv
 have hb1 : t.base.length ≤ 32 := store_len (treeB_yes hv).1
 have hkb : ∀ e ∈ t.base, 0 ≤ e.k ∧ e.k ≤ 31 := fun e he => by have := evOk_all (treeB_yes hv).1 e he; omega
 have HKB := hide hkb
 have hbl : t.before.length = t.blocks.length := (treeB_yes hv).2.2.2.1
 have hk3 : k < t.before.length := by omega
 clear hbl
 have hp := pAt_lt hv hk
 have hpz := hide (fun hz : k = 0 => (show aheadV t k = valsL t.base by subst hz; exact aheadV_zero hv))
 have hsz : (vA (aheadV t k)).size = 32 := by rw [vA_size]; exact (valOk_ahead hv k).1
 clear hv hkb
 have HR := hide (fun w' (hb : Below w.heap.size w w') => h.new hb)
 obtain ⟨W, hW⟩ : ∃ W : World, W = (w.alloc (.cells (trA t A1 c1 A2 c2 A3 c3) 69)).alloc (.cells zA 112) := ⟨_, rfl⟩
 have hb0 : Below w.heap.size w W := by rw [hW]; exact ((Below.refl _ _).alloc (Nat.le_refl _) _).alloc (by simp) _
 have K0 : Blk W w.heap.size 69 (trA t A1 c1 A2 c2 A3 c3) := by rw [hW]; exact (Blk.new _ _ _).alloc _
 have K1 : Blk W (w.heap.size + 1) 112 zA := by
   rw [hW]
   have := Blk.new (w.alloc (.cells (trA t A1 c1 A2 c2 A3 c3) 69)) 112 zA
   simpa using this
 have x0 : W.cell? ⟨w.heap.size, 0, none⟩ = some (.slice A1 t.base.length c1) := K0.cell 0
 have x1 : W.cell? ⟨w.heap.size, 1, none⟩ = some (.slice A2 t.blocks.length c2) := K0.cell 1
 have x2 : W.cell? ⟨w.heap.size, 2, none⟩ = some (.slice A3 t.before.length c3) := K0.cell 2
 have KV := valuesOf_any A1 c1 t.base W ((unhide HR W hb0).b1) (by omega) (unhide HKB)
 have KA := hide (after_impl t A1 c1 A2 c2 A3 c3 (pAt t k) W.drew ((unhide HR W hb0).drewN 1) (unhide HV) hp.1 (by omega))
 obtain ⟨bq, offq, hA3, hbb, d0⟩ := ((unhide HR W hb0).b3).int hk3
 rw [← pAt_get t hk3] at d0
 have HAV := hide (show aheadV t k = afterV t (pathT t (pAt t k)) from rfl)
 generalize aheadV t k = av at *
 generalize pAt t k = pk at *
 have hgz : zA.size = 32 := rfl
 have HEND := hide (fun (w' : World) (u : List Int) (hu : (vA u).size = 32) (K : Blk w' (w.heap.size + 1) 112 zA) (hB : Below w.heap.size w w') => show Blk (w'.setRow (w.heap.size + 1) (vA u)) (w.heap.size + 1) 112 (vA u) ∧ Below w.heap.size w (w'.setRow (w.heap.size + 1) (vA u)) from ⟨blk_setRow K, ⟨hB.os, hB.tape, hB.output, by rw [size_setRow]; exact hB.size, fun q hq => (setRow_other w' (w.heap.size + 1) q _ (by omega)).trans (hB.block q hq)⟩⟩)
 simp only [trA] at K0 hW KA ⊢
 clear h
 by_cases hz : k = 0
 · have HE := hide (unhide hpz hz)
   have hls : (vA (valsL t.base)).size = 32 := by rw [vA_size, valsL_len]
   subst hz
   clear hpz d0 hA3 KA
   go_enter Tryz.func87, Tryz.ntmps87
   subst hW
   go_wp2_with fail
   refine KV.mono ?_
   rintro e w3 ⟨rfl, b3⟩
   have K3 := K1.new_ b3
   have hB3 := bthen hb0 b3
   clear KV b3 x0 x1 x2 K0 K1
   go_wp2_with (refine wpList_store_row rfl 112 (.tmp 4) (.tmp 9) rfl (w.heap.size + 1) (vA (valsL t.base)) rfl rfl 112 zA K3 (by rw [hls]; exact info_vals) (by rw [hls]; rfl) (vA_one _) ?_)
   obtain ⟨k4, b4⟩ := unhide HEND w3 _ hls K3 hB3
   refine bodyPost_ret (v := .agg (vA (valsL t.base))) (results_cell_row (p := 4) (ty := 112) rfl _ _ (w.heap.size + 1) 112 (vA (valsL t.base)) (0, 0) _ rfl k4 Tryz.underlying112 rfl (by rw [hls]; exact info_vals)) rfl ⟨by rw [unhide HE], b4⟩
 · have hkz : ((k : Int) == 0) = false := by simp; exact hz
   have hkz2 : ¬ (k : Int) = 0 := by omega
   have i1 : (k : Int) < (t.before.length : Int) := by omega
   have HA := hide hA3
   clear hpz hz KV hA3
   rw [unhide HA] at x2 hW K0 KA ⊢
   go_enter Tryz.func87, Tryz.ntmps87
   unfold zA at hW
   go_upto_region 3 with fail
   rw [← hW]
   clear hW
   go_still_tail 6, (by kernel_rfl)
   change wpList _ _ _ _ _ W.drew
   go_wp2_with fail
   refine (unhide KA).mono ?_
   rintro e w3 ⟨rfl, b3⟩
   have b3' := below_undrew b3
   have K3 := K1.new_ b3'
   have hB3 := bthen hb0 b3'
   clear b3 x0 x1 x2 K0 K1
   rw [← unhide HAV]
   go_wp2_with (refine wpList_store_row rfl 112 (.tmp 4) (.tmp 16) rfl (w.heap.size + 1) (vA av) rfl rfl 112 zA K3 (by rw [hsz]; exact info_vals) (by rw [hsz]; rfl) (vA_one _) ?_)
   obtain ⟨k4, b4⟩ := unhide HEND w3 _ hsz K3 hB3
   refine bodyPost_ret (v := .agg (vA av)) (results_cell_row (p := 4) (ty := 112) rfl _ _ (w.heap.size + 1) 112 (vA av) (0, 0) _ rfl k4 Tryz.underlying112 rfl (by rw [hsz]; exact info_vals)) rfl ⟨rfl, b4⟩
set_option maxRecDepth 100000 in
set_option maxHeartbeats 2000000 in
theorem rightBlocks_impl (t : Tr) (A1 : Option Addr) (c1 : Nat) (A2 : Option Addr) (c2 : Nat) (A3 : Option Addr) (c3 : Nat) (w : World) (h : TrR w t A1 A2 A3) (hv : treeB t = true) (hb1 : t.base.length ≤ 1099511627776) (hb2 : t.blocks.length ≤ 1099511627776) (hbs : ∀ x ∈ t.blocks, x.list.length ≤ 1099511627776) (hb3 : t.before.length ≤ 1099511627776) :
   Calls Tryz.prog 44 #[.agg (trA t A1 c1 A2 c2 A3 c3)] w fun e w' => ∃ A' c', e = .returned (.slice A' t.blocks.length c') ∧ w'.ownsRow w.heap.size 4 1 (.slice A' t.blocks.length c') t.blocks.length ((rightN t t.blocks.length).map .bool) ∧ Below w.heap.size w w' := by
 have HBS := hide hbs
 clear hbs
 have HV := hide hv
 obtain ⟨W, hW⟩ : ∃ W : World, W = w.alloc (.cells (trA t A1 c1 A2 c2 A3 c3) 69) := ⟨_, rfl⟩
 have hb0 : Below w.heap.size w W := by rw [hW]; exact (Below.refl _ _).alloc (Nat.le_refl _) _
 have K0 : Blk W w.heap.size 69 (trA t A1 c1 A2 c2 A3 c3) := by rw [hW]; exact Blk.new _ _ _
 have HR := hide (fun w' (hb : Below W.heap.size W w') => h.new (bthen hb0 hb))
 have hWs : w.heap.size < W.heap.size := K0.lt
 have BX := hide (fun w' (hb : Below W.heap.size W w') => show w'.cell? ⟨w.heap.size, 0, none⟩ = some (.slice A1 t.base.length c1) ∧ w'.cell? ⟨w.heap.size, 1, none⟩ = some (.slice A2 t.blocks.length c2) ∧ w'.cell? ⟨w.heap.size, 2, none⟩ = some (.slice A3 t.before.length c3) from ⟨(K0.new_ hb).cell 0, (K0.new_ hb).cell 1, (K0.new_ hb).cell 2⟩)
 have KV := treeValid_impl t A1 c1 A2 c2 A3 c3 W (unhide HR _ (Below.refl _ _)) hb1 hb2 (unhide HBS) hb3
 rw [hv] at KV
 have HA := hide (fun w' (hb : Below W.heap.size W w') (k : Nat) (hk : k < t.blocks.length) => ahead_impl t A1 c1 A2 c2 A3 c3 k w' (unhide HR w' hb) (unhide HV) hk)
 have HBL := hide (treeB_yes hv).2.2.2.1
 have hb14 : t.blocks.length ≤ 14 := (treeB_yes hv).2.2.1
 obtain ⟨x0, x1, x2⟩ := unhide BX W (Below.refl _ _)
 simp only [trA] at K0 hW KV HA ⊢
 clear h K0 hv
 go_enter Tryz.func44, Tryz.ntmps44
 go_wp2_with fail
 rw [← hW]
 clear hW
 refine KV.mono ?_
 rintro e w3 ⟨rfl, b3⟩
 clear KV x0 x1 x2
 obtain ⟨z0, z1, z2⟩ := unhide BX w3 b3
 have hB3 := bthen hb0 b3
 go_wp2
 go_loopw [3, 4, 5, 6, 13] (fun r _ _ _ i wr => ∃ (k : Nat) (A' : Option Addr) (c' : Nat), k ≤ t.blocks.length ∧ i = .int .i64 k ∧ r = .slice A' k c' ∧ wr.ownsRow W.heap.size 4 1 (.slice A' k c') k ((rightN t k).map .bool) ∧ Below W.heap.size W wr) (fun _ _ _ _ i _ => t.blocks.length - (intOf i).toNat)
 case atStart => exact ⟨0, none, 0, Nat.zero_le _, rfl, rfl, own_nil _ _ _ _, b3⟩
 case round =>
   clear b3 hB3 z0 z1 z2
   obtain ⟨k, A', c', hk, rfl, rfl, hown, hB⟩ := hrel
   by_cases hlt : k < t.blocks.length
   · have i1 : (k : Int) < (t.blocks.length : Int) := by omega
     have hbw := bthen hb0 hB
     obtain ⟨y0, y1, y2⟩ := unhide BX wr hB
     obtain ⟨bq, offq, L1, e1, hA2, -, hbb, d0, d1, d2, d3, d4, d5, -, q1⟩ := (unhide HR wr hB).b2.bk hlt
     have hll := unhide HBS t.blocks[k] (List.getElem_mem hlt)
     have HT := hide (show rightN t (k + 1) = rightN t k ++ [blkRightB t.blocks[k] (storeL (aheadV t k)) && (k == 0 || (rightN t k).getD (pAt t k).toNat false)] by rw [rightN, bAt_get t hlt])
     have HAK := hide (fun w' hb => unhide HA w' hb k hlt)
     have hp := pAt_lt (unhide HV) hlt
     have hp0 := hide (fun (h0 : 0 < k) => show 0 ≤ pAt t k from by have := inB_true.1 (by have := (treeB_yes (unhide HV)).2.2.2.2.2.2.2 k h0 hlt; rw [nodeOk, Bool.and_eq_true] at this; exact this.1); omega)
     have hvl := (valOk_ahead (unhide HV) k).1
     have hrl := rightN_len t k
     have hk3 : k < t.before.length := by have := unhide HBL; omega
     obtain ⟨b3, off3, hA3, hb3b, u0⟩ := (unhide HR wr hB).b3.int hk3
     rw [← pAt_get t hk3] at u0
     have q1r : Rd wr L1 (t.blocks[k].list.flatMap encA) := q1.rd
     generalize t.blocks[k] = x at *
     generalize aheadV t k = av at *
     generalize pAt t k = pk at *
     have hstl := storeL_len av
     have HA2 := hide hA2
     have HA3 := hide hA3
     have hown2 := own_alloc hown (.cells #[.int .i64 x.before, .int .i64 x.height, .int .i64 x.view, .slice L1 x.list.length e1, .int .i64 x.root, .int .i64 x.eff] 32)
     have hsw := hbw.size
     have kx := Blk.new wr 32 #[.int .i64 x.before, .int .i64 x.height, .int .i64 x.view, .slice L1 x.list.length e1, .int .i64 x.root, .int .i64 x.eff]
     have bx1 : Below wr.heap.size wr (wr.alloc (.cells #[.int .i64 x.before, .int .i64 x.height, .int .i64 x.view, .slice L1 x.list.length e1, .int .i64 x.root, .int .i64 x.eff] 32)) := (Below.refl _ _).alloc (Nat.le_refl _) _
     have HX := hide (fun (w' : World) (b : Below (wr.alloc (.cells #[.int .i64 x.before, .int .i64 x.height, .int .i64 x.view, .slice L1 x.list.length e1, .int .i64 x.root, .int .i64 x.eff] 32)).heap.size (wr.alloc (.cells #[.int .i64 x.before, .int .i64 x.height, .int .i64 x.view, .slice L1 x.list.length e1, .int .i64 x.root, .int .i64 x.eff] 32)) w') => show (w'.cell? ⟨wr.heap.size, 0, none⟩ = some (.int .i64 x.before) ∧ w'.cell? ⟨wr.heap.size, 1, none⟩ = some (.int .i64 x.height) ∧ w'.cell? ⟨wr.heap.size, 2, none⟩ = some (.int .i64 x.view) ∧ w'.cell? ⟨wr.heap.size, 3, none⟩ = some (.slice L1 x.list.length e1) ∧ w'.cell? ⟨wr.heap.size, 4, none⟩ = some (.int .i64 x.root) ∧ w'.cell? ⟨wr.heap.size, 5, none⟩ = some (.int .i64 x.eff)) ∧ (w'.cell? ⟨w.heap.size, 0, none⟩ = some (.slice A1 t.base.length c1) ∧ w'.cell? ⟨w.heap.size, 1, none⟩ = some (.slice A2 t.blocks.length c2) ∧ w'.cell? ⟨w.heap.size, 2, none⟩ = some (.slice A3 t.before.length c3)) ∧ w'.cell? ⟨b3, off3 + k, none⟩ = some (.int .i64 pk) ∧ Rd w' L1 (x.list.flatMap encA) ∧ w'.ownsRow W.heap.size 4 1 (.slice A' k c') k ((rightN t k).map .bool) ∧ Below W.heap.size W w' from by
       have b1 := bthen bx1 b
       exact ⟨⟨(kx.new_ b).cell 0, (kx.new_ b).cell 1, (kx.new_ b).cell 2, (kx.new_ b).cell 3, (kx.new_ b).cell 4, (kx.new_ b).cell 5⟩, unhide BX w' (bthen hB b1), (b1.cell (p := ⟨b3, off3 + k, none⟩) hb3b).trans u0, q1r.new b1, own_new hown2 b, bthen hB b1⟩)
     rw [unhide HA2]
     clear hown hown2 hA2 hA3 u0 q1 q1r kx bx1
     go_wp2
     have hF : StBL [bV (.agg #[.int .i64 x.before, .int .i64 x.height, .int .i64 x.view, .slice L1 x.list.length e1, .int .i64 x.root, .int .i64 x.eff]), bV (.agg #[.slice A1 t.base.length c1, .slice A2 t.blocks.length c2, .slice A3 t.before.length c3]), bV (.int .i64 (k : Int)), bV (.agg (vA av)), bEnts (storeL av)] :=
       ⟨sb_V _, sb_V _, sb_V _, sb_V _, sb_Ents _, trivial⟩
     go_upto_region 7 with fail
     refine wp_region_loc (by kernel_rfl) [(0, some 18), (1, some 19), (2, some 20), (3, some 21), (4, some 22)] [[], [], [], [(1, some 19), (2, some 20)], [(3, some 21)]] (by kernel_rfl)
       (locB _) (fun a b => Below a.heap.size a b) noR [0, 0, 0, 0, 0] 0 (by kernel_rfl) (fun _ => Below.refl _ _) (fun _ _ _ => bthen) (locB_st hF _) trivial ?_ ?_
     · refine steps_cons ?s0 ( steps_cons ?s1 ( steps_cons ?s2 ( steps_cons ?s3 ( steps_cons ?s4 steps_nil))))
       case s0 | s1 =>
         intro w' m' hE hR
         intro Q hQ
         obtain ⟨⟨s0, s1, s2, s3, s4, s5⟩, ⟨s6, s7, s8⟩, s9, s10, s11, s12⟩ := unhide HX w' (below_undrew hE)
         go_wp2
         exact hQ _ _ _ rfl rfl (Below.refl _ _) trivial
       case s2 =>
         intro w' m' hE hR
         intro Q hQ
         go_wp2
         exact hQ _ _ _ rfl rfl (Below.refl _ _) trivial
       case s3 =>
         intro w' m' hE hR
         rintro _ rfl _ rfl Q hQ
         obtain ⟨⟨s0, s1, s2, s3, s4, s5⟩, ⟨s6, s7, s8⟩, s9, s10, s11, s12⟩ := unhide HX w' (below_undrew hE)
         go_wp2_with fail
         refine (unhide HAK w' s12).mono ?_
         rintro e w5 ⟨rfl, b5⟩
         go_wp2
         exact hQ _ _ _ rfl rfl b5 trivial
       case s4 =>
         intro w' m' hE hR
         rintro _ rfl Q hQ
         go_wp2_with fail
         refine (store_any av w' hvl).mono ?_
         rintro e w5 ⟨A5, c5, rfl, o5, b5⟩
         go_wp2
         exact hQ _ _ _ rfl ⟨A5, c5, rfl, own_rd o5⟩ b5 trivial
     intro w9 hE _
     rintro v0 hv0 v1 - v2 - v3 - v4 ⟨A5, c5, rfl, r5⟩
     obtain rfl : v0 = _ := hv0
     change wpList _ _ _ [_, _] _ _
     simp only [Act.put, List.setIfInBounds_toArray, List.set_cons_succ, List.set_cons_zero]
     have b9 := below_undrew hE
     clear hE hF
     obtain ⟨⟨s0, s1, s2, s3, s4, s5⟩, ⟨s6, s7, s8⟩, s9, s10, s11, s12⟩ := unhide HX w9 b9
     go_wp2_with fail
     refine (blockRight_impl x L1 e1 A5 c5 (storeL av) w9 s10 (by omega) r5 (by omega)).mono ?_
     rintro e w10 ⟨rfl, b10⟩
     obtain ⟨-, ⟨s6, s7, s8⟩, s9, -, o10, b10'⟩ := unhide HX w10 (bthen b9 b10)
     clear r5 b9 b10 HX s0 s1 s2 s3 s4 s5 s10 s11 s12
     have hs10 : W.heap.size ≤ w10.heap.size := b10'.size
     have hrg := own_rng o10
     generalize blkRightB x (storeL av) = rb at *
     have fin : ∀ (b : Bool) (A8 : Option Addr) (c8 : Nat) (w8 : World), b = (rb && (k == 0 || (rightN t k).getD pk.toNat false)) → w8.ownsRow W.heap.size 4 1 (.slice A8 (k + 1) c8) (k + 1) ((rightN t k).map .bool ++ [.bool b]) → w8.ownsRow W.heap.size 4 1 (.slice A8 (k + 1) c8) (k + 1) ((rightN t (k + 1)).map .bool) := fun b A8 c8 w8 hb ho => by rw [unhide HT, List.map_append, ← hb]; exact ho
     have FIN := hide fin
     clear fin
     cases rb
     · skip
       go_wp2_with (at_builtin; refine wpList_app rfl (.tmp 24) (.tmp 40) 71 rfl el_bool rfl (own_alloc o10 _) rfl (rd_lit w10 [.bool false] _) rfl (one_bools [false]) (by simp only [maxLen]; omega) (by omega) (by simp; omega) ?_; intro A8 c8 w8 o8 ch8 d8 _)
       have hB8 := (b10'.alloc b10'.size (.cells #[.bool false] 4)).trans (ch8.below (fun q hq e => by have := hrg q e; omega) (by simp; omega))
       go_roundw
       case rel => exact ⟨k + 1, A8, c8, by omega, by go_num, rfl, unhide FIN false A8 c8 w8 (by simp) (by simpa using o8), hB8⟩
       case measure => simp [intOf]; omega
     by_cases hz : k = 0
     · have hkz : ((k : Int) == 0) = true := by simp; exact hz
       have HZ0 := hide hz
       clear hz
       go_wp2_with (at_builtin; refine wpList_app rfl (.tmp 24) (.tmp 40) 71 rfl el_bool rfl (own_alloc o10 _) rfl (rd_lit w10 [.bool true] _) rfl (one_bools [true]) (by simp only [maxLen]; omega) (by omega) (by simp; omega) ?_; intro A8 c8 w8 o8 ch8 d8 _)
       have hB8 := (b10'.alloc b10'.size (.cells #[.bool true] 4)).trans (ch8.below (fun q hq e => by have := hrg q e; omega) (by simp; omega))
       go_roundw
       case rel => exact ⟨k + 1, A8, c8, by omega, by go_num, rfl, unhide FIN true A8 c8 w8 (by simp [unhide HZ0]) (by simpa using o8), hB8⟩
       case measure => simp [intOf]; omega
     have hkz : ((k : Int) == 0) = false := by simp; exact hz
     have hkz2 : ¬ (k : Int) = 0 := by omega
     have hpk := unhide hp0 (by omega)
     obtain ⟨q, rfl⟩ := Int.eq_ofNat_of_zero_le hpk
     have hqk : q < k := by omega
     have hqk2 : (q : Int) < (k : Int) := by omega
     obtain ⟨g, hg, hg1, hg2⟩ := own_addr o10 (by omega)
     subst hg
     have hcl : w10.cell? ⟨g, q, none⟩ = some (.bool ((rightN t k).getD q false)) := by rw [own_cell o10 q (by simp [hrl]; omega)]; simp [List.getD_eq_getElem?_getD, hrl, hqk]
     rw [unhide HA3] at s8
     have HZ := hide hz
     clear hz
     have HGB := hide (show ∀ z, z = (rightN t k).getD q false → z = (true && (k == 0 || (rightN t k).getD (q : Int).toNat false)) from fun z hz2 => by rw [hz2]; simp [unhide HZ])
     generalize hgb : (rightN t k).getD q false = gb at *
     have HGC := hide hgb
     clear hgb
     go_wp2_with (at_builtin; refine wpList_app rfl (.tmp 24) (.tmp 40) 71 rfl el_bool rfl (own_alloc o10 _) rfl (rd_lit w10 [.bool gb] _) rfl (one_bools [gb]) (by simp only [maxLen]; omega) (by omega) (by simp; omega) ?_; intro A8 c8 w8 o8 ch8 d8 _)
     have hB8 := (b10'.alloc b10'.size (.cells #[.bool gb] 4)).trans (ch8.below (fun q hq e => by have := hrg q e; omega) (by simp; omega))
     go_roundw
     case rel => exact ⟨k + 1, A8, c8, by omega, by go_num, rfl, unhide FIN gb A8 c8 w8 (unhide HGB gb rfl) (by simpa using o8), hB8⟩
     case measure => simp [intOf]; omega
   · obtain rfl : k = t.blocks.length := by omega
     go_wp2
     go_ret
     exact ⟨A', c', rfl, own_base hown (by omega), bthen hb0 hB⟩
end Go.Proofs.YtihlhejencninaaGreat
