/- Valid trees of blocks, of the reference (printed by gen_in.py from xbtrees.in). -/
import Derived.Test.YtihlhejencninaaGreatCopyF
import Derived.Test.YtihlhejencninaaGreatBTree
namespace Go.Proofs.YtihlhejencninaaGreat
open Go.RowKit
set_option linter.unusedVariables false
set_option linter.unusedSimpArgs false

/-- the first block with a sum -/
def findB (bs : List Bk) (z : Int) : Int := match bs.findIdx? (fun b => bsum b == z) with | some k => (k : Int) | none => -1
theorem findB_at {bs : List Bk} {z : Int} {k : Nat} (hk : k < bs.length) (h0 : ∀ j (hj : j < bs.length), j < k → bsum bs[j] ≠ z) (h : bsum bs[k] = z) : findB bs z = k := by
 have : bs.findIdx? (fun b => bsum b == z) = some k := by
   rw [List.findIdx?_eq_some_iff_getElem]
   exact ⟨hk, by simpa using h, fun j hj => by simpa using h0 j (by omega) hj⟩
 rw [findB, this]
theorem findB_none {bs : List Bk} {z : Int} (h0 : ∀ j (hj : j < bs.length), bsum bs[j] ≠ z) : findB bs z = -1 := by
 have : bs.findIdx? (fun b => bsum b == z) = none := by
   rw [List.findIdx?_eq_none_iff]
   intro x hx
   obtain ⟨j, hj, rfl⟩ := List.getElem_of_mem hx
   simpa using h0 j hj
 rw [findB, this]
/-- is a block's sum not one of those before it? -/
theorem findB_self {bs : List Bk} {k : Nat} (hk : k < bs.length) : decide (findB bs (bsum bs[k]) = (k : Int)) = !decide (bsum bs[k] ∈ (bs.take k).map bsum) := by
 by_cases hm : bsum bs[k] ∈ (bs.take k).map bsum
 · rw [decide_eq_true hm, Bool.not_true, decide_eq_false_iff_not]
   intro hf
   unfold findB at hf
   cases hx : bs.findIdx? (fun b => bsum b == bsum bs[k]) with
   | none =>
     rw [List.findIdx?_eq_none_iff] at hx
     have := hx _ (List.getElem_mem hk)
     simp at this
   | some q =>
     rw [hx] at hf
     simp only at hf
     obtain rfl : q = k := by omega
     rw [List.findIdx?_eq_some_iff_getElem] at hx
     obtain ⟨_, _, h2⟩ := hx
     obtain ⟨x, hx1, hx2⟩ := List.mem_map.1 hm
     obtain ⟨j, hj, rfl⟩ := List.getElem_of_mem hx1
     rw [List.length_take] at hj
     have := h2 j (by omega)
     rw [List.getElem_take] at hx2
     simp [hx2] at this
 · rw [decide_eq_false hm, Bool.not_false, decide_eq_true_eq]
   refine findB_at hk (fun j hj hjk he => hm ?_) rfl
   refine List.mem_map.2 ⟨bs[j], ?_, he⟩
   rw [List.mem_take_iff_getElem]
   exact ⟨j, by omega, rfl⟩
set_option maxRecDepth 100000 in
set_option maxHeartbeats 4000000 in
theorem find_spec (t : Tr) (A1 : Option Addr) (c1 : Nat) (A2 : Option Addr) (c2 : Nat) (A3 : Option Addr) (c3 : Nat) (z : Int) (w : World) (h : TrR w t A1 A2 A3) (hb2 : t.blocks.length ≤ 1099511627776) (hbs : ∀ x ∈ t.blocks, x.list.length ≤ 1099511627776) :
   Calls Tryz.prog 142 #[.agg (trA t A1 c1 A2 c2 A3 c3), .int .i64 z] w fun e w' => e = .returned (.int .i64 (findB t.blocks z)) ∧ Below w.heap.size w w' := by
 have HBS := hide hbs
 clear hbs
 obtain ⟨W, hW⟩ : ∃ W : World, W = w.alloc (.cells (trA t A1 c1 A2 c2 A3 c3) 69) := ⟨_, rfl⟩
 have hb0 : Below w.heap.size w W := by rw [hW]; exact (Below.refl _ _).alloc (Nat.le_refl _) _
 have K0 : Blk W w.heap.size 69 (trA t A1 c1 A2 c2 A3 c3) := by rw [hW]; exact Blk.new _ _ _
 have r2 := h.b2.new bk_good hb0
 simp only [trA] at K0 hW ⊢
 have BX := hide (fun w' (hb : Below W.heap.size W w') => ((K0.new_ hb).cell 1 : w'.cell? ⟨w.heap.size, 1, none⟩ = some (.slice A2 t.blocks.length c2)))
 clear h K0
 go_enter Tryz.func142, Tryz.ntmps142
 go_wp2
 rw [← hW]
 go_loopw [5] (fun i wr => ∃ (k : Nat), k ≤ t.blocks.length ∧ i = .int .i64 k ∧ Hid (∀ j (hj : j < t.blocks.length), j < k → bsum t.blocks[j] ≠ z) ∧ Below W.heap.size W wr) (fun i _ => t.blocks.length - (intOf i).toNat)
 case atStart => exact ⟨0, Nat.zero_le _, rfl, hide (fun j _ hj => absurd hj (by omega)), Below.refl _ _⟩
 case round =>
   obtain ⟨k, hk, rfl, HU, hbel⟩ := hrel
   have y1 := unhide BX wr hbel
   by_cases hlt : k < t.blocks.length
   · have i1 : (k : Int) < (t.blocks.length : Int) := by omega
     obtain ⟨bq, offq, L1, e1, hbe, hbP, hbb1, d0, d1, d2, d3, d4, d5, hlc, q1⟩ := (r2.new bk_good hbel).bk hlt
     subst hbe
     have hx1 := unhide HBS t.blocks[k] (List.getElem_mem hlt)
     have HY := hide (fun (h : bsum t.blocks[k] = z) => findB_at hlt (fun j hj hjk => unhide HU j hj hjk) h)
     have HX := hide (fun (h : bsum t.blocks[k] ≠ z) (j : Nat) (hj : j < t.blocks.length) (hjk : j < k + 1) => show bsum t.blocks[j] ≠ z by
       by_cases hjk2 : j = k
       · subst hjk2; exact h
       · exact unhide HU j hj (by omega))
     generalize t.blocks[k] = x at *
     go_wp2_with fail
     refine (blockSum_spec x L1 e1 _ q1.rd (by omega)).mono ?_
     rintro e w3 ⟨rfl, b3⟩
     have hbel3 := bthen hbel b3
     clear b3 q1 hlc d0 d1 d2 d3 d4 d5 hbP
     by_cases hz : bsum x = z
     · have HR := hide (unhide HY hz)
       have hz1 : (bsum x == z) = true := by simpa using hz
       clear hz
       go_wp2
       go_ret
       exact ⟨reti (unhide HR).symm, bthen hb0 hbel3⟩
     · have HR := hide (unhide HX hz)
       have hz1 : (bsum x == z) = false := by simpa using hz
       clear hz
       go_wp2
       go_roundw
       case rel => exact ⟨k + 1, by omega, by go_num, HR, hbel3⟩
       case measure => simp [intOf]; omega
   · obtain rfl : k = t.blocks.length := by omega
     have HR := hide (findB_none (fun j hj => unhide HU j hj hj))
     go_wp2
     go_ret
     exact ⟨reti (unhide HR).symm, bthen hb0 hbel⟩
set_option maxRecDepth 100000 in
set_option maxHeartbeats 4000000 in
theorem treeValid_spec0 (t : Tr) (A1 : Option Addr) (c1 : Nat) (A2 : Option Addr) (c2 : Nat) (A3 : Option Addr) (c3 : Nat) (w : World) (h : TrR w t A1 A2 A3) (hb1 : t.base.length ≤ 1099511627776) (hb2 : t.blocks.length ≤ 1099511627776) (hb3 : t.before.length ≤ 1099511627776) (ht0 : (tree0 t && (pAt t 0 == -1)) = false) :
   Calls Tryz.prog 88 #[.agg (trA t A1 c1 A2 c2 A3 c3)] w fun e w' => e = .returned (.bool (treeB t)) ∧ Below w.heap.size w w' := by
 obtain ⟨W, hW⟩ : ∃ W : World, W = w.alloc (.cells (trA t A1 c1 A2 c2 A3 c3) 69) := ⟨_, rfl⟩
 have hb0 : Below w.heap.size w W := by rw [hW]; exact (Below.refl _ _).alloc (Nat.le_refl _) _
 have K0 : Blk W w.heap.size 69 (trA t A1 c1 A2 c2 A3 c3) := by rw [hW]; exact Blk.new _ _ _
 replace h := h.new hb0
 simp only [trA] at K0 hW ⊢
 have x1 : W.cell? ⟨w.heap.size, 0, none⟩ = some (.slice A1 t.base.length c1) := K0.cell 0
 have x2 : W.cell? ⟨w.heap.size, 1, none⟩ = some (.slice A2 t.blocks.length c2) := K0.cell 1
 have x3 : W.cell? ⟨w.heap.size, 2, none⟩ = some (.slice A3 t.before.length c3) := K0.cell 2
 have HN := hide (show treeB t = false by
   rw [Bool.and_eq_false_iff] at ht0
   rcases ht0 with h | h
   · exact treeB_no0 h
   · exact treeB_no1 (by rw [tree1, h, Bool.and_false]))
 have KS := storeB_store_spec A1 c1 t.base W h.b1 (by omega)
 have hr3 := h.b3
 clear K0 h
 subst hW
 cases hsa : storeB t.base
 · rw [hsa] at KS
   clear ht0
   go_enter Tryz.func88, Tryz.ntmps88
   go_wp2_with fail
   refine KS.mono ?_
   rintro e w1 ⟨rfl, m, rfl⟩
   go_wp2
   go_ret
   exact ⟨retb (unhide HN).symm, below_drewN hb0 _⟩
 rw [hsa] at KS
 cases hin : inB (t.blocks.length : Int) 1 14
 · clear ht0
   go_enter Tryz.func88, Tryz.ntmps88
   go_wp2_with fail
   refine KS.mono ?_
   rintro e w1 ⟨rfl, m, rfl⟩
   go_wp2_with (go_at_call 93; refine (l1In_any _ _ _ _).mono ?_; rintro e w' ⟨rfl, rfl⟩; rw [hin])
   go_ret
   exact ⟨retb (unhide HN).symm, below_drewN hb0 _⟩
 by_cases hln : t.before.length = t.blocks.length
 rotate_left
 · clear ht0
   have hne : ((t.before.length : Int) != (t.blocks.length : Int)) = true := by simp; omega
   clear hln
   go_enter Tryz.func88, Tryz.ntmps88
   go_wp2_with fail
   refine KS.mono ?_
   rintro e w1 ⟨rfl, m, rfl⟩
   go_wp2_with (go_at_call 93; refine (l1In_any _ _ _ _).mono ?_; rintro e w' ⟨rfl, rfl⟩; rw [hin])
   go_ret
   exact ⟨retb (unhide HN).symm, below_drewN hb0 _⟩
 have hil := inB_true.1 hin
 have hl00 : 0 < t.before.length := by omega
 have hp00 : (0 : Int) < (t.before.length : Int) := by omega
 have hq : (pAt t 0 == -1) = false := by
   rw [show tree0 t = true by rw [tree0, hsa, hin, decide_eq_true hln]; rfl, Bool.true_and] at ht0
   exact ht0
 have hne : ((t.before.length : Int) != (t.blocks.length : Int)) = false := by simp; omega
 rw [pAt_get t hl00] at hq
 clear hln ht0 hil
 obtain ⟨b', off', rfl, hbb', p0⟩ := hr3.int hl00
 simp only [Nat.add_zero] at p0
 generalize t.before[0] = y0 at *
 have hq2 : (y0 != -1) = true := by simpa using hq
 clear hq hr3
 go_enter Tryz.func88, Tryz.ntmps88
 go_wp2_with fail
 refine KS.mono ?_
 rintro e w1 ⟨rfl, m, rfl⟩
 go_wp2_with (go_at_call 93; refine (l1In_any _ _ _ _).mono ?_; rintro e w' ⟨rfl, rfl⟩; rw [hin])
 go_ret
 exact ⟨retb (unhide HN).symm, below_drewN hb0 _⟩
set_option maxRecDepth 100000 in
set_option maxHeartbeats 8000000 in
theorem treeValid_spec (t : Tr) (A1 : Option Addr) (c1 : Nat) (A2 : Option Addr) (c2 : Nat) (A3 : Option Addr) (c3 : Nat) (w : World) (h : TrR w t A1 A2 A3) (hb1 : t.base.length ≤ 1099511627776) (hb2 : t.blocks.length ≤ 1099511627776) (hbs : ∀ x ∈ t.blocks, x.list.length ≤ 1099511627776) (hb3 : t.before.length ≤ 1099511627776) :
   Calls Tryz.prog 88 #[.agg (trA t A1 c1 A2 c2 A3 c3)] w fun e w' => e = .returned (.bool (treeB t)) ∧ Below w.heap.size w w' := by
 cases ht0 : (tree0 t && (pAt t 0 == -1))
 · exact treeValid_spec0 t A1 c1 A2 c2 A3 c3 w h hb1 hb2 hb3 ht0
 rw [Bool.and_eq_true] at ht0
 have HT0 := hide ht0.1
 have HP0 := hide ht0.2
 obtain ⟨hsa, hl1, hl14, hln⟩ := tree0_lens ht0.1
 have HLN := hide hln
 have hin : inB (t.blocks.length : Int) 1 14 = true := inB_true.2 (by omega)
 have hl0 : 0 < t.blocks.length := by omega
 have hl00 : 0 < t.before.length := by omega
 have hp0 : (0 : Int) < (t.blocks.length : Int) := by omega
 have hp00 : (0 : Int) < (t.before.length : Int) := by omega
 have hne : ((t.before.length : Int) != (t.blocks.length : Int)) = false := by simp; omega
 have hq := ht0.2
 rw [pAt_get t hl00, beq_iff_eq] at hq
 clear ht0 hln
 have HBS := hide hbs
 clear hbs
 obtain ⟨W, hW⟩ : ∃ W : World, W = w.alloc (.cells (trA t A1 c1 A2 c2 A3 c3) 69) := ⟨_, rfl⟩
 have hb0 : Below w.heap.size w W := by rw [hW]; exact (Below.refl _ _).alloc (Nat.le_refl _) _
 have K0 : Blk W w.heap.size 69 (trA t A1 c1 A2 c2 A3 c3) := by rw [hW]; exact Blk.new _ _ _
 replace h := h.new hb0
 have HR := hide (fun w' (hb : Below W.heap.size W w') => h.new hb)
 simp only [trA] at K0 hW ⊢
 have BX := hide (fun w' (hb : Below W.heap.size W w') => (⟨(K0.new_ hb).cell 0, (K0.new_ hb).cell 1, (K0.new_ hb).cell 2⟩ : w'.cell? ⟨w.heap.size, 0, none⟩ = some (.slice A1 t.base.length c1) ∧ w'.cell? ⟨w.heap.size, 1, none⟩ = some (.slice A2 t.blocks.length c2) ∧ w'.cell? ⟨w.heap.size, 2, none⟩ = some (.slice A3 t.before.length c3)))
 obtain ⟨x1, x2, x3⟩ := unhide BX W (Below.refl _ _)
 have KS := storeB_store_spec A1 c1 t.base W h.b1 (by omega)
 rw [hsa] at KS
 have r2 := h.b2
 have r3 := h.b3
 have r1 := h.b1
 have hr3 := h.b3
 obtain ⟨b', off', hA3, hbb', p0⟩ := hr3.int hl00
 simp only [Nat.add_zero] at p0
 rw [hq] at p0
 have HA3 := hide hA3
 clear K0 h hr3 hq
 rw [hA3] at x3
 clear hA3
 subst hW
 go_enter Tryz.func88, Tryz.ntmps88
 go_wp2_with fail
 refine KS.mono ?_
 rintro e w2 ⟨rfl, m, hm⟩
 have hbm := below_of_drewN hm
 clear hm
 have y1 := unhide BX w2 hbm
 obtain ⟨y1, y2, y3⟩ := y1
 rw [unhide HA3] at y3
 have y4 := (hbm.cell (p := ⟨b', off', none⟩) hbb').trans p0
 go_wp2_with (go_at_call 93; refine (l1In_any _ _ _ _).mono ?_; rintro e w' ⟨rfl, rfl⟩; rw [hin])
 clear KS p0 hbb' x1 x2 x3 y1 y2 y3 y4
 replace r1 := r1.new hbm
 replace r2 := r2.new bk_good hbm
 replace r3 := r3.new hbm
 have BX2 := hide (fun w' (hb : Below w2.heap.size w2 w') => unhide BX w' (bthen hbm hb))
 have HR2 := hide (fun w' (hb : Below w2.heap.size w2 w') => unhide HR w' (bthen hbm hb))
 have hB2 := bthen hb0 hbm
 clear BX HR hbm
 go_loopw [3] (fun i wr => ∃ (k : Nat), k ≤ t.blocks.length ∧ i = .int .i64 k ∧ Hid (upTo (sumOk t) k = true) ∧ Below w2.heap.size w2 wr) (fun i _ => t.blocks.length - (intOf i).toNat)
 case atStart => exact ⟨0, Nat.zero_le _, rfl, hide rfl, Below.refl _ _⟩
 case round =>
   obtain ⟨k, hk, rfl, HU, hbel⟩ := hrel
   obtain ⟨z0, z1, z2⟩ := unhide BX2 wr hbel
   by_cases hlt : k < t.blocks.length
   · have i1 : (k : Int) < (t.blocks.length : Int) := by omega
     obtain ⟨bq, offq, L1, e1, hbe, hbP, hbb1, d0, d1, d2, d3, d4, d5, hlc, q1⟩ := (r2.new bk_good hbel).bk hlt
     have hx1 := unhide HBS t.blocks[k] (List.getElem_mem hlt)
     have HFS := hide (findB_self hlt)
     have HSO := hide (show sumOk t k = (blkB t.blocks[k] && !decide (bsum t.blocks[k] ∈ (t.blocks.take k).map bsum)) by rw [sumOk, bAt_get t hlt])
     have HN2 := hide (treeB_no2 (t := t) hlt)
     generalize t.blocks[k] = x at *
     have HRr := hide (fun w' (hb : Below wr.heap.size wr w') => unhide HR2 w' (bthen hbel hb))
     have HQr := hide (fun w' (hb : Below wr.heap.size wr w') => (q1.rd.new hb : Rd w' L1 (x.list.flatMap encA)))
     have XD := hide (fun w' (hb : Below wr.heap.size wr w') => (⟨(hb.cell (p := ⟨bq, offq + k * 6, none⟩) hbb1).trans d0, (hb.cell (p := ⟨bq, offq + k * 6 + 1, none⟩) hbb1).trans d1, (hb.cell (p := ⟨bq, offq + k * 6 + 2, none⟩) hbb1).trans d2, (hb.cell (p := ⟨bq, offq + k * 6 + 3, none⟩) hbb1).trans d3, (hb.cell (p := ⟨bq, offq + k * 6 + 4, none⟩) hbb1).trans d4, (hb.cell (p := ⟨bq, offq + k * 6 + 5, none⟩) hbb1).trans d5⟩ : _ ∧ _ ∧ _ ∧ _ ∧ _ ∧ _))
     have BXr := hide (fun w' (hb : Below wr.heap.size wr w') => unhide BX2 w' (bthen hbel hb))
     clear d0 d1 d2 d3 d4 d5 hlc q1 hbP
     rw [hbe] at z1
     have HBE := hide hbe
     clear hbe
     cases hv : blkB x
     · have HV := hide hv
       have HN := hide (unhide HN2 (by rw [unhide HSO, hv]; rfl))
       clear hv
       go_wp2
       have hF : StBL [bV (.pointer (some ⟨w.heap.size, 1, none⟩)), bV (.slice (some ⟨bq, offq, none⟩) t.blocks.length c2), bV (.int .i64 (k : Int)), bV (.pointer (some ⟨bq, offq + k * 6, none⟩)), bV (.agg #[.int .i64 x.before, .int .i64 x.height, .int .i64 x.view, .slice L1 x.list.length e1, .int .i64 x.root, .int .i64 x.eff]), bV (.bool false), bV (.bool true), bV (.bool true), bV (undef), bV (undef), bV (undef), bV (undef), bV (undef), bV (undef), bV (undef), bV (undef), bV (undef)] :=
         ⟨sb_V _, sb_V _, sb_V _, sb_V _, sb_V _, sb_V _, sb_V _, sb_V _, sb_V _, sb_V _, sb_V _, sb_V _, sb_V _, sb_V _, sb_V _, sb_V _, sb_V _, trivial⟩
       go_upto_region 6 with fail
       refine wp_region_loc (by kernel_rfl) [(0, some 40), (1, some 41), (2, some 42), (3, some 43), (4, some 44), (5, some 45), (6, some 46), (7, some 47), (8, some 48), (9, some 49), (10, some 50), (11, some 51), (12, some 52), (13, some 53), (14, some 54), (15, some 55), (16, some 56)] [[], [(0, some 40)], [], [(1, some 41), (2, some 42)], [(3, some 43)], [(4, some 44)], [(5, some 45)], [(6, some 46)], [(7, some 47)], [(7, some 47)], [(7, some 47), (9, some 49)], [(7, some 47)], [(7, some 47), (10, some 50), (11, some 51)], [(7, some 47), (12, some 52)], [(7, some 47), (13, some 53)], [(7, some 47), (8, some 48), (14, some 54)], [(7, some 47)]] (by kernel_rfl)
         (locB _) (fun a b => Below a.heap.size a b) noR [0, 0, 0, 0, 0, 0, 0, 0, 0, 0, 0, 0, 0, 0, 0, 0, 0] 0 (by kernel_rfl) (fun _ => Below.refl _ _) (fun _ _ _ => bthen) (locB_st hF _) trivial ?_ ?_
       · refine steps_cons ?s0 ( steps_cons ?s1 ( steps_cons ?s2 ( steps_cons ?s3 ( steps_cons ?s4 ( steps_cons ?s5 ( steps_cons ?s6 ( steps_cons ?s7 ( steps_cons ?s8 ( steps_cons ?s9 ( steps_cons ?s10 ( steps_cons ?s11 ( steps_cons ?s12 ( steps_cons ?s13 ( steps_cons ?s14 ( steps_cons ?s15 ( steps_cons ?s16 steps_nil))))))))))))))))
         case s0 | s2 =>
           intro w' m' hE hR
           intro Q hQ
           go_wp2
           exact hQ _ _ _ rfl rfl (Below.refl _ _) trivial
         case s1 =>
           intro w' m' hE hR
           rintro _ rfl Q hQ
           obtain ⟨y0, y1, y2⟩ := unhide BXr w' (below_undrew hE)
           rw [unhide HBE] at y1
           go_wp2
           exact hQ _ _ _ rfl rfl (Below.refl _ _) trivial
         case s3 | s10 | s13 | s14 =>
           intro w' m' hE hR
           rintro _ rfl _ rfl Q hQ
           go_wp2
           exact hQ _ _ _ rfl rfl (Below.refl _ _) trivial
         case s4 =>
           intro w' m' hE hR
           rintro _ rfl Q hQ
           obtain ⟨y0, y1, y2, y3, y4, y5⟩ := unhide XD w' (below_undrew hE)
           go_wp2
           exact hQ _ _ _ rfl rfl (Below.refl _ _) trivial
         case s5 =>
           intro w' m' hE hR
           rintro _ rfl Q hQ
           have K := blockValid_spec x L1 e1 w' (unhide HQr w' (below_undrew hE)) (by omega)
           rw [unhide HV] at K
           go_wp2_with fail
           refine K.mono ?_
           rintro e w1 ⟨rfl, b1⟩
           go_wp2
           exact hQ _ _ _ rfl rfl b1 trivial
         case s6 | s7 | s8 | s9 | s11 | s16 =>
           intro w' m' hE hR
           rintro _ rfl Q hQ
           go_wp2
           exact hQ _ _ _ rfl rfl (Below.refl _ _) trivial
         case s12 | s15 =>
           intro w' m' hE hR
           rintro _ rfl _ rfl _ rfl Q hQ
           go_wp2
           exact hQ _ _ _ rfl rfl (Below.refl _ _) trivial
       intro w9 hE _
       rintro v0 - v1 - v2 - v3 - v4 - v5 - v6 - v7 hv7 v8 - v9 - v10 - v11 - v12 - v13 - v14 - v15 - v16 -
       obtain rfl : v7 = _ := hv7
       change wpList _ _ _ [_, _] _ _
       simp only [Act.put, List.setIfInBounds_toArray, List.set_cons_succ, List.set_cons_zero]
       have b9 := below_undrew hE
       go_wp2
       go_ret
       exact ⟨retb (unhide HN).symm, bthen hB2 (bthen hbel b9)⟩
     have HV := hide hv
     have HG := hide (show sumOk t k = decide (findB t.blocks (bsum x) = (k : Int)) by rw [unhide HSO, hv, unhide HFS, Bool.true_and])
     clear hv
     go_wp2
     have hF : StBL [bV (.pointer (some ⟨w.heap.size, 1, none⟩)), bV (.slice (some ⟨bq, offq, none⟩) t.blocks.length c2), bV (.int .i64 (k : Int)), bV (.pointer (some ⟨bq, offq + k * 6, none⟩)), bV (.agg #[.int .i64 x.before, .int .i64 x.height, .int .i64 x.view, .slice L1 x.list.length e1, .int .i64 x.root, .int .i64 x.eff]), bV (.bool true), bV (.bool false), bV (.bool false), bV (.agg #[.slice A1 t.base.length c1, .slice A2 t.blocks.length c2, .slice A3 t.before.length c3]), bV (.pointer (some ⟨w.heap.size, 1, none⟩)), bV (.slice (some ⟨bq, offq, none⟩) t.blocks.length c2), bV (.int .i64 (k : Int)), bV (.pointer (some ⟨bq, offq + k * 6, none⟩)), bV (.agg #[.int .i64 x.before, .int .i64 x.height, .int .i64 x.view, .slice L1 x.list.length e1, .int .i64 x.root, .int .i64 x.eff]), bV (.int .i64 (bsum x)), bV (.int .i64 (findB t.blocks (bsum x))), bV (.int .i64 (k : Int))] :=
       ⟨sb_V _, sb_V _, sb_V _, sb_V _, sb_V _, sb_V _, sb_V _, sb_V _, sb_V _, sb_V _, sb_V _, sb_V _, sb_V _, sb_V _, sb_V _, sb_V _, sb_V _, trivial⟩
     go_upto_region 6 with fail
     refine wp_region_loc (by kernel_rfl) [(0, some 40), (1, some 41), (2, some 42), (3, some 43), (4, some 44), (5, some 45), (6, some 46), (7, some 47), (8, some 48), (9, some 49), (10, some 50), (11, some 51), (12, some 52), (13, some 53), (14, some 54), (15, some 55), (16, some 56)] [[], [(0, some 40)], [], [(1, some 41), (2, some 42)], [(3, some 43)], [(4, some 44)], [(5, some 45)], [(6, some 46)], [(7, some 47)], [(7, some 47)], [(7, some 47), (9, some 49)], [(7, some 47)], [(7, some 47), (10, some 50), (11, some 51)], [(7, some 47), (12, some 52)], [(7, some 47), (13, some 53)], [(7, some 47), (8, some 48), (14, some 54)], [(7, some 47)]] (by kernel_rfl)
       (locB _) (fun a b => Below a.heap.size a b) noR [0, 0, 0, 0, 0, 0, 0, 0, 0, 0, 0, 0, 0, 0, 0, 0, 0] 0 (by kernel_rfl) (fun _ => Below.refl _ _) (fun _ _ _ => bthen) (locB_st hF _) trivial ?_ ?_
     · refine steps_cons ?s0 ( steps_cons ?s1 ( steps_cons ?s2 ( steps_cons ?s3 ( steps_cons ?s4 ( steps_cons ?s5 ( steps_cons ?s6 ( steps_cons ?s7 ( steps_cons ?s8 ( steps_cons ?s9 ( steps_cons ?s10 ( steps_cons ?s11 ( steps_cons ?s12 ( steps_cons ?s13 ( steps_cons ?s14 ( steps_cons ?s15 ( steps_cons ?s16 steps_nil))))))))))))))))
       case s0 | s2 =>
         intro w' m' hE hR
         intro Q hQ
         go_wp2
         exact hQ _ _ _ rfl rfl (Below.refl _ _) trivial
       case s1 =>
         intro w' m' hE hR
         rintro _ rfl Q hQ
         obtain ⟨y0, y1, y2⟩ := unhide BXr w' (below_undrew hE)
         rw [unhide HBE] at y1
         go_wp2
         exact hQ _ _ _ rfl rfl (Below.refl _ _) trivial
       case s3 =>
         intro w' m' hE hR
         rintro _ rfl _ rfl Q hQ
         go_wp2
         exact hQ _ _ _ rfl rfl (Below.refl _ _) trivial
       case s4 =>
         intro w' m' hE hR
         rintro _ rfl Q hQ
         obtain ⟨y0, y1, y2, y3, y4, y5⟩ := unhide XD w' (below_undrew hE)
         go_wp2
         exact hQ _ _ _ rfl rfl (Below.refl _ _) trivial
       case s5 =>
         intro w' m' hE hR
         rintro _ rfl Q hQ
         have K := blockValid_spec x L1 e1 w' (unhide HQr w' (below_undrew hE)) (by omega)
         rw [unhide HV] at K
         go_wp2_with fail
         refine K.mono ?_
         rintro e w1 ⟨rfl, b1⟩
         go_wp2
         exact hQ _ _ _ rfl rfl b1 trivial
       case s6 | s7 | s9 | s11 | s16 =>
         intro w' m' hE hR
         rintro _ rfl Q hQ
         go_wp2
         exact hQ _ _ _ rfl rfl (Below.refl _ _) trivial
       case s8 =>
         intro w' m' hE hR
         rintro _ rfl Q hQ
         obtain ⟨y0, y1, y2⟩ := unhide BXr w' (below_undrew hE)
         go_wp2
         exact hQ _ _ _ rfl rfl (Below.refl _ _) trivial
       case s10 =>
         intro w' m' hE hR
         rintro _ rfl _ rfl Q hQ
         obtain ⟨y0, y1, y2⟩ := unhide BXr w' (below_undrew hE)
         rw [unhide HBE] at y1
         go_wp2
         exact hQ _ _ _ rfl rfl (Below.refl _ _) trivial
       case s12 =>
         intro w' m' hE hR
         rintro _ rfl _ rfl _ rfl Q hQ
         go_wp2
         exact hQ _ _ _ rfl rfl (Below.refl _ _) trivial
       case s13 =>
         intro w' m' hE hR
         rintro _ rfl _ rfl Q hQ
         obtain ⟨y0, y1, y2, y3, y4, y5⟩ := unhide XD w' (below_undrew hE)
         go_wp2
         exact hQ _ _ _ rfl rfl (Below.refl _ _) trivial
       case s14 =>
         intro w' m' hE hR
         rintro _ rfl _ rfl Q hQ
         go_wp2_with fail
         refine (blockSum_spec x L1 e1 w' (unhide HQr w' (below_undrew hE)) (by omega)).mono ?_
         rintro e w1 ⟨rfl, b1⟩
         go_wp2
         exact hQ _ _ _ rfl rfl b1 trivial
       case s15 =>
         intro w' m' hE hR
         rintro _ rfl _ rfl _ rfl Q hQ
         go_wp2_with fail
         refine (find_spec t A1 c1 A2 c2 A3 c3 (bsum x) w' (unhide HRr w' (below_undrew hE)) (by omega) (unhide HBS)).mono ?_
         rintro e w1 ⟨rfl, b1⟩
         go_wp2
         exact hQ _ _ _ rfl rfl b1 trivial
     intro w9 hE _
     rintro v0 - v1 - v2 - v3 - v4 - v5 - v6 - v7 hv7 v8 - v9 - v10 - v11 - v12 - v13 - v14 - v15 hv15 v16 hv16
     obtain rfl : v7 = _ := hv7
     obtain rfl : v15 = _ := hv15
     obtain rfl : v16 = _ := hv16
     change wpList _ _ _ [_, _] _ _
     simp only [Act.put, List.setIfInBounds_toArray, List.set_cons_succ, List.set_cons_zero]
     have b9 := below_undrew hE
     by_cases hf : findB t.blocks (bsum x) = (k : Int)
     rotate_left
     · have HN := hide (unhide HN2 (by rw [unhide HG, decide_eq_false hf]))
       have hf2 : (findB t.blocks (bsum x) != (k : Int)) = true := by simpa using hf
       clear hf
       go_wp2
       go_ret
       exact ⟨retb (unhide HN).symm, bthen hB2 (bthen hbel b9)⟩
     have HSK := hide (show upTo (sumOk t) (k + 1) = true by rw [upTo, unhide HU, unhide HG, decide_eq_true hf]; rfl)
     have hf2 : (findB t.blocks (bsum x) != (k : Int)) = false := by simpa using hf
     clear hf
     go_wp2
     go_roundw
     case rel => exact ⟨k + 1, by omega, by go_num, HSK, bthen hbel b9⟩
     case measure => simp [intOf]; omega
   · obtain rfl : k = t.blocks.length := by omega
     have HS := hide (upTo_get (unhide HU))
     have HUS := HU
     have hB3 := bthen hB2 hbel
     replace r1 := r1.new hbel
     replace r2 := r2.new bk_good hbel
     replace r3 := r3.new hbel
     have BX3 := hide (fun w' (hb : Below wr.heap.size wr w') => unhide BX2 w' (bthen hbel hb))
     clear BX2 HR2 hB2 HU
     obtain ⟨bq, offq, L0, e0, hbe, hbP, hbb1, d0, d1, d2, d3, d4, d5, hlc, q1⟩ := r2.bk hl0
     simp only [Nat.zero_mul, Nat.add_zero] at d0 d1 d2 d3 d4 d5
     have HX0 := hide (unhide HBS t.blocks[0] (List.getElem_mem hl0))
     have HBG := hide (bAt_get t hl0)
     generalize t.blocks[0] = x0 at *
     have Y0 := hide (fun w' (hb : Below wr.heap.size wr w') => (⟨(hb.cell (p := ⟨bq, offq, none⟩) hbb1).trans d0, (hb.cell (p := ⟨bq, offq + 1, none⟩) hbb1).trans d1, (hb.cell (p := ⟨bq, offq + 2, none⟩) hbb1).trans d2, (hb.cell (p := ⟨bq, offq + 3, none⟩) hbb1).trans d3, (hb.cell (p := ⟨bq, offq + 4, none⟩) hbb1).trans d4, (hb.cell (p := ⟨bq, offq + 5, none⟩) hbb1).trans d5⟩ : _ ∧ _ ∧ _ ∧ _ ∧ _ ∧ _))
     have HQ0 := hide (fun w' (hb : Below wr.heap.size wr w') => (q1.rd.new hb : Rd w' L0 (x0.list.flatMap encA)))
     have HR1 := hide (fun w' (hb : Below wr.heap.size wr w') => (r1.new hb : Rd w' A1 (t.base.flatMap encE)))
     have HFL := hide (show (fstB t.base).list = [] by unfold fstB; split <;> rfl)
     have HBE := hide hbe
     clear d0 d1 d2 d3 d4 d5 hlc q1 hbP hbel hbe
     go_wp2
     go_loopw [4, 5] (fun i _ ws => ∃ (k : Nat), 1 ≤ k ∧ k ≤ t.blocks.length ∧ i = .int .i64 k ∧ Hid (upTo (nodeOk0 t) k = true) ∧ Below wr.heap.size wr ws) (fun i _ _ => t.blocks.length - (intOf i).toNat)
     case atStart => exact ⟨1, Nat.le_refl _, by omega, rfl, hide rfl, Below.refl _ _⟩
     case round =>
       obtain ⟨k, hk1, hk, rfl, HU, hbel⟩ := hrel
       obtain ⟨z0, z1, z2⟩ := unhide BX3 wr hbel
       by_cases hlt : k < t.blocks.length
       · have hlp : k < t.before.length := by have := unhide HLN; omega
         have i1 : (k : Int) < (t.blocks.length : Int) := by omega
         have i1' : (k : Int) < (t.before.length : Int) := by omega
         have h0k : k ≠ 0 := by omega
         obtain ⟨bq2, offq2, L1, e1, hbe, hbP, -, d0, d1, d2, d3, d4, d5, hlc, q1⟩ := (r2.new bk_good hbel).bk hlt
         rw [unhide HBE] at hbe
         injection hbe with hbe
         injection hbe with qq1 qq2
         subst qq1
         subst qq2
         obtain ⟨bp, offp, hpe, hpb, zp⟩ := (r3.new hbel).int hlp
         have HNX := hide (show upTo (nodeOk0 t) (k + 1) = nodeOk t k by rw [upTo, unhide HU, nodeOk0, show (k == 0) = false by simpa using h0k]; simp)
         have HN3 := hide (treeB_no3 (t := t) hlt h0k)
         have HNF := hide (show nodeOk t k = (inB (pAt t k) 0 ((k : Int) - 1) && ((bAt t k).before == bsum (bAt t (pAt t k).toNat) && ((bAt t k).height == (bAt t (pAt t k).toNat).height + 1 && decide ((bAt t (pAt t k).toNat).view < (bAt t k).view)))) from rfl)
         have HPK := hide (pAt_get t hlp)
         have HBK := hide (bAt_get t hlt)
         have hvx : blkB t.blocks[k] = true := by
           have h1 := unhide HS k hlt
           rw [sumOk, Bool.and_eq_true, bAt_get t hlt] at h1
           exact h1.1
         have hhx : 0 ≤ t.blocks[k].height ∧ t.blocks[k].height ≤ 100 := by
           unfold blkB at hvx
           simp only [Bool.and_eq_true] at hvx
           exact inB_true.1 hvx.2.2.2.1
         clear hvx h0k
         generalize t.before[k] = p at *
         generalize t.blocks[k] = x at *
         rw [hpe] at z2
         have hbb2 : bq < wr.heap.size := Nat.lt_of_lt_of_le hbb1 hbel.size
         have XD := hide (fun w' (hb : Below wr.heap.size wr w') => (⟨(hb.cell (p := ⟨bq, offq + k * 6, none⟩) hbb2).trans d0, (hb.cell (p := ⟨bq, offq + k * 6 + 1, none⟩) hbb2).trans d1, (hb.cell (p := ⟨bq, offq + k * 6 + 2, none⟩) hbb2).trans d2, (hb.cell (p := ⟨bq, offq + k * 6 + 3, none⟩) hbb2).trans d3, (hb.cell (p := ⟨bq, offq + k * 6 + 4, none⟩) hbb2).trans d4, (hb.cell (p := ⟨bq, offq + k * 6 + 5, none⟩) hbb2).trans d5⟩ : _ ∧ _ ∧ _ ∧ _ ∧ _ ∧ _))
         clear d0 d1 d2 d3 d4 d5 hlc q1 hbP
         have BXr := hide (fun w' (hb : Below wr.heap.size wr w') => unhide BX3 w' (bthen hbel hb))
         cases hip : inB p 0 ((k : Int) - 1)
         · have HN := hide (unhide HN3 (by rw [unhide HNF, unhide HPK, hip]; rfl))
           go_wp2
           have hF : StBL [bV (.int .i64 p), bV (.int .i64 (k : Int)), bV (.int .i64 ((k : Int) - 1)), bV (.bool false), bV (.bool true), bV (.bool true), bV (undef), bV (undef), bV (undef), bV (undef), bV (undef), bV (undef), bV (undef), bV (undef), bV (undef), bV (undef), bV (undef), bV (undef), bV (undef), bV (.bool true), bV (.bool true), bV (undef), bV (undef), bV (undef), bV (undef), bV (undef), bV (undef), bV (undef), bV (undef), bV (undef), bV (undef), bV (undef), bV (undef), bV (undef), bV (undef), bV (.bool true), bV (.bool true), bV (undef), bV (undef), bV (undef), bV (undef), bV (undef), bV (undef), bV (undef), bV (undef), bV (undef), bV (undef), bV (undef), bV (undef)] :=
             ⟨sb_V _, sb_V _, sb_V _, sb_V _, sb_V _, sb_V _, sb_V _, sb_V _, sb_V _, sb_V _, sb_V _, sb_V _, sb_V _, sb_V _, sb_V _, sb_V _, sb_V _, sb_V _, sb_V _, sb_V _, sb_V _, sb_V _, sb_V _, sb_V _, sb_V _, sb_V _, sb_V _, sb_V _, sb_V _, sb_V _, sb_V _, sb_V _, sb_V _, sb_V _, sb_V _, sb_V _, sb_V _, sb_V _, sb_V _, sb_V _, sb_V _, sb_V _, sb_V _, sb_V _, sb_V _, sb_V _, sb_V _, sb_V _, sb_V _, trivial⟩
           go_upto_region 12 with fail
           refine wp_region_loc (by kernel_rfl) [(0, some 71), (1, some 72), (2, some 73), (3, some 74), (4, some 75), (5, some 76), (6, some 77), (7, some 78), (8, some 79), (9, some 80), (10, some 81), (11, some 82), (12, some 83), (13, some 84), (14, some 85), (15, some 86), (16, some 87), (17, some 88), (18, some 89), (19, some 90), (20, some 91), (21, some 92), (22, some 93), (23, some 94), (24, some 95), (25, some 96), (26, some 97), (27, some 98), (28, some 99), (29, some 100), (30, some 101), (31, some 102), (32, some 103), (33, some 104), (34, some 105), (35, some 106), (36, some 107), (37, some 108), (38, some 109), (39, some 110), (40, some 111), (41, some 112), (42, some 113), (43, some 114), (44, some 115), (45, some 116), (46, some 117), (47, some 118), (48, some 119)] [[], [], [(1, some 72)], [(0, some 71), (2, some 73)], [(3, some 74)], [(4, some 75)], [(5, some 76)], [(5, some 76), (6, some 77)], [(5, some 76)], [(5, some 76), (7, some 78), (8, some 79)], [(5, some 76), (9, some 80)], [(5, some 76), (10, some 81)], [(5, some 76)], [(5, some 76), (12, some 83)], [(5, some 76)], [(5, some 76), (13, some 84), (14, some 85)], [(5, some 76), (15, some 86)], [(5, some 76), (16, some 87)], [(5, some 76), (11, some 82), (17, some 88)], [(5, some 76), (18, some 89)], [(19, some 90)], [(20, some 91)], [(20, some 91), (21, some 92)], [(20, some 91)], [(20, some 91), (22, some 93), (23, some 94)], [(20, some 91), (24, some 95)], [(20, some 91), (25, some 96)], [(20, some 91)], [(20, some 91), (27, some 98)], [(20, some 91)], [(20, some 91), (28, some 99), (29, some 100)], [(20, some 91), (30, some 101)], [(20, some 91), (31, some 102)], [(20, some 91), (32, some 103)], [(20, some 91), (26, some 97), (33, some 104)], [(20, some 91), (34, some 105)], [(35, some 106)], [(36, some 107)], [(36, some 107), (37, some 108)], [(36, some 107)], [(36, some 107), (38, some 109), (39, some 110)], [(36, some 107), (40, some 111)], [(36, some 107), (41, some 112)], [(36, some 107)], [(36, some 107), (43, some 114)], [(36, some 107)], [(36, some 107), (44, some 115), (45, some 116)], [(36, some 107), (46, some 117)], [(36, some 107), (47, some 118)]] (by kernel_rfl)
             (locB _) (fun a b => Below a.heap.size a b) noR [0, 0, 0, 0, 0, 0, 0, 0, 0, 0, 0, 0, 0, 0, 0, 0, 0, 0, 0, 0, 0, 0, 0, 0, 0, 0, 0, 0, 0, 0, 0, 0, 0, 0, 0, 0, 0, 0, 0, 0, 0, 0, 0, 0, 0, 0, 0, 0, 0] 0 (by kernel_rfl) (fun _ => Below.refl _ _) (fun _ _ _ => bthen) (locB_st hF _) trivial ?_ ?_
           · refine steps_cons ?s0 ( steps_cons ?s1 ( steps_cons ?s2 ( steps_cons ?s3 ( steps_cons ?s4 ( steps_cons ?s5 ( steps_cons ?s6 ( steps_cons ?s7 ( steps_cons ?s8 ( steps_cons ?s9 ( steps_cons ?s10 ( steps_cons ?s11 ( steps_cons ?s12 ( steps_cons ?s13 ( steps_cons ?s14 ( steps_cons ?s15 ( steps_cons ?s16 ( steps_cons ?s17 ( steps_cons ?s18 ( steps_cons ?s19 ( steps_cons ?s20 ( steps_cons ?s21 ( steps_cons ?s22 ( steps_cons ?s23 ( steps_cons ?s24 ( steps_cons ?s25 ( steps_cons ?s26 ( steps_cons ?s27 ( steps_cons ?s28 ( steps_cons ?s29 ( steps_cons ?s30 ( steps_cons ?s31 ( steps_cons ?s32 ( steps_cons ?s33 ( steps_cons ?s34 ( steps_cons ?s35 ( steps_cons ?s36 ( steps_cons ?s37 ( steps_cons ?s38 ( steps_cons ?s39 ( steps_cons ?s40 ( steps_cons ?s41 ( steps_cons ?s42 ( steps_cons ?s43 ( steps_cons ?s44 ( steps_cons ?s45 ( steps_cons ?s46 ( steps_cons ?s47 ( steps_cons ?s48 steps_nil))))))))))))))))))))))))))))))))))))))))))))))))
             case s0 | s1 =>
               intro w' m' hE hR
               intro Q hQ
               go_wp2
               exact hQ _ _ _ rfl rfl (Below.refl _ _) trivial
             case s2 | s4 | s5 | s6 | s8 | s12 | s14 | s20 | s21 | s23 | s27 | s29 | s36 | s37 | s39 | s43 | s45 =>
               intro w' m' hE hR
               rintro _ rfl Q hQ
               go_wp2
               exact hQ _ _ _ rfl rfl (Below.refl _ _) trivial
             case s3 =>
               intro w' m' hE hR
               rintro _ rfl _ rfl Q hQ
               go_wp2_with fail
               refine (l1In_any _ 0 ((k : Int) - 1) w').mono ?_
               rintro e w1 ⟨rfl, rfl⟩
               rw [hip]
               go_wp2
               exact hQ _ _ _ rfl rfl (Below.refl _ _) trivial
             case s7 | s10 | s11 | s13 | s16 | s17 | s19 | s22 | s25 | s26 | s28 | s31 | s32 | s33 | s35 | s38 | s41 | s42 | s44 | s47 | s48 =>
               intro w' m' hE hR
               rintro _ rfl _ rfl Q hQ
               go_wp2
               exact hQ _ _ _ rfl rfl (Below.refl _ _) trivial
             case s9 | s15 | s18 | s24 | s30 | s34 | s40 | s46 =>
               intro w' m' hE hR
               rintro _ rfl _ rfl _ rfl Q hQ
               go_wp2
               exact hQ _ _ _ rfl rfl (Below.refl _ _) trivial
           intro w9 hE _
           rintro v0 - v1 - v2 - v3 - v4 - v5 - v6 - v7 - v8 - v9 - v10 - v11 - v12 - v13 - v14 - v15 - v16 - v17 - v18 - v19 - v20 - v21 - v22 - v23 - v24 - v25 - v26 - v27 - v28 - v29 - v30 - v31 - v32 - v33 - v34 - v35 - v36 hv36 v37 - v38 - v39 - v40 - v41 - v42 - v43 - v44 - v45 - v46 - v47 - v48 -
           obtain rfl : v36 = _ := hv36
           change wpList _ _ _ [_, _] _ _
           simp only [Act.put, List.setIfInBounds_toArray, List.set_cons_succ, List.set_cons_zero]
           have b9 := below_undrew hE
           go_wp2
           go_ret
           exact ⟨retb (unhide HN).symm, bthen hB3 (bthen hbel b9)⟩
         have hpb := inB_true.1 hip
         obtain ⟨q, rfl⟩ := Int.eq_ofNat_of_zero_le hpb.1
         have hqk : q < k := by omega
         have hqn : q < t.blocks.length := by omega
         have iq1 : (q : Int) < (t.blocks.length : Int) := by omega
         obtain ⟨bq2, offq2, L2, e2, hbe, hbP, -, d0, d1, d2, d3, d4, d5, hlc, q1⟩ := (r2.new bk_good hbel).bk hqn
         rw [unhide HBE] at hbe
         injection hbe with hbe
         injection hbe with qq1 qq2
         subst qq1
         subst qq2
         have hx2 := unhide HBS t.blocks[q] (List.getElem_mem hqn)
         have HF2 := hide (show nodeOk t k = ((x.before == bsum t.blocks[q]) && ((x.height == t.blocks[q].height + 1) && decide (t.blocks[q].view < x.view))) by
           rw [unhide HNF, unhide HPK, unhide HBK, hip, show ((q : Int)).toNat = q by simp, bAt_get t hqn, Bool.true_and])
         generalize t.blocks[q] = y at *
         have YD := hide (fun w' (hb : Below wr.heap.size wr w') => (⟨(hb.cell (p := ⟨bq, offq + q * 6, none⟩) hbb2).trans d0, (hb.cell (p := ⟨bq, offq + q * 6 + 1, none⟩) hbb2).trans d1, (hb.cell (p := ⟨bq, offq + q * 6 + 2, none⟩) hbb2).trans d2, (hb.cell (p := ⟨bq, offq + q * 6 + 3, none⟩) hbb2).trans d3, (hb.cell (p := ⟨bq, offq + q * 6 + 4, none⟩) hbb2).trans d4, (hb.cell (p := ⟨bq, offq + q * 6 + 5, none⟩) hbb2).trans d5⟩ : _ ∧ _ ∧ _ ∧ _ ∧ _ ∧ _))
         have HQY := hide (fun w' (hb : Below wr.heap.size wr w') => (q1.rd.new hb : Rd w' L2 (y.list.flatMap encA)))
         clear d0 d1 d2 d3 d4 d5 hlc q1 hbP
         by_cases e0 : x.before = bsum y
         rotate_left
         · have n0 : (bsum y != x.before) = true := by simpa using fun h => e0 h.symm
           have HN := hide (unhide HN3 (by rw [unhide HF2, show (x.before == bsum y) = false by simpa using e0]; rfl))
           clear e0
           go_wp2
           have hF : StBL [bV (.int .i64 (q : Int)), bV (.int .i64 (k : Int)), bV (.int .i64 ((k : Int) - 1)), bV (.bool true), bV (.bool false), bV (.bool false), bV (.pointer (some ⟨w.heap.size, 1, none⟩)), bV (.slice (some ⟨bq, offq, none⟩) t.blocks.length c2), bV (.int .i64 (q : Int)), bV (.pointer (some ⟨bq, offq + q * 6, none⟩)), bV (.agg #[.int .i64 y.before, .int .i64 y.height, .int .i64 y.view, .slice L2 y.list.length e2, .int .i64 y.root, .int .i64 y.eff]), bV (.int .i64 (bsum y)), bV (.pointer (some ⟨w.heap.size, 1, none⟩)), bV (.slice (some ⟨bq, offq, none⟩) t.blocks.length c2), bV (.int .i64 (k : Int)), bV (.pointer (some ⟨bq, offq + k * 6, none⟩)), bV (.pointer (some ⟨bq, offq + k * 6 + 0, none⟩)), bV (.int .i64 x.before), bV (.bool true), bV (.bool true), bV (.bool true), bV (undef), bV (undef), bV (undef), bV (undef), bV (undef), bV (undef), bV (undef), bV (undef), bV (undef), bV (undef), bV (undef), bV (undef), bV (undef), bV (undef), bV (.bool true), bV (.bool true), bV (undef), bV (undef), bV (undef), bV (undef), bV (undef), bV (undef), bV (undef), bV (undef), bV (undef), bV (undef), bV (undef), bV (undef)] :=
             ⟨sb_V _, sb_V _, sb_V _, sb_V _, sb_V _, sb_V _, sb_V _, sb_V _, sb_V _, sb_V _, sb_V _, sb_V _, sb_V _, sb_V _, sb_V _, sb_V _, sb_V _, sb_V _, sb_V _, sb_V _, sb_V _, sb_V _, sb_V _, sb_V _, sb_V _, sb_V _, sb_V _, sb_V _, sb_V _, sb_V _, sb_V _, sb_V _, sb_V _, sb_V _, sb_V _, sb_V _, sb_V _, sb_V _, sb_V _, sb_V _, sb_V _, sb_V _, sb_V _, sb_V _, sb_V _, sb_V _, sb_V _, sb_V _, sb_V _, trivial⟩
           go_upto_region 12 with fail
           refine wp_region_loc (by kernel_rfl) [(0, some 71), (1, some 72), (2, some 73), (3, some 74), (4, some 75), (5, some 76), (6, some 77), (7, some 78), (8, some 79), (9, some 80), (10, some 81), (11, some 82), (12, some 83), (13, some 84), (14, some 85), (15, some 86), (16, some 87), (17, some 88), (18, some 89), (19, some 90), (20, some 91), (21, some 92), (22, some 93), (23, some 94), (24, some 95), (25, some 96), (26, some 97), (27, some 98), (28, some 99), (29, some 100), (30, some 101), (31, some 102), (32, some 103), (33, some 104), (34, some 105), (35, some 106), (36, some 107), (37, some 108), (38, some 109), (39, some 110), (40, some 111), (41, some 112), (42, some 113), (43, some 114), (44, some 115), (45, some 116), (46, some 117), (47, some 118), (48, some 119)] [[], [], [(1, some 72)], [(0, some 71), (2, some 73)], [(3, some 74)], [(4, some 75)], [(5, some 76)], [(5, some 76), (6, some 77)], [(5, some 76)], [(5, some 76), (7, some 78), (8, some 79)], [(5, some 76), (9, some 80)], [(5, some 76), (10, some 81)], [(5, some 76)], [(5, some 76), (12, some 83)], [(5, some 76)], [(5, some 76), (13, some 84), (14, some 85)], [(5, some 76), (15, some 86)], [(5, some 76), (16, some 87)], [(5, some 76), (11, some 82), (17, some 88)], [(5, some 76), (18, some 89)], [(19, some 90)], [(20, some 91)], [(20, some 91), (21, some 92)], [(20, some 91)], [(20, some 91), (22, some 93), (23, some 94)], [(20, some 91), (24, some 95)], [(20, some 91), (25, some 96)], [(20, some 91)], [(20, some 91), (27, some 98)], [(20, some 91)], [(20, some 91), (28, some 99), (29, some 100)], [(20, some 91), (30, some 101)], [(20, some 91), (31, some 102)], [(20, some 91), (32, some 103)], [(20, some 91), (26, some 97), (33, some 104)], [(20, some 91), (34, some 105)], [(35, some 106)], [(36, some 107)], [(36, some 107), (37, some 108)], [(36, some 107)], [(36, some 107), (38, some 109), (39, some 110)], [(36, some 107), (40, some 111)], [(36, some 107), (41, some 112)], [(36, some 107)], [(36, some 107), (43, some 114)], [(36, some 107)], [(36, some 107), (44, some 115), (45, some 116)], [(36, some 107), (46, some 117)], [(36, some 107), (47, some 118)]] (by kernel_rfl)
             (locB _) (fun a b => Below a.heap.size a b) noR [0, 0, 0, 0, 0, 0, 0, 0, 0, 0, 0, 0, 0, 0, 0, 0, 0, 0, 0, 0, 0, 0, 0, 0, 0, 0, 0, 0, 0, 0, 0, 0, 0, 0, 0, 0, 0, 0, 0, 0, 0, 0, 0, 0, 0, 0, 0, 0, 0] 0 (by kernel_rfl) (fun _ => Below.refl _ _) (fun _ _ _ => bthen) (locB_st hF _) trivial ?_ ?_
           · refine steps_cons ?s0 ( steps_cons ?s1 ( steps_cons ?s2 ( steps_cons ?s3 ( steps_cons ?s4 ( steps_cons ?s5 ( steps_cons ?s6 ( steps_cons ?s7 ( steps_cons ?s8 ( steps_cons ?s9 ( steps_cons ?s10 ( steps_cons ?s11 ( steps_cons ?s12 ( steps_cons ?s13 ( steps_cons ?s14 ( steps_cons ?s15 ( steps_cons ?s16 ( steps_cons ?s17 ( steps_cons ?s18 ( steps_cons ?s19 ( steps_cons ?s20 ( steps_cons ?s21 ( steps_cons ?s22 ( steps_cons ?s23 ( steps_cons ?s24 ( steps_cons ?s25 ( steps_cons ?s26 ( steps_cons ?s27 ( steps_cons ?s28 ( steps_cons ?s29 ( steps_cons ?s30 ( steps_cons ?s31 ( steps_cons ?s32 ( steps_cons ?s33 ( steps_cons ?s34 ( steps_cons ?s35 ( steps_cons ?s36 ( steps_cons ?s37 ( steps_cons ?s38 ( steps_cons ?s39 ( steps_cons ?s40 ( steps_cons ?s41 ( steps_cons ?s42 ( steps_cons ?s43 ( steps_cons ?s44 ( steps_cons ?s45 ( steps_cons ?s46 ( steps_cons ?s47 ( steps_cons ?s48 steps_nil))))))))))))))))))))))))))))))))))))))))))))))))
             case s0 | s1 =>
               intro w' m' hE hR
               intro Q hQ
               go_wp2
               exact hQ _ _ _ rfl rfl (Below.refl _ _) trivial
             case s2 | s4 | s5 | s6 | s8 | s12 | s14 | s20 | s21 | s23 | s27 | s29 | s36 | s37 | s39 | s43 | s45 =>
               intro w' m' hE hR
               rintro _ rfl Q hQ
               go_wp2
               exact hQ _ _ _ rfl rfl (Below.refl _ _) trivial
             case s3 =>
               intro w' m' hE hR
               rintro _ rfl _ rfl Q hQ
               go_wp2_with fail
               refine (l1In_any _ 0 ((k : Int) - 1) w').mono ?_
               rintro e w1 ⟨rfl, rfl⟩
               rw [hip]
               go_wp2
               exact hQ _ _ _ rfl rfl (Below.refl _ _) trivial
             case s7 | s13 =>
               intro w' m' hE hR
               rintro _ rfl _ rfl Q hQ
               obtain ⟨y0, y1, y2⟩ := unhide BXr w' (below_undrew hE)
               rw [unhide HBE] at y1
               go_wp2
               exact hQ _ _ _ rfl rfl (Below.refl _ _) trivial
             case s9 | s15 | s18 | s24 | s30 | s34 | s40 | s46 =>
               intro w' m' hE hR
               rintro _ rfl _ rfl _ rfl Q hQ
               go_wp2
               exact hQ _ _ _ rfl rfl (Below.refl _ _) trivial
             case s10 =>
               intro w' m' hE hR
               rintro _ rfl _ rfl Q hQ
               obtain ⟨y0, y1, y2, y3, y4, y5⟩ := unhide YD w' (below_undrew hE)
               go_wp2
               exact hQ _ _ _ rfl rfl (Below.refl _ _) trivial
             case s11 =>
               intro w' m' hE hR
               rintro _ rfl _ rfl Q hQ
               go_wp2_with fail
               refine (blockSum_spec y L2 e2 w' (unhide HQY w' (below_undrew hE)) (by omega)).mono ?_
               rintro e w1 ⟨rfl, b1⟩
               go_wp2
               exact hQ _ _ _ rfl rfl b1 trivial
             case s16 | s19 | s22 | s25 | s26 | s28 | s31 | s32 | s33 | s35 | s38 | s41 | s42 | s44 | s47 | s48 =>
               intro w' m' hE hR
               rintro _ rfl _ rfl Q hQ
               go_wp2
               exact hQ _ _ _ rfl rfl (Below.refl _ _) trivial
             case s17 =>
               intro w' m' hE hR
               rintro _ rfl _ rfl Q hQ
               obtain ⟨y0, y1, y2, y3, y4, y5⟩ := unhide XD w' (below_undrew hE)
               go_wp2
               exact hQ _ _ _ rfl rfl (Below.refl _ _) trivial
           intro w9 hE _
           rintro v0 - v1 - v2 - v3 - v4 - v5 - v6 - v7 - v8 - v9 - v10 - v11 - v12 - v13 - v14 - v15 - v16 - v17 - v18 - v19 - v20 - v21 - v22 - v23 - v24 - v25 - v26 - v27 - v28 - v29 - v30 - v31 - v32 - v33 - v34 - v35 - v36 hv36 v37 - v38 - v39 - v40 - v41 - v42 - v43 - v44 - v45 - v46 - v47 - v48 -
           obtain rfl : v36 = _ := hv36
           change wpList _ _ _ [_, _] _ _
           simp only [Act.put, List.setIfInBounds_toArray, List.set_cons_succ, List.set_cons_zero]
           have b9 := below_undrew hE
           go_wp2
           go_ret
           exact ⟨retb (unhide HN).symm, bthen hB3 (bthen hbel b9)⟩
         have n0 : (bsum y != x.before) = false := by simpa using e0.symm
         have E0 := hide e0
         clear e0
         by_cases e1 : x.height = y.height + 1
         rotate_left
         · have n1 : (y.height != x.height - 1) = true := by simp; omega
           have HN := hide (unhide HN3 (by rw [unhide HF2, show (x.height == y.height + 1) = false by simpa using e1]; simp))
           clear e1
           go_wp2
           have hF : StBL [bV (.int .i64 (q : Int)), bV (.int .i64 (k : Int)), bV (.int .i64 ((k : Int) - 1)), bV (.bool true), bV (.bool false), bV (.bool false), bV (.pointer (some ⟨w.heap.size, 1, none⟩)), bV (.slice (some ⟨bq, offq, none⟩) t.blocks.length c2), bV (.int .i64 (q : Int)), bV (.pointer (some ⟨bq, offq + q * 6, none⟩)), bV (.agg #[.int .i64 y.before, .int .i64 y.height, .int .i64 y.view, .slice L2 y.list.length e2, .int .i64 y.root, .int .i64 y.eff]), bV (.int .i64 (bsum y)), bV (.pointer (some ⟨w.heap.size, 1, none⟩)), bV (.slice (some ⟨bq, offq, none⟩) t.blocks.length c2), bV (.int .i64 (k : Int)), bV (.pointer (some ⟨bq, offq + k * 6, none⟩)), bV (.pointer (some ⟨bq, offq + k * 6 + 0, none⟩)), bV (.int .i64 x.before), bV (.bool false), bV (.bool false), bV (.bool false), bV (.pointer (some ⟨w.heap.size, 1, none⟩)), bV (.slice (some ⟨bq, offq, none⟩) t.blocks.length c2), bV (.int .i64 (q : Int)), bV (.pointer (some ⟨bq, offq + q * 6, none⟩)), bV (.pointer (some ⟨bq, offq + q * 6 + 1, none⟩)), bV (.int .i64 y.height), bV (.pointer (some ⟨w.heap.size, 1, none⟩)), bV (.slice (some ⟨bq, offq, none⟩) t.blocks.length c2), bV (.int .i64 (k : Int)), bV (.pointer (some ⟨bq, offq + k * 6, none⟩)), bV (.pointer (some ⟨bq, offq + k * 6 + 1, none⟩)), bV (.int .i64 x.height), bV (.int .i64 (x.height - 1)), bV (.bool true), bV (.bool true), bV (.bool true), bV (undef), bV (undef), bV (undef), bV (undef), bV (undef), bV (undef), bV (undef), bV (undef), bV (undef), bV (undef), bV (undef), bV (undef)] :=
             ⟨sb_V _, sb_V _, sb_V _, sb_V _, sb_V _, sb_V _, sb_V _, sb_V _, sb_V _, sb_V _, sb_V _, sb_V _, sb_V _, sb_V _, sb_V _, sb_V _, sb_V _, sb_V _, sb_V _, sb_V _, sb_V _, sb_V _, sb_V _, sb_V _, sb_V _, sb_V _, sb_V _, sb_V _, sb_V _, sb_V _, sb_V _, sb_V _, sb_V _, sb_V _, sb_V _, sb_V _, sb_V _, sb_V _, sb_V _, sb_V _, sb_V _, sb_V _, sb_V _, sb_V _, sb_V _, sb_V _, sb_V _, sb_V _, sb_V _, trivial⟩
           go_upto_region 12 with fail
           refine wp_region_loc (by kernel_rfl) [(0, some 71), (1, some 72), (2, some 73), (3, some 74), (4, some 75), (5, some 76), (6, some 77), (7, some 78), (8, some 79), (9, some 80), (10, some 81), (11, some 82), (12, some 83), (13, some 84), (14, some 85), (15, some 86), (16, some 87), (17, some 88), (18, some 89), (19, some 90), (20, some 91), (21, some 92), (22, some 93), (23, some 94), (24, some 95), (25, some 96), (26, some 97), (27, some 98), (28, some 99), (29, some 100), (30, some 101), (31, some 102), (32, some 103), (33, some 104), (34, some 105), (35, some 106), (36, some 107), (37, some 108), (38, some 109), (39, some 110), (40, some 111), (41, some 112), (42, some 113), (43, some 114), (44, some 115), (45, some 116), (46, some 117), (47, some 118), (48, some 119)] [[], [], [(1, some 72)], [(0, some 71), (2, some 73)], [(3, some 74)], [(4, some 75)], [(5, some 76)], [(5, some 76), (6, some 77)], [(5, some 76)], [(5, some 76), (7, some 78), (8, some 79)], [(5, some 76), (9, some 80)], [(5, some 76), (10, some 81)], [(5, some 76)], [(5, some 76), (12, some 83)], [(5, some 76)], [(5, some 76), (13, some 84), (14, some 85)], [(5, some 76), (15, some 86)], [(5, some 76), (16, some 87)], [(5, some 76), (11, some 82), (17, some 88)], [(5, some 76), (18, some 89)], [(19, some 90)], [(20, some 91)], [(20, some 91), (21, some 92)], [(20, some 91)], [(20, some 91), (22, some 93), (23, some 94)], [(20, some 91), (24, some 95)], [(20, some 91), (25, some 96)], [(20, some 91)], [(20, some 91), (27, some 98)], [(20, some 91)], [(20, some 91), (28, some 99), (29, some 100)], [(20, some 91), (30, some 101)], [(20, some 91), (31, some 102)], [(20, some 91), (32, some 103)], [(20, some 91), (26, some 97), (33, some 104)], [(20, some 91), (34, some 105)], [(35, some 106)], [(36, some 107)], [(36, some 107), (37, some 108)], [(36, some 107)], [(36, some 107), (38, some 109), (39, some 110)], [(36, some 107), (40, some 111)], [(36, some 107), (41, some 112)], [(36, some 107)], [(36, some 107), (43, some 114)], [(36, some 107)], [(36, some 107), (44, some 115), (45, some 116)], [(36, some 107), (46, some 117)], [(36, some 107), (47, some 118)]] (by kernel_rfl)
             (locB _) (fun a b => Below a.heap.size a b) noR [0, 0, 0, 0, 0, 0, 0, 0, 0, 0, 0, 0, 0, 0, 0, 0, 0, 0, 0, 0, 0, 0, 0, 0, 0, 0, 0, 0, 0, 0, 0, 0, 0, 0, 0, 0, 0, 0, 0, 0, 0, 0, 0, 0, 0, 0, 0, 0, 0] 0 (by kernel_rfl) (fun _ => Below.refl _ _) (fun _ _ _ => bthen) (locB_st hF _) trivial ?_ ?_
           · refine steps_cons ?s0 ( steps_cons ?s1 ( steps_cons ?s2 ( steps_cons ?s3 ( steps_cons ?s4 ( steps_cons ?s5 ( steps_cons ?s6 ( steps_cons ?s7 ( steps_cons ?s8 ( steps_cons ?s9 ( steps_cons ?s10 ( steps_cons ?s11 ( steps_cons ?s12 ( steps_cons ?s13 ( steps_cons ?s14 ( steps_cons ?s15 ( steps_cons ?s16 ( steps_cons ?s17 ( steps_cons ?s18 ( steps_cons ?s19 ( steps_cons ?s20 ( steps_cons ?s21 ( steps_cons ?s22 ( steps_cons ?s23 ( steps_cons ?s24 ( steps_cons ?s25 ( steps_cons ?s26 ( steps_cons ?s27 ( steps_cons ?s28 ( steps_cons ?s29 ( steps_cons ?s30 ( steps_cons ?s31 ( steps_cons ?s32 ( steps_cons ?s33 ( steps_cons ?s34 ( steps_cons ?s35 ( steps_cons ?s36 ( steps_cons ?s37 ( steps_cons ?s38 ( steps_cons ?s39 ( steps_cons ?s40 ( steps_cons ?s41 ( steps_cons ?s42 ( steps_cons ?s43 ( steps_cons ?s44 ( steps_cons ?s45 ( steps_cons ?s46 ( steps_cons ?s47 ( steps_cons ?s48 steps_nil))))))))))))))))))))))))))))))))))))))))))))))))
             case s0 | s1 =>
               intro w' m' hE hR
               intro Q hQ
               go_wp2
               exact hQ _ _ _ rfl rfl (Below.refl _ _) trivial
             case s2 | s4 | s5 | s6 | s8 | s12 | s14 | s20 | s21 | s23 | s27 | s29 | s36 | s37 | s39 | s43 | s45 =>
               intro w' m' hE hR
               rintro _ rfl Q hQ
               go_wp2
               exact hQ _ _ _ rfl rfl (Below.refl _ _) trivial
             case s3 =>
               intro w' m' hE hR
               rintro _ rfl _ rfl Q hQ
               go_wp2_with fail
               refine (l1In_any _ 0 ((k : Int) - 1) w').mono ?_
               rintro e w1 ⟨rfl, rfl⟩
               rw [hip]
               go_wp2
               exact hQ _ _ _ rfl rfl (Below.refl _ _) trivial
             case s7 | s13 | s22 | s28 =>
               intro w' m' hE hR
               rintro _ rfl _ rfl Q hQ
               obtain ⟨y0, y1, y2⟩ := unhide BXr w' (below_undrew hE)
               rw [unhide HBE] at y1
               go_wp2
               exact hQ _ _ _ rfl rfl (Below.refl _ _) trivial
             case s9 | s15 | s18 | s24 | s30 | s34 | s40 | s46 =>
               intro w' m' hE hR
               rintro _ rfl _ rfl _ rfl Q hQ
               go_wp2
               exact hQ _ _ _ rfl rfl (Below.refl _ _) trivial
             case s10 | s26 =>
               intro w' m' hE hR
               rintro _ rfl _ rfl Q hQ
               obtain ⟨y0, y1, y2, y3, y4, y5⟩ := unhide YD w' (below_undrew hE)
               go_wp2
               exact hQ _ _ _ rfl rfl (Below.refl _ _) trivial
             case s11 =>
               intro w' m' hE hR
               rintro _ rfl _ rfl Q hQ
               go_wp2_with fail
               refine (blockSum_spec y L2 e2 w' (unhide HQY w' (below_undrew hE)) (by omega)).mono ?_
               rintro e w1 ⟨rfl, b1⟩
               go_wp2
               exact hQ _ _ _ rfl rfl b1 trivial
             case s16 | s19 | s25 | s31 | s33 | s35 | s38 | s41 | s42 | s44 | s47 | s48 =>
               intro w' m' hE hR
               rintro _ rfl _ rfl Q hQ
               go_wp2
               exact hQ _ _ _ rfl rfl (Below.refl _ _) trivial
             case s17 | s32 =>
               intro w' m' hE hR
               rintro _ rfl _ rfl Q hQ
               obtain ⟨y0, y1, y2, y3, y4, y5⟩ := unhide XD w' (below_undrew hE)
               go_wp2
               exact hQ _ _ _ rfl rfl (Below.refl _ _) trivial
           intro w9 hE _
           rintro v0 - v1 - v2 - v3 - v4 - v5 - v6 - v7 - v8 - v9 - v10 - v11 - v12 - v13 - v14 - v15 - v16 - v17 - v18 - v19 - v20 - v21 - v22 - v23 - v24 - v25 - v26 - v27 - v28 - v29 - v30 - v31 - v32 - v33 - v34 - v35 - v36 hv36 v37 - v38 - v39 - v40 - v41 - v42 - v43 - v44 - v45 - v46 - v47 - v48 -
           obtain rfl : v36 = _ := hv36
           change wpList _ _ _ [_, _] _ _
           simp only [Act.put, List.setIfInBounds_toArray, List.set_cons_succ, List.set_cons_zero]
           have b9 := below_undrew hE
           go_wp2
           go_ret
           exact ⟨retb (unhide HN).symm, bthen hB3 (bthen hbel b9)⟩
         have n1 : (y.height != x.height - 1) = false := by simp; omega
         have E1 := hide e1
         clear e1
         go_wp2
         have hF : StBL [bV (.int .i64 (q : Int)), bV (.int .i64 (k : Int)), bV (.int .i64 ((k : Int) - 1)), bV (.bool true), bV (.bool false), bV (.bool false), bV (.pointer (some ⟨w.heap.size, 1, none⟩)), bV (.slice (some ⟨bq, offq, none⟩) t.blocks.length c2), bV (.int .i64 (q : Int)), bV (.pointer (some ⟨bq, offq + q * 6, none⟩)), bV (.agg #[.int .i64 y.before, .int .i64 y.height, .int .i64 y.view, .slice L2 y.list.length e2, .int .i64 y.root, .int .i64 y.eff]), bV (.int .i64 (bsum y)), bV (.pointer (some ⟨w.heap.size, 1, none⟩)), bV (.slice (some ⟨bq, offq, none⟩) t.blocks.length c2), bV (.int .i64 (k : Int)), bV (.pointer (some ⟨bq, offq + k * 6, none⟩)), bV (.pointer (some ⟨bq, offq + k * 6 + 0, none⟩)), bV (.int .i64 x.before), bV (.bool false), bV (.bool false), bV (.bool false), bV (.pointer (some ⟨w.heap.size, 1, none⟩)), bV (.slice (some ⟨bq, offq, none⟩) t.blocks.length c2), bV (.int .i64 (q : Int)), bV (.pointer (some ⟨bq, offq + q * 6, none⟩)), bV (.pointer (some ⟨bq, offq + q * 6 + 1, none⟩)), bV (.int .i64 y.height), bV (.pointer (some ⟨w.heap.size, 1, none⟩)), bV (.slice (some ⟨bq, offq, none⟩) t.blocks.length c2), bV (.int .i64 (k : Int)), bV (.pointer (some ⟨bq, offq + k * 6, none⟩)), bV (.pointer (some ⟨bq, offq + k * 6 + 1, none⟩)), bV (.int .i64 x.height), bV (.int .i64 (x.height - 1)), bV (.bool false), bV (.bool false), bV (.bool false), bV (.pointer (some ⟨w.heap.size, 1, none⟩)), bV (.slice (some ⟨bq, offq, none⟩) t.blocks.length c2), bV (.int .i64 (q : Int)), bV (.pointer (some ⟨bq, offq + q * 6, none⟩)), bV (.pointer (some ⟨bq, offq + q * 6 + 2, none⟩)), bV (.int .i64 y.view), bV (.pointer (some ⟨w.heap.size, 1, none⟩)), bV (.slice (some ⟨bq, offq, none⟩) t.blocks.length c2), bV (.int .i64 (k : Int)), bV (.pointer (some ⟨bq, offq + k * 6, none⟩)), bV (.pointer (some ⟨bq, offq + k * 6 + 2, none⟩)), bV (.int .i64 x.view)] :=
           ⟨sb_V _, sb_V _, sb_V _, sb_V _, sb_V _, sb_V _, sb_V _, sb_V _, sb_V _, sb_V _, sb_V _, sb_V _, sb_V _, sb_V _, sb_V _, sb_V _, sb_V _, sb_V _, sb_V _, sb_V _, sb_V _, sb_V _, sb_V _, sb_V _, sb_V _, sb_V _, sb_V _, sb_V _, sb_V _, sb_V _, sb_V _, sb_V _, sb_V _, sb_V _, sb_V _, sb_V _, sb_V _, sb_V _, sb_V _, sb_V _, sb_V _, sb_V _, sb_V _, sb_V _, sb_V _, sb_V _, sb_V _, sb_V _, sb_V _, trivial⟩
         go_upto_region 12 with fail
         refine wp_region_loc (by kernel_rfl) [(0, some 71), (1, some 72), (2, some 73), (3, some 74), (4, some 75), (5, some 76), (6, some 77), (7, some 78), (8, some 79), (9, some 80), (10, some 81), (11, some 82), (12, some 83), (13, some 84), (14, some 85), (15, some 86), (16, some 87), (17, some 88), (18, some 89), (19, some 90), (20, some 91), (21, some 92), (22, some 93), (23, some 94), (24, some 95), (25, some 96), (26, some 97), (27, some 98), (28, some 99), (29, some 100), (30, some 101), (31, some 102), (32, some 103), (33, some 104), (34, some 105), (35, some 106), (36, some 107), (37, some 108), (38, some 109), (39, some 110), (40, some 111), (41, some 112), (42, some 113), (43, some 114), (44, some 115), (45, some 116), (46, some 117), (47, some 118), (48, some 119)] [[], [], [(1, some 72)], [(0, some 71), (2, some 73)], [(3, some 74)], [(4, some 75)], [(5, some 76)], [(5, some 76), (6, some 77)], [(5, some 76)], [(5, some 76), (7, some 78), (8, some 79)], [(5, some 76), (9, some 80)], [(5, some 76), (10, some 81)], [(5, some 76)], [(5, some 76), (12, some 83)], [(5, some 76)], [(5, some 76), (13, some 84), (14, some 85)], [(5, some 76), (15, some 86)], [(5, some 76), (16, some 87)], [(5, some 76), (11, some 82), (17, some 88)], [(5, some 76), (18, some 89)], [(19, some 90)], [(20, some 91)], [(20, some 91), (21, some 92)], [(20, some 91)], [(20, some 91), (22, some 93), (23, some 94)], [(20, some 91), (24, some 95)], [(20, some 91), (25, some 96)], [(20, some 91)], [(20, some 91), (27, some 98)], [(20, some 91)], [(20, some 91), (28, some 99), (29, some 100)], [(20, some 91), (30, some 101)], [(20, some 91), (31, some 102)], [(20, some 91), (32, some 103)], [(20, some 91), (26, some 97), (33, some 104)], [(20, some 91), (34, some 105)], [(35, some 106)], [(36, some 107)], [(36, some 107), (37, some 108)], [(36, some 107)], [(36, some 107), (38, some 109), (39, some 110)], [(36, some 107), (40, some 111)], [(36, some 107), (41, some 112)], [(36, some 107)], [(36, some 107), (43, some 114)], [(36, some 107)], [(36, some 107), (44, some 115), (45, some 116)], [(36, some 107), (46, some 117)], [(36, some 107), (47, some 118)]] (by kernel_rfl)
           (locB _) (fun a b => Below a.heap.size a b) noR [0, 0, 0, 0, 0, 0, 0, 0, 0, 0, 0, 0, 0, 0, 0, 0, 0, 0, 0, 0, 0, 0, 0, 0, 0, 0, 0, 0, 0, 0, 0, 0, 0, 0, 0, 0, 0, 0, 0, 0, 0, 0, 0, 0, 0, 0, 0, 0, 0] 0 (by kernel_rfl) (fun _ => Below.refl _ _) (fun _ _ _ => bthen) (locB_st hF _) trivial ?_ ?_
         · refine steps_cons ?s0 ( steps_cons ?s1 ( steps_cons ?s2 ( steps_cons ?s3 ( steps_cons ?s4 ( steps_cons ?s5 ( steps_cons ?s6 ( steps_cons ?s7 ( steps_cons ?s8 ( steps_cons ?s9 ( steps_cons ?s10 ( steps_cons ?s11 ( steps_cons ?s12 ( steps_cons ?s13 ( steps_cons ?s14 ( steps_cons ?s15 ( steps_cons ?s16 ( steps_cons ?s17 ( steps_cons ?s18 ( steps_cons ?s19 ( steps_cons ?s20 ( steps_cons ?s21 ( steps_cons ?s22 ( steps_cons ?s23 ( steps_cons ?s24 ( steps_cons ?s25 ( steps_cons ?s26 ( steps_cons ?s27 ( steps_cons ?s28 ( steps_cons ?s29 ( steps_cons ?s30 ( steps_cons ?s31 ( steps_cons ?s32 ( steps_cons ?s33 ( steps_cons ?s34 ( steps_cons ?s35 ( steps_cons ?s36 ( steps_cons ?s37 ( steps_cons ?s38 ( steps_cons ?s39 ( steps_cons ?s40 ( steps_cons ?s41 ( steps_cons ?s42 ( steps_cons ?s43 ( steps_cons ?s44 ( steps_cons ?s45 ( steps_cons ?s46 ( steps_cons ?s47 ( steps_cons ?s48 steps_nil))))))))))))))))))))))))))))))))))))))))))))))))
           case s0 | s1 =>
             intro w' m' hE hR
             intro Q hQ
             go_wp2
             exact hQ _ _ _ rfl rfl (Below.refl _ _) trivial
           case s2 | s4 | s5 | s6 | s8 | s12 | s14 | s20 | s21 | s23 | s27 | s29 | s36 | s37 | s39 | s43 | s45 =>
             intro w' m' hE hR
             rintro _ rfl Q hQ
             go_wp2
             exact hQ _ _ _ rfl rfl (Below.refl _ _) trivial
           case s3 =>
             intro w' m' hE hR
             rintro _ rfl _ rfl Q hQ
             go_wp2_with fail
             refine (l1In_any _ 0 ((k : Int) - 1) w').mono ?_
             rintro e w1 ⟨rfl, rfl⟩
             rw [hip]
             go_wp2
             exact hQ _ _ _ rfl rfl (Below.refl _ _) trivial
           case s7 | s13 | s22 | s28 | s38 | s44 =>
             intro w' m' hE hR
             rintro _ rfl _ rfl Q hQ
             obtain ⟨y0, y1, y2⟩ := unhide BXr w' (below_undrew hE)
             rw [unhide HBE] at y1
             go_wp2
             exact hQ _ _ _ rfl rfl (Below.refl _ _) trivial
           case s9 | s15 | s18 | s24 | s30 | s34 | s40 | s46 =>
             intro w' m' hE hR
             rintro _ rfl _ rfl _ rfl Q hQ
             go_wp2
             exact hQ _ _ _ rfl rfl (Below.refl _ _) trivial
           case s10 | s26 | s42 =>
             intro w' m' hE hR
             rintro _ rfl _ rfl Q hQ
             obtain ⟨y0, y1, y2, y3, y4, y5⟩ := unhide YD w' (below_undrew hE)
             go_wp2
             exact hQ _ _ _ rfl rfl (Below.refl _ _) trivial
           case s11 =>
             intro w' m' hE hR
             rintro _ rfl _ rfl Q hQ
             go_wp2_with fail
             refine (blockSum_spec y L2 e2 w' (unhide HQY w' (below_undrew hE)) (by omega)).mono ?_
             rintro e w1 ⟨rfl, b1⟩
             go_wp2
             exact hQ _ _ _ rfl rfl b1 trivial
           case s16 | s19 | s25 | s31 | s33 | s35 | s41 | s47 =>
             intro w' m' hE hR
             rintro _ rfl _ rfl Q hQ
             go_wp2
             exact hQ _ _ _ rfl rfl (Below.refl _ _) trivial
           case s17 | s32 | s48 =>
             intro w' m' hE hR
             rintro _ rfl _ rfl Q hQ
             obtain ⟨y0, y1, y2, y3, y4, y5⟩ := unhide XD w' (below_undrew hE)
             go_wp2
             exact hQ _ _ _ rfl rfl (Below.refl _ _) trivial
         intro w9 hE _
         rintro v0 - v1 - v2 - v3 - v4 - v5 - v6 - v7 - v8 - v9 - v10 - v11 - v12 - v13 - v14 - v15 - v16 - v17 - v18 - v19 - v20 - v21 - v22 - v23 - v24 - v25 - v26 - v27 - v28 - v29 - v30 - v31 - v32 - v33 - v34 - v35 - v36 hv36 v37 - v38 - v39 - v40 - v41 - v42 hv42 v43 - v44 - v45 - v46 - v47 - v48 hv48
         obtain rfl : v36 = _ := hv36
         obtain rfl : v42 = _ := hv42
         obtain rfl : v48 = _ := hv48
         change wpList _ _ _ [_, _] _ _
         simp only [Act.put, List.setIfInBounds_toArray, List.set_cons_succ, List.set_cons_zero]
         have b9 := below_undrew hE
         by_cases e2 : y.view < x.view
         rotate_left
         · have n3 : x.view ≤ y.view := by omega
           have n2 : decide (x.view ≤ y.view) = true := by simpa using n3
           have HN := hide (unhide HN3 (by rw [unhide HF2, decide_eq_false e2]; simp))
           clear e2
           go_wp2
           go_ret
           exact ⟨retb (unhide HN).symm, bthen hB3 (bthen hbel b9)⟩
         have n3 : ¬ x.view ≤ y.view := by omega
         have n2 : decide (x.view ≤ y.view) = false := by simpa using n3
         have HNK := hide (show upTo (nodeOk0 t) (k + 1) = true by
           rw [unhide HNX, unhide HF2, show (x.before == bsum y) = true by simpa using unhide E0, show (x.height == y.height + 1) = true by simpa using unhide E1, decide_eq_true e2]
           rfl)
         clear e2
         go_wp2
         go_roundw
         case rel => exact ⟨k + 1, by omega, by omega, by go_num, HNK, bthen hbel b9⟩
         case measure => simp [intOf]; omega
       · obtain rfl : k = t.blocks.length := by omega
         have HN := hide (show treeB t = decide (x0 = fstB t.base) by
           rw [treeB, unhide HT0, unhide HUS, unhide HU, tree1, unhide HP0, unhide HBG]
           simp)
         have BXr := hide (fun w' (hb : Below wr.heap.size wr w') => unhide BX3 w' (bthen hbel hb))
         have b03 := hbel
         go_wp2
         have hF : StBL [bV (.pointer (some ⟨w.heap.size, 1, none⟩)), bV (.slice (some ⟨bq, offq, none⟩) t.blocks.length c2), bV (.pointer (some ⟨bq, offq, none⟩)), bV (.agg #[.int .i64 x0.before, .int .i64 x0.height, .int .i64 x0.view, .slice L0 x0.list.length e0, .int .i64 x0.root, .int .i64 x0.eff]), bV (.pointer (some ⟨w.heap.size, 0, none⟩)), bV (.slice A1 t.base.length c1), bV (.agg #[.int .i64 (fstB t.base).before, .int .i64 (fstB t.base).height, .int .i64 (fstB t.base).view, .slice none (fstB t.base).list.length 0, .int .i64 (fstB t.base).root, .int .i64 (fstB t.base).eff])] :=
           ⟨sb_V _, sb_V _, sb_V _, sb_V _, sb_V _, sb_V _, sb_V _, trivial⟩
         go_upto_region 14 with fail
         refine wp_region_loc (by kernel_rfl) [(0, some 122), (1, some 123), (2, some 124), (3, some 125), (4, some 126), (5, some 127), (6, some 128)] [[], [(0, some 122)], [(1, some 123)], [(2, some 124)], [], [(4, some 126)], [(5, some 127)]] (by kernel_rfl)
           (locB _) (fun a b => Below a.heap.size a b) noR [0, 0, 0, 0, 0, 0, 0] 0 (by kernel_rfl) (fun _ => Below.refl _ _) (fun _ _ _ => bthen) (locB_st hF _) trivial ?_ ?_
         · refine steps_cons ?s0 ( steps_cons ?s1 ( steps_cons ?s2 ( steps_cons ?s3 ( steps_cons ?s4 ( steps_cons ?s5 ( steps_cons ?s6 steps_nil))))))
           case s0 | s4 =>
             intro w' m' hE hR
             intro Q hQ
             go_wp2
             exact hQ _ _ _ rfl rfl (Below.refl _ _) trivial
           case s1 | s5 =>
             intro w' m' hE hR
             rintro _ rfl Q hQ
             obtain ⟨y0, y1, y2⟩ := unhide BXr w' (below_undrew hE)
             rw [unhide HBE] at y1
             go_wp2
             exact hQ _ _ _ rfl rfl (Below.refl _ _) trivial
           case s2 =>
             intro w' m' hE hR
             rintro _ rfl Q hQ
             go_wp2
             exact hQ _ _ _ rfl rfl (Below.refl _ _) trivial
           case s3 =>
             intro w' m' hE hR
             rintro _ rfl Q hQ
             obtain ⟨y0, y1, y2, y3, y4, y5⟩ := unhide Y0 w' (bthen b03 (below_undrew hE))
             go_wp2
             exact hQ _ _ _ rfl rfl (Below.refl _ _) trivial
           case s6 =>
             intro w' m' hE hR
             rintro _ rfl Q hQ
             go_wp2_with fail
             refine (firstBlock_spec A1 c1 t.base w' (unhide HR1 w' (bthen b03 (below_undrew hE))) (by omega)).mono ?_
             rintro e w1 ⟨rfl, b1⟩
             go_wp2
             exact hQ _ _ _ rfl rfl b1 trivial
         intro w9 hE _
         rintro v0 - v1 - v2 - v3 hv3 v4 - v5 - v6 hv6
         obtain rfl : v3 = _ := hv3
         obtain rfl : v6 = _ := hv6
         change wpList _ _ _ [_, _] _ _
         simp only [Act.put, List.setIfInBounds_toArray, List.set_cons_succ, List.set_cons_zero]
         have b9 := bthen b03 (below_undrew hE)
         have hflb : (fstB t.base).list.length ≤ 4611686018427387904 := by rw [unhide HFL]; simp
         have K := sameB_spec x0 (fstB t.base) L0 e0 none 0 w9 (unhide HQ0 w9 b9) (by rw [unhide HFL]; exact Rd.nil _ _) (by have := unhide HX0; omega) hflb
         rw [← unhide HN] at K
         clear hflb
         go_wp2_with fail
         refine K.mono ?_
         rintro e w2 ⟨rfl, b2⟩
         go_wp2
         go_ret
         exact ⟨rfl, bthen hB3 (bthen b9 b2)⟩
end Go.Proofs.YtihlhejencninaaGreat
