/- The law FnExactPruneTree (printed by gen_in.py from xlawprune.in). -/
import Derived.Test.YtmpdopjailomlaaGreatGprune
import Derived.Test.YtmpdopjailomlaaGreatBTreeS
import Derived.Test.YtmpdopjailomlaaGreatTr
import Derived.Test.YtmpdopjailomlaaGreatLocB
namespace Go.Proofs.YtmpdopjailomlaaGreat
open Go.RowKit
set_option linter.unusedVariables false
set_option linter.unusedSimpArgs false
attribute [local go_sem ↓] Go.wp_at_zero Go.wp_at_succ

theorem bthen3' {B : Nat} {a b c : World} (h1 : Below B a b) (h2 : Below B b c) : Below B a c := h1.trans h2
/-- a tree by value that is read -/
def kTr3 (t : Tr) (v : Value) (w : World) : Prop := ∃ A1 c1 A2 c2 A3 c3, v = .agg (trA t A1 c1 A2 c2 A3 c3) ∧ TrR w t A1 A2 A3
theorem sb_Tr3 (t : Tr) : StB (kTr3 t) := fun _ _ _ hb ⟨A1, c1, A2, c2, A3, c3, h1, h2⟩ => ⟨A1, c1, A2, c2, A3, c3, h1, h2.new hb⟩
theorem bkTot_small (xs : List Bk) (h : ∀ x ∈ xs, x.list.length ≤ 10) : bkTot xs ≤ 10 * xs.length := by
  induction xs with
  | nil => simp [bkTot]
  | cons x xs ih =>
    have h1 := h x (by simp)
    have h2 := ih fun y hy => h y (by simp [hy])
    rw [bkTot, List.length_cons]
    omega
theorem prune_tot (t : Tr) (n : Int) : trTot (pruneT t n) ≤ trTot t + 1000 := by
  cases hv : treeB t
  · rw [pruneT_no hv]; simp [trTot, bkTot]
  · cases hin : inB n 0 ((t.blocks.length : Int) - 1)
    · rw [pruneT_out hv hin]; omega
    · rw [pruneT_yes hv hin]
      have hl := keptL_len t n
      have hl14 := (treeB_yes hv).2.2.1
      have hb := bkTot_small ((keptL t n).map fun k => bAt t k.toNat) (fun x hx => by
        obtain ⟨k, hk, rfl⟩ := List.mem_map.1 hx
        have hkm := (keptL_mem hk).2
        exact (actsB_yes (blk_acts hv (show k.toNat < t.blocks.length by omega))).1)
      simp only [trTot, List.length_map] at hb ⊢
      omega
set_option maxRecDepth 100000 in
set_option maxHeartbeats 8000000 in
theorem law_FnExactPruneTree (t : Tr) (A1 : Option Addr) (c1 : Nat) (A2 : Option Addr) (c2 : Nat) (A3 : Option Addr) (c3 : Nat) (n : Int) (w : World) (h : TrR w t A1 A2 A3) (hm : t.base.length ≤ maxLen ∧ t.blocks.length ≤ maxLen ∧ t.before.length ≤ maxLen) (_ : -9223372036854775808 ≤ n) (_ : n ≤ 9223372036854775807) :
    Calls Tryz.prog 3 #[.agg (trA t A1 c1 A2 c2 A3 c3), .int .i64 n] w fun e w' => e = .returned (.bool true) ∧ Below w.heap.size w w' := by
  simp only [maxLen] at hm
  obtain ⟨W, hW⟩ : ∃ W : World, W = w.alloc (.cells (trA t A1 c1 A2 c2 A3 c3) 26) := ⟨_, rfl⟩
  have hB : Below w.heap.size w W := by rw [hW]; exact (Below.refl _ _).alloc (Nat.le_refl _) _
  have kT : Blk W w.heap.size 26 (trA t A1 c1 A2 c2 A3 c3) := by rw [hW]; exact Blk.new _ _ _
  have rT := h.new hB
  have KS := szBlockTree_any t A1 c1 A2 c2 A3 c3 1048576 W rT (by omega) (by omega) (by omega) (by omega) (by omega)
  simp only [trA] at kT KS hW ⊢
  have hWs : w.heap.size < W.heap.size := kT.lt
  have z0 : W.cell? ⟨w.heap.size, 0, none⟩ = some (.slice A1 t.base.length c1) := kT.cell 0
  have z1 : W.cell? ⟨w.heap.size, 1, none⟩ = some (.slice A2 t.blocks.length c2) := kT.cell 1
  have z2 : W.cell? ⟨w.heap.size, 2, none⟩ = some (.slice A3 t.before.length c3) := kT.cell 2
  have HR := hide (fun w' (hb : Below w.heap.size w w') => h.new hb)
  clear h
  subst hW
  by_cases hg : (trTot t : Int) ≤ 1048576
  rotate_left
  · rw [szL_no hg] at KS
    clear hg
    go_enter Tryz.func3, Tryz.ntmps3
    go_wp2_with fail
    refine KS.mono ?_
    rintro e w1 ⟨rfl, b1⟩
    go_wp2
    go_ret
    exact ⟨rfl, bthen hB b1⟩
  rw [szL_yes hg] at KS
  have i1 : ¬ (1048576 - (trTot t : Int) < 0) := by omega
  have htt : trTot t ≤ 1048576 := by omega
  have hl1 : t.base.length ≤ 1048576 := by unfold trTot at htt; omega
  have hl2 : t.blocks.length ≤ 1048576 := by unfold trTot at htt; omega
  have hl3 : t.before.length ≤ 1048576 := by unfold trTot at htt; omega
  have hbs0 : ∀ x ∈ t.blocks, x.list.length ≤ 1048576 := fun x hx => by have := bkTot_mem hx; unfold trTot at htt; omega
  have HBS := hide hbs0
  have HBT := hide (fun x hx => Nat.le_trans (unhide HBS x hx) (by omega) : ∀ x ∈ t.blocks, x.list.length ≤ 1099511627776)
  have HBU := hide (fun x hx => Nat.le_trans (unhide HBS x hx) (by omega) : ∀ x ∈ t.blocks, x.list.length ≤ 4611686018427387904)
  have hpt := prune_tot t n
  have HP := hide (show pruneT t n = pruneT t n from rfl)
  have HMK := hide (markTrE_le 1 t (by omega))
  have HPB := hide (fun x hx => by have := bkTot_mem hx; unfold trTot at hpt htt; omega : ∀ x ∈ (pruneT t n).blocks, x.list.length ≤ 4611686018427387904)
  have hp1 : (pruneT t n).base.length ≤ 2000000 := by unfold trTot at hpt htt; omega
  have hp2 : (pruneT t n).blocks.length ≤ 2000000 := by unfold trTot at hpt htt; omega
  have hp3 : (pruneT t n).before.length ≤ 2000000 := by unfold trTot at hpt htt; omega
  have HMP := hide (markTrE_le 1 (pruneT t n) (by omega))
  clear hbs0 hm
  go_enter Tryz.func3, Tryz.ntmps3
  go_wp2_with fail
  refine KS.mono ?_
  rintro e w1 ⟨rfl, b1⟩
  clear KS z0 z1 z2 hg
  clear rT
  replace hWs : w.heap.size < w1.heap.size := Nat.lt_of_lt_of_le hWs b1.size
  replace kT := kT.new_ b1
  replace hB := bthen hB b1
  have z0 : w1.cell? ⟨w.heap.size, 0, none⟩ = some _ := kT.cell 0
  have z1 : w1.cell? ⟨w.heap.size, 1, none⟩ = some _ := kT.cell 1
  have z2 : w1.cell? ⟨w.heap.size, 2, none⟩ = some _ := kT.cell 2
  have KT2 := toBlockTree_any t A1 c1 A2 c2 A3 c3 w1 (unhide HR _ hB) hl1 hl2 (unhide HBS) hl3
  simp only [trA] at KT2
  go_wp2_with fail
  refine KT2.mono ?_
  rintro e v2 ⟨B21, d21, B22, d22, B23, d23, fp2, rfl, t2, b2⟩
  clear KT2 z0 z1 z2
  have hs2 := b2.size
  replace kT := kT.new_ b2
  replace hB := bthen hB b2
  have KA := prune_spec t B21 d21 B22 d22 B23 d23 n v2 t2.rd (by omega) (by omega) (unhide HBT) (by omega)
  simp only [trA] at KA
  go_wp2_with fail
  refine KA.mono ?_
  rintro e v3 ⟨Wa1, Wae1, Wa2, Wae2, Wa3, Wae3, fpWa, rfl, tW, b3⟩
  clear KA 
  have hszv3 := b3.size
  have HRtW := hide tW.rng
  replace kT := kT.new_ b3
  replace t2 := t2.new b3
  replace hB := bthen hB b3
  go_wp2_with (refine wpList_store_row rfl 31 (.tmp 6) (.tmp 26) rfl v3.heap.size #[.slice Wa1 (pruneT t n).base.length Wae1, .slice Wa2 (pruneT t n).blocks.length Wae2, .slice Wa3 (pruneT t n).before.length Wae3] rfl rfl 31 #[.slice none 0 0, .slice none 0 0, .slice none 0 0] (box_new v3 31 #[.slice none 0 0, .slice none 0 0, .slice none 0 0] #[.slice Wa1 (pruneT t n).base.length Wae1, .slice Wa2 (pruneT t n).blocks.length Wae2, .slice Wa3 (pruneT t n).before.length Wae3]).1 info_tr rfl (sl3_one _ _ _ _ _ _ _ _ _) ?_; refine at_world (C := fun W => wpList _ _ _ _ _ W) (F := fun W => Blk W v3.heap.size 31 #[.slice Wa1 (pruneT t n).base.length Wae1, .slice Wa2 (pruneT t n).blocks.length Wae2, .slice Wa3 (pruneT t n).before.length Wae3] ∧ Below v3.heap.size v3 W) ⟨(box_new v3 31 #[.slice none 0 0, .slice none 0 0, .slice none 0 0] #[.slice Wa1 (pruneT t n).base.length Wae1, .slice Wa2 (pruneT t n).blocks.length Wae2, .slice Wa3 (pruneT t n).before.length Wae3]).2.1, (box_new v3 31 #[.slice none 0 0, .slice none 0 0, .slice none 0 0] #[.slice Wa1 (pruneT t n).base.length Wae1, .slice Wa2 (pruneT t n).blocks.length Wae2, .slice Wa3 (pruneT t n).before.length Wae3]).2.2⟩ ?_; rintro v4 ⟨k6, b4⟩; have z0 : v4.cell? ⟨w.heap.size, 0, none⟩ = some _ := (kT.new_ b4).cell 0; have z1 : v4.cell? ⟨w.heap.size, 1, none⟩ = some _ := (kT.new_ b4).cell 1; have z2 : v4.cell? ⟨w.heap.size, 2, none⟩ = some _ := (kT.new_ b4).cell 2)
  obtain ⟨g6, hg6⟩ : ∃ g, g = v3.heap.size := ⟨_, rfl⟩
  rw [← hg6] at k6 ⊢
  have hsg6 := b4.size
  replace kT := kT.new_ b4
  replace t2 := t2.new b4
  replace tW := tW.new b4
  replace hB := bthen hB b4
  have hlg6 := k6.lt
  have hqg6 : v3.heap.size ≤ g6 := by omega
  clear hg6
  have KT5 := toBlockTree_any t A1 c1 A2 c2 A3 c3 v4 (unhide HR _ hB) hl1 hl2 (unhide HBS) hl3
  simp only [trA] at KT5
  refine KT5.mono ?_
  rintro e v5 ⟨B51, d51, B52, d52, B53, d53, fp5, rfl, t5, b5⟩
  clear KT5 z0 z1 z2
  have hs5 := b5.size
  have HRG5 := hide t5.rng
  replace kT := kT.new_ b5
  replace t2 := t2.new b5
  replace tW := tW.new b5
  replace k6 := k6.new_ b5
  replace hB := bthen hB b5
  go_wp2_with (refine wpList_store_row rfl 31 (.tmp 8) (.tmp 29) rfl v5.heap.size #[.slice B51 t.base.length d51, .slice B52 t.blocks.length d52, .slice B53 t.before.length d53] rfl rfl 31 #[.slice none 0 0, .slice none 0 0, .slice none 0 0] (box_new v5 31 #[.slice none 0 0, .slice none 0 0, .slice none 0 0] #[.slice B51 t.base.length d51, .slice B52 t.blocks.length d52, .slice B53 t.before.length d53]).1 info_tr rfl (sl3_one _ _ _ _ _ _ _ _ _) ?_; refine at_world (C := fun W => wpList _ _ _ _ _ W) (F := fun W => Blk W v5.heap.size 31 #[.slice B51 t.base.length d51, .slice B52 t.blocks.length d52, .slice B53 t.before.length d53] ∧ Below v5.heap.size v5 W) ⟨(box_new v5 31 #[.slice none 0 0, .slice none 0 0, .slice none 0 0] #[.slice B51 t.base.length d51, .slice B52 t.blocks.length d52, .slice B53 t.before.length d53]).2.1, (box_new v5 31 #[.slice none 0 0, .slice none 0 0, .slice none 0 0] #[.slice B51 t.base.length d51, .slice B52 t.blocks.length d52, .slice B53 t.before.length d53]).2.2⟩ ?_; rintro v6 ⟨k8, b6⟩; have z0 : v6.cell? ⟨v5.heap.size, 0, none⟩ = some _ := (k8).cell 0; have z1 : v6.cell? ⟨v5.heap.size, 1, none⟩ = some _ := (k8).cell 1; have z2 : v6.cell? ⟨v5.heap.size, 2, none⟩ = some _ := (k8).cell 2)
  obtain ⟨g8, hg8⟩ : ∃ g, g = v5.heap.size := ⟨_, rfl⟩
  rw [← hg8] at k8 ⊢ z0 z1 z2
  have hsg8 := b6.size
  replace kT := kT.new_ b6
  replace t2 := t2.new b6
  replace tW := tW.new b6
  replace k6 := k6.new_ b6
  replace t5 := t5.new b6
  replace hB := bthen hB b6
  have hlg8 := k8.lt
  have hqg8 : v5.heap.size ≤ g8 := by omega
  clear hg8
  have KA := prune_impl t B51 d51 B52 d52 B53 d53 n v6 t5.rd (by omega) (by omega) (unhide HBT) (by omega)
  simp only [trA] at KA
  refine KA.mono ?_
  rintro e v7 ⟨Ga1, Gae1, Ga2, Gae2, Ga3, Gae3, fpG, rfl, tG, b7⟩
  clear KA z0 z1 z2
  have hs7 := b7.size
  have HRtG := hide tG.rng
  replace kT := kT.new_ b7
  replace t2 := t2.new b7
  replace tW := tW.new b7
  replace k6 := k6.new_ b7
  replace t5 := t5.new b7
  replace k8 := k8.new_ b7
  replace hB := bthen hB b7
  go_wp2_with (refine wpList_store_row rfl 31 (.tmp 9) (.tmp 34) rfl v7.heap.size #[.slice Ga1 (pruneT t n).base.length Gae1, .slice Ga2 (pruneT t n).blocks.length Gae2, .slice Ga3 (pruneT t n).before.length Gae3] rfl rfl 31 #[.slice none 0 0, .slice none 0 0, .slice none 0 0] (box_new v7 31 #[.slice none 0 0, .slice none 0 0, .slice none 0 0] #[.slice Ga1 (pruneT t n).base.length Gae1, .slice Ga2 (pruneT t n).blocks.length Gae2, .slice Ga3 (pruneT t n).before.length Gae3]).1 info_tr rfl (sl3_one _ _ _ _ _ _ _ _ _) ?_; refine at_world (C := fun W => wpList _ _ _ _ _ W) (F := fun W => Blk W v7.heap.size 31 #[.slice Ga1 (pruneT t n).base.length Gae1, .slice Ga2 (pruneT t n).blocks.length Gae2, .slice Ga3 (pruneT t n).before.length Gae3] ∧ Below v7.heap.size v7 W) ⟨(box_new v7 31 #[.slice none 0 0, .slice none 0 0, .slice none 0 0] #[.slice Ga1 (pruneT t n).base.length Gae1, .slice Ga2 (pruneT t n).blocks.length Gae2, .slice Ga3 (pruneT t n).before.length Gae3]).2.1, (box_new v7 31 #[.slice none 0 0, .slice none 0 0, .slice none 0 0] #[.slice Ga1 (pruneT t n).base.length Gae1, .slice Ga2 (pruneT t n).blocks.length Gae2, .slice Ga3 (pruneT t n).before.length Gae3]).2.2⟩ ?_; rintro v8 ⟨k9, b8⟩; have z0 : v8.cell? ⟨v7.heap.size, 0, none⟩ = some _ := (k9).cell 0; have z1 : v8.cell? ⟨v7.heap.size, 1, none⟩ = some _ := (k9).cell 1; have z2 : v8.cell? ⟨v7.heap.size, 2, none⟩ = some _ := (k9).cell 2; have y0 : v8.cell? ⟨g6, 0, none⟩ = some _ := (k6.new_ b8).cell 0; have y1 : v8.cell? ⟨g6, 1, none⟩ = some _ := (k6.new_ b8).cell 1; have y2 : v8.cell? ⟨g6, 2, none⟩ = some _ := (k6.new_ b8).cell 2)
  obtain ⟨g9, hg9⟩ : ∃ g, g = v7.heap.size := ⟨_, rfl⟩
  rw [← hg9] at k9 ⊢ z0 z1 z2
  have hsg9 := b8.size
  replace kT := kT.new_ b8
  replace t2 := t2.new b8
  replace tW := tW.new b8
  replace k6 := k6.new_ b8
  replace t5 := t5.new b8
  replace k8 := k8.new_ b8
  replace tG := tG.new b8
  replace hB := bthen hB b8
  have hlg9 := k9.lt
  have hqg9 : v7.heap.size ≤ g9 := by omega
  clear hg9
  clear z0 z1 z2 y0 y1 y2
  have KE := eqBlockTree_any (pruneT t n) (pruneT t n) Ga1 Gae1 Ga2 Gae2 Ga3 Gae3 Wa1 Wae1 Wa2 Wae2 Wa3 Wae3 v8 tG.rd tW.rd (by omega) (by omega) (unhide HPB) (by omega)
  rw [decide_eq_true rfl] at KE
  simp only [trA] at KE
  refine KE.mono ?_
  rintro e v9 ⟨rfl, b9⟩
  clear KE 
  have hsv9 := b9.size
  replace kT := kT.new_ b9
  replace t2 := t2.new b9
  replace tW := tW.new b9
  replace k6 := k6.new_ b9
  replace t5 := t5.new b9
  replace k8 := k8.new_ b9
  replace tG := tG.new b9
  replace k9 := k9.new_ b9
  replace hB := bthen hB b9
  have HX := hide (fun (w' : World) (hb : Below v9.heap.size v9 w') => show (w'.cell? ⟨g8, 0, none⟩ = some (.slice B51 t.base.length d51) ∧ w'.cell? ⟨g8, 1, none⟩ = some (.slice B52 t.blocks.length d52) ∧ w'.cell? ⟨g8, 2, none⟩ = some (.slice B53 t.before.length d53)) ∧ (w'.cell? ⟨w.heap.size, 0, none⟩ = some (.slice A1 t.base.length c1) ∧ w'.cell? ⟨w.heap.size, 1, none⟩ = some (.slice A2 t.blocks.length c2) ∧ w'.cell? ⟨w.heap.size, 2, none⟩ = some (.slice A3 t.before.length c3)) ∧ TrR w' t A1 A2 A3 from ⟨⟨(k8.new_ hb).cell 0, (k8.new_ hb).cell 1, (k8.new_ hb).cell 2⟩, ⟨(kT.new_ hb).cell 0, (kT.new_ hb).cell 1, (kT.new_ hb).cell 2⟩, unhide HR w' (bthen hB hb)⟩)
  go_wp2
  have hF : StBL [bV (.agg #[.slice B51 t.base.length d51, .slice B52 t.blocks.length d52, .slice B53 t.before.length d53]), bV (.agg #[.slice A1 t.base.length c1, .slice A2 t.blocks.length c2, .slice A3 t.before.length c3]), kTr3 t] :=
    ⟨sb_V _, sb_V _, sb_Tr3 _, trivial⟩
  go_upto_region 10 with fail
  refine wp_region_loc (by kernel_rfl) [(0, some 45), (1, some 46), (2, some 47)] [[], [], [(1, some 46)]] (by kernel_rfl)
    (locB _) (fun a b => Below a.heap.size a b) noR [0, 0, 0] 0 (by kernel_rfl) (fun _ => Below.refl _ _) (fun _ _ _ => bthen) (locB_st hF _) trivial ?_ ?_
  · refine steps_cons ?s0 ( steps_cons ?s1 ( steps_cons ?s2 steps_nil))
    case s0 =>
      intro w' m' hE hR
      intro Q hQ
      obtain ⟨⟨y0, y1, y2⟩, ⟨z0, z1, z2⟩, y3⟩ := unhide HX w' (below_undrew hE)
      go_wp2
      exact hQ _ _ _ rfl rfl (Below.refl _ _) trivial
    case s1 =>
      intro w' m' hE hR
      intro Q hQ
      obtain ⟨⟨y0, y1, y2⟩, ⟨z0, z1, z2⟩, y3⟩ := unhide HX w' (below_undrew hE)
      go_wp2
      exact hQ _ _ _ rfl rfl (Below.refl _ _) trivial
    case s2 =>
      intro w' m' hE hR
      rintro _ rfl Q hQ
      obtain ⟨⟨y0, y1, y2⟩, ⟨z0, z1, z2⟩, y3⟩ := unhide HX w' (below_undrew hE)
      have KT := toBlockTree_any t A1 c1 A2 c2 A3 c3 w' y3 hl1 hl2 (unhide HBS) hl3
      simp only [trA] at KT
      go_wp2_with fail
      refine KT.mono ?_
      rintro e w1 ⟨B61, d61, B62, d62, B63, d63, fp6, rfl, t6, b6⟩
      go_wp2
      exact hQ _ _ _ rfl ⟨_, _, _, _, _, _, rfl, t6.rd⟩ b6 trivial
  intro v10 hE _
  rintro v0 hv0 v1 - v2 ⟨B61, d61, B62, d62, B63, d63, rfl, t6⟩
  obtain rfl : v0 = _ := hv0
  change wpList _ _ _ [_, _] _ _
  simp only [Act.put, List.setIfInBounds_toArray, List.set_cons_succ, List.set_cons_zero]
  have b10 := below_undrew hE
  clear hE hF HX
  simp only [trA]
  replace kT := kT.new_ b10
  replace t2 := t2.new b10
  replace tW := tW.new b10
  replace k6 := k6.new_ b10
  replace t5 := t5.new b10
  replace k8 := k8.new_ b10
  replace tG := tG.new b10
  replace k9 := k9.new_ b10
  replace hB := bthen hB b10
  have KE := eqBlockTree_any t t B51 d51 B52 d52 B53 d53 B61 d61 B62 d62 B63 d63 v10 t5.rd t6 (by omega) (by omega) (unhide HBU) (by omega)
  rw [decide_eq_true rfl] at KE
  simp only [trA] at KE
  have hs10 := b10.size
  go_wp2_with fail
  refine KE.mono ?_
  rintro e v11 ⟨rfl, b11⟩
  clear KE t6
  have hs11 := b11.size
  replace kT := kT.new_ b11
  replace t2 := t2.new b11
  replace tW := tW.new b11
  replace k6 := k6.new_ b11
  replace t5 := t5.new b11
  replace k8 := k8.new_ b11
  replace tG := tG.new b11
  replace k9 := k9.new_ b11
  replace hB := bthen hB b11
  have z0 : v11.cell? ⟨g8, 0, none⟩ = some _ := k8.cell 0
  have z1 : v11.cell? ⟨g8, 1, none⟩ = some _ := k8.cell 1
  have z2 : v11.cell? ⟨g8, 2, none⟩ = some _ := k8.cell 2
  go_wp2_with fail
  have KM := markBlockTree_any t B51 d51 B52 d52 B53 d53 fp5 v4.heap.size 1 v11 t5 (by omega) (by omega) (by omega)
  simp only [trA] at KM
  refine KM.mono ?_
  rintro e v12 ⟨rfl, t5m, ch12⟩
  clear KM z0 z1 z2 t5m
  have hs12 := ch12.size
  clear t5
  clear t2
  have hmk : ¬ markTrE 1 t < 0 := by have := unhide HMK; omega
  generalize markTrE 1 t = mk at *
  clear HMK
  have bw12 := ch12.below (B := w.heap.size) (fun q hq e => by have := unhide HRG5 q e; omega) hB.size
  replace hB := bthen3' hB bw12
  clear bw12
  replace kT := kT.chg ch12 (fun e => by have := unhide HRG5 _ e; omega)
  replace tW := tW.chg ch12 (fun q hq e => by have := unhide HRtW q hq; have := unhide HRG5 _ e; omega)
  replace k6 := k6.chg ch12 (fun e => by have := unhide HRG5 _ e; omega)
  replace k8 := k8.chg ch12 (fun e => by have := unhide HRG5 _ e; omega)
  replace tG := tG.chg ch12 (fun q hq e => by have := unhide HRtG q hq; have := unhide HRG5 _ e; omega)
  replace k9 := k9.chg ch12 (fun e => by have := unhide HRG5 _ e; omega)
  clear ch12
  have z0 : v12.cell? ⟨g9, 0, none⟩ = some _ := k9.cell 0
  have z1 : v12.cell? ⟨g9, 1, none⟩ = some _ := k9.cell 1
  have z2 : v12.cell? ⟨g9, 2, none⟩ = some _ := k9.cell 2
  have y0 : v12.cell? ⟨g6, 0, none⟩ = some _ := k6.cell 0
  have y1 : v12.cell? ⟨g6, 1, none⟩ = some _ := k6.cell 1
  have y2 : v12.cell? ⟨g6, 2, none⟩ = some _ := k6.cell 2
  go_wp2_with fail
  have KE := eqBlockTree_any (pruneT t n) (pruneT t n) Ga1 Gae1 Ga2 Gae2 Ga3 Gae3 Wa1 Wae1 Wa2 Wae2 Wa3 Wae3 v12 tG.rd tW.rd (by omega) (by omega) (unhide HPB) (by omega)
  rw [decide_eq_true rfl] at KE
  simp only [trA] at KE
  refine KE.mono ?_
  rintro e v13 ⟨rfl, b13⟩
  clear KE z0 z1 z2 y0 y1 y2
  have hsv13 := b13.size
  replace kT := kT.new_ b13
  replace tW := tW.new b13
  replace k6 := k6.new_ b13
  replace k8 := k8.new_ b13
  replace tG := tG.new b13
  replace k9 := k9.new_ b13
  replace hB := bthen hB b13
  have z0 : v13.cell? ⟨g9, 0, none⟩ = some _ := k9.cell 0
  have z1 : v13.cell? ⟨g9, 1, none⟩ = some _ := k9.cell 1
  have z2 : v13.cell? ⟨g9, 2, none⟩ = some _ := k9.cell 2
  go_wp2_with fail
  have KM := markBlockTree_any (pruneT t n) Ga1 Gae1 Ga2 Gae2 Ga3 Gae3 fpG v6.heap.size 1 v13 tG (by omega) (by omega) (by omega)
  simp only [trA] at KM
  refine KM.mono ?_
  rintro e v14 ⟨rfl, tM, ch14⟩
  clear KM z0 z1 z2
  have hs14 := ch14.size
  clear tG
  have hmp : ¬ markTrE 1 (pruneT t n) < 0 := by have := unhide HMP; omega
  have bw14 := ch14.below (B := w.heap.size) (fun q hq e => by have := unhide HRtG q e; omega) hB.size
  replace hB := bthen3' hB bw14
  clear bw14
  replace kT := kT.chg ch14 (fun e => by have := unhide HRtG _ e; omega)
  replace tW := tW.chg ch14 (fun q hq e => by have := unhide HRtW q hq; have := unhide HRtG _ e; omega)
  replace k6 := k6.chg ch14 (fun e => by have := unhide HRtG _ e; omega)
  replace k8 := k8.chg ch14 (fun e => by have := unhide HRtG _ e; omega)
  replace k9 := k9.chg ch14 (fun e => by have := unhide HRtG _ e; omega)
  clear ch14
  have z0 : v14.cell? ⟨g9, 0, none⟩ = some _ := k9.cell 0
  have z1 : v14.cell? ⟨g9, 1, none⟩ = some _ := k9.cell 1
  have z2 : v14.cell? ⟨g9, 2, none⟩ = some _ := k9.cell 2
  go_wp2_with fail
  have KH := heldBlockTree_any (pruneT t n) Ga1 Gae1 Ga2 Gae2 Ga3 Gae3 1 v14 tM.rd (by omega) (by omega) (by omega)
  simp only [trA] at KH
  refine KH.mono ?_
  rintro e v15 ⟨rfl, b15⟩
  have hsv15 := b15.size
  clear KH z0 z1 z2
  replace kT := kT.new_ b15
  replace tW := tW.new b15
  replace k6 := k6.new_ b15
  replace k8 := k8.new_ b15
  replace k9 := k9.new_ b15
  replace tM := tM.new b15
  replace hB := bthen hB b15
  have z0 : v15.cell? ⟨w.heap.size, 0, none⟩ = some _ := kT.cell 0
  have z1 : v15.cell? ⟨w.heap.size, 1, none⟩ = some _ := kT.cell 1
  have z2 : v15.cell? ⟨w.heap.size, 2, none⟩ = some _ := kT.cell 2
  have KT16 := toBlockTree_any t A1 c1 A2 c2 A3 c3 v15 (unhide HR _ hB) hl1 hl2 (unhide HBS) hl3
  simp only [trA] at KT16
  go_wp2_with fail
  refine KT16.mono ?_
  rintro e v16 ⟨B161, d161, B162, d162, B163, d163, fp16, rfl, t16, b16⟩
  clear KT16 z0 z1 z2
  have hs16 := b16.size
  replace kT := kT.new_ b16
  replace tW := tW.new b16
  replace k6 := k6.new_ b16
  replace k8 := k8.new_ b16
  replace k9 := k9.new_ b16
  replace tM := tM.new b16
  replace hB := bthen hB b16
  have KA := prune_impl t B161 d161 B162 d162 B163 d163 n v16 t16.rd (by omega) (by omega) (unhide HBT) (by omega)
  simp only [trA] at KA
  go_wp2_with fail
  refine KA.mono ?_
  rintro e v17 ⟨Ha1, Hae1, Ha2, Hae2, Ha3, Hae3, fpHa, rfl, tH, b17⟩
  clear KA 
  have hszv17 := b17.size
  have HRtH := hide tH.rng
  replace kT := kT.new_ b17
  replace tW := tW.new b17
  replace k6 := k6.new_ b17
  replace k8 := k8.new_ b17
  replace k9 := k9.new_ b17
  replace tM := tM.new b17
  replace t16 := t16.new b17
  replace hB := bthen hB b17
  go_wp2_with (refine wpList_store_row rfl 31 (.tmp 14) (.tmp 82) rfl v17.heap.size #[.slice Ha1 (pruneT t n).base.length Hae1, .slice Ha2 (pruneT t n).blocks.length Hae2, .slice Ha3 (pruneT t n).before.length Hae3] rfl rfl 31 #[.slice none 0 0, .slice none 0 0, .slice none 0 0] (box_new v17 31 #[.slice none 0 0, .slice none 0 0, .slice none 0 0] #[.slice Ha1 (pruneT t n).base.length Hae1, .slice Ha2 (pruneT t n).blocks.length Hae2, .slice Ha3 (pruneT t n).before.length Hae3]).1 info_tr rfl (sl3_one _ _ _ _ _ _ _ _ _) ?_; refine at_world (C := fun W => wpList _ _ _ _ _ W) (F := fun W => Blk W v17.heap.size 31 #[.slice Ha1 (pruneT t n).base.length Hae1, .slice Ha2 (pruneT t n).blocks.length Hae2, .slice Ha3 (pruneT t n).before.length Hae3] ∧ Below v17.heap.size v17 W) ⟨(box_new v17 31 #[.slice none 0 0, .slice none 0 0, .slice none 0 0] #[.slice Ha1 (pruneT t n).base.length Hae1, .slice Ha2 (pruneT t n).blocks.length Hae2, .slice Ha3 (pruneT t n).before.length Hae3]).2.1, (box_new v17 31 #[.slice none 0 0, .slice none 0 0, .slice none 0 0] #[.slice Ha1 (pruneT t n).base.length Hae1, .slice Ha2 (pruneT t n).blocks.length Hae2, .slice Ha3 (pruneT t n).before.length Hae3]).2.2⟩ ?_; rintro v18 ⟨k14, b18⟩; have z0 : v18.cell? ⟨v17.heap.size, 0, none⟩ = some _ := (k14).cell 0; have z1 : v18.cell? ⟨v17.heap.size, 1, none⟩ = some _ := (k14).cell 1; have z2 : v18.cell? ⟨v17.heap.size, 2, none⟩ = some _ := (k14).cell 2; have y0 : v18.cell? ⟨g6, 0, none⟩ = some _ := (k6.new_ b18).cell 0; have y1 : v18.cell? ⟨g6, 1, none⟩ = some _ := (k6.new_ b18).cell 1; have y2 : v18.cell? ⟨g6, 2, none⟩ = some _ := (k6.new_ b18).cell 2)
  obtain ⟨g14, hg14⟩ : ∃ g, g = v17.heap.size := ⟨_, rfl⟩
  rw [← hg14] at k14 ⊢ z0 z1 z2
  have hsg14 := b18.size
  replace kT := kT.new_ b18
  replace tW := tW.new b18
  replace k6 := k6.new_ b18
  replace k8 := k8.new_ b18
  replace k9 := k9.new_ b18
  replace tM := tM.new b18
  replace t16 := t16.new b18
  replace tH := tH.new b18
  replace hB := bthen hB b18
  have hlg14 := k14.lt
  have hqg14 : v17.heap.size ≤ g14 := by omega
  clear hg14
  have KE := eqBlockTree_any (pruneT t n) (pruneT t n) Ha1 Hae1 Ha2 Hae2 Ha3 Hae3 Wa1 Wae1 Wa2 Wae2 Wa3 Wae3 v18 tH.rd tW.rd (by omega) (by omega) (unhide HPB) (by omega)
  rw [decide_eq_true rfl] at KE
  simp only [trA] at KE
  refine KE.mono ?_
  rintro e v19 ⟨rfl, b19⟩
  clear KE z0 z1 z2 y0 y1 y2
  have hsv19 := b19.size
  replace kT := kT.new_ b19
  replace tW := tW.new b19
  replace k6 := k6.new_ b19
  replace k8 := k8.new_ b19
  replace k9 := k9.new_ b19
  replace tM := tM.new b19
  replace t16 := t16.new b19
  replace tH := tH.new b19
  replace k14 := k14.new_ b19
  replace hB := bthen hB b19
  have z0 : v19.cell? ⟨g9, 0, none⟩ = some _ := k9.cell 0
  have z1 : v19.cell? ⟨g9, 1, none⟩ = some _ := k9.cell 1
  have z2 : v19.cell? ⟨g9, 2, none⟩ = some _ := k9.cell 2
  go_wp2_with fail
  have KH := heldBlockTree_any (pruneT t n) Ga1 Gae1 Ga2 Gae2 Ga3 Gae3 1 v19 tM.rd (by omega) (by omega) (by omega)
  simp only [trA] at KH
  refine KH.mono ?_
  rintro e v20 ⟨rfl, b20⟩
  have hsv20 := b20.size
  clear KH z0 z1 z2
  replace kT := kT.new_ b20
  replace tW := tW.new b20
  replace k6 := k6.new_ b20
  replace k8 := k8.new_ b20
  replace k9 := k9.new_ b20
  replace tM := tM.new b20
  replace t16 := t16.new b20
  replace tH := tH.new b20
  replace k14 := k14.new_ b20
  replace hB := bthen hB b20
  go_wp2
  go_ret
  exact ⟨rfl, hB⟩
end Go.Proofs.YtmpdopjailomlaaGreat
