/- The law FnExactAskAll (printed by gen_in.py from xlawaskall.in). -/
import Derived.Test.YtmpdopjailomlaaGreatGask
import Derived.Test.YtmpdopjailomlaaGreatBTreeS
import Derived.Test.YtmpdopjailomlaaGreatTr
import Derived.Test.YtmpdopjailomlaaGreatIntS
import Derived.Test.YtmpdopjailomlaaGreatLocB
namespace Go.Proofs.YtmpdopjailomlaaGreat
open Go.RowKit
set_option linter.unusedVariables false
set_option linter.unusedSimpArgs false
attribute [local go_sem ↓] Go.wp_at_zero Go.wp_at_succ

theorem sl_one2 (A B C : Option Addr) (n m k c d e : Nat) : (#[Value.slice A n c, .slice B m d, .slice C k e]).all (·.oneCell') = true := by
  rw [Array.all_eq_true_iff_forall_mem]
  intro x hx
  simp at hx
  rcases hx with rfl | rfl | rfl <;> rfl
theorem bthen2' {B : Nat} {a b c : World} (h1 : Below B a b) (h2 : Below B b c) : Below B a c := h1.trans h2
/-- a tree by value that is read -/
def kTr2 (t : Tr) (v : Value) (w : World) : Prop := ∃ A1 c1 A2 c2 A3 c3, v = .agg (trA t A1 c1 A2 c2 A3 c3) ∧ TrR w t A1 A2 A3
theorem sb_Tr2 (t : Tr) : StB (kTr2 t) := fun _ _ _ hb ⟨A1, c1, A2, c2, A3, c3, h1, h2⟩ => ⟨A1, c1, A2, c2, A3, c3, h1, h2.new hb⟩
theorem allA_small (t : Tr) (n : Int) (ks : List Int) : ∀ x ∈ allA t n ks, x.proof.length ≤ 5 := fun x hx => by
  unfold allA at hx
  split at hx
  · obtain ⟨k, _, rfl⟩ := List.mem_map.1 hx
    exact askA_len t n k
  · cases hx
theorem prTot_small (xs : List Ans) (h : ∀ x ∈ xs, x.proof.length ≤ 5) : prTot xs ≤ 5 * xs.length := by
  induction xs with
  | nil => simp [prTot]
  | cons x xs ih =>
    have h1 := h x (by simp)
    have h2 := ih fun y hy => h y (by simp [hy])
    rw [prTot, List.length_cons]
    omega
set_option maxRecDepth 100000 in
set_option maxHeartbeats 8000000 in
theorem law_FnExactAskAll (t : Tr) (A1 : Option Addr) (c1 : Nat) (A2 : Option Addr) (c2 : Nat) (A3 : Option Addr) (c3 : Nat) (n : Int) (B : Option Addr) (cb : Nat) (ks : List Int) (w : World) (h : TrR w t A1 A2 A3) (hm : t.base.length ≤ maxLen ∧ t.blocks.length ≤ maxLen ∧ t.before.length ≤ maxLen) (_ : -9223372036854775808 ≤ n) (_ : n ≤ 9223372036854775807) (hk : Rd w B (ks.map (.int .i64))) (_ : ∀ z ∈ ks, -9223372036854775808 ≤ z ∧ z ≤ 9223372036854775807) (hkm : ks.length ≤ maxLen) :
    Calls Tryz.prog 5 #[.agg (trA t A1 c1 A2 c2 A3 c3), .int .i64 n, .slice B ks.length cb] w fun e w' => e = .returned (.bool true) ∧ Below w.heap.size w w' := by
  simp only [maxLen] at hm hkm
  obtain ⟨W, hW⟩ : ∃ W : World, W = w.alloc (.cells (trA t A1 c1 A2 c2 A3 c3) 26) := ⟨_, rfl⟩
  have hB : Below w.heap.size w W := by rw [hW]; exact (Below.refl _ _).alloc (Nat.le_refl _) _
  have kT : Blk W w.heap.size 26 (trA t A1 c1 A2 c2 A3 c3) := by rw [hW]; exact Blk.new _ _ _
  have rT := h.new hB
  have KS := szBlockTree_any t A1 c1 A2 c2 A3 c3 1048576 W rT (by omega) (by omega) (by omega) (by omega) (by omega)
  simp only [trA] at kT KS hW ⊢
  have hWs : w.heap.size < W.heap.size := kT.lt
  have z0 : W.cell? ⟨w.heap.size, 0, none⟩ = some (.slice A1 t.base.length c1) := kT.cell 0
  have z1 : W.cell? ⟨w.heap.size, 1, none⟩ = some (.slice A2 t.blocks.length c2) := kT.cell 1
  have z2 : W.cell? ⟨w.heap.size, 2, none⟩ = some (.slice A3 t.before.length c3) := kT.cell 2
  have HR := hide (fun w' (hb : Below w.heap.size w w') => h.new hb)
  have HK := hide (fun w' (hb : Below w.heap.size w w') => (hk.new hb : Rd w' B (ks.map (.int .i64))))
  clear h hk rT
  subst hW
  by_cases hkl : ks.length ≤ 1048576
  rotate_left
  · have i0 : (1048576 : Int) < (ks.length : Int) := by omega
    clear hkl
    go_enter Tryz.func5, Tryz.ntmps5
    go_wp2
    go_ret
    exact ⟨rfl, hB⟩
  have i0 : ¬ (1048576 : Int) < (ks.length : Int) := by omega
  by_cases hg : (trTot t : Int) ≤ 1048576
  rotate_left
  · rw [szL_no hg] at KS
    clear hg
    go_enter Tryz.func5, Tryz.ntmps5
    go_wp2_with fail
    refine KS.mono ?_
    rintro e w1 ⟨rfl, b1⟩
    go_wp2
    go_ret
    exact ⟨rfl, bthen hB b1⟩
  rw [szL_yes hg] at KS
  have i1 : ¬ (1048576 - (trTot t : Int) < 0) := by omega
  have htt : trTot t ≤ 1048576 := by omega
  have hl1 : t.base.length ≤ 1048576 := by unfold trTot at htt; omega
  have hl2 : t.blocks.length ≤ 1048576 := by unfold trTot at htt; omega
  have hl3 : t.before.length ≤ 1048576 := by unfold trTot at htt; omega
  have hbs0 : ∀ x ∈ t.blocks, x.list.length ≤ 1048576 := fun x hx => by have := bkTot_mem hx; unfold trTot at htt; omega
  have HBS := hide hbs0
  have HBT := hide (fun x hx => Nat.le_trans (unhide HBS x hx) (by omega) : ∀ x ∈ t.blocks, x.list.length ≤ 1099511627776)
  have HBU := hide (fun x hx => Nat.le_trans (unhide HBS x hx) (by omega) : ∀ x ∈ t.blocks, x.list.length ≤ 4611686018427387904)
  have hal := allA_len t n ks
  have HSM := hide (fun x hx => Nat.le_trans (allA_small t n ks x hx) (by omega) : ∀ x ∈ allA t n ks, x.proof.length ≤ 4611686018427387904)
  have hpt := prTot_small (allA t n ks) (allA_small t n ks)
  have HMK := hide (markTrE_le 1 t (by omega))
  have hme := markAnsE_eq 1 (allA t n ks)
  have hmeb : 1 ≤ markAnsE 1 (allA t n ks) ∧ markAnsE 1 (allA t n ks) ≤ 1000 := by omega
  clear hbs0 hm hme hpt
  go_enter Tryz.func5, Tryz.ntmps5
  go_wp2_with fail
  refine KS.mono ?_
  rintro e w1 ⟨rfl, b1⟩
  clear KS z0 z1 z2 hg
  replace hWs : w.heap.size < w1.heap.size := Nat.lt_of_lt_of_le hWs b1.size
  replace kT := kT.new_ b1
  replace hB := bthen hB b1
  have z0 : w1.cell? ⟨w.heap.size, 0, none⟩ = some _ := kT.cell 0
  have z1 : w1.cell? ⟨w.heap.size, 1, none⟩ = some _ := kT.cell 1
  have z2 : w1.cell? ⟨w.heap.size, 2, none⟩ = some _ := kT.cell 2
  have KT2 := toBlockTree_any t A1 c1 A2 c2 A3 c3 w1 (unhide HR _ hB) hl1 hl2 (unhide HBS) hl3
  simp only [trA] at KT2
  go_wp2_with fail
  refine KT2.mono ?_
  rintro e v2 ⟨B21, d21, B22, d22, B23, d23, fp2, rfl, t2, b2⟩
  clear KT2 z0 z1 z2
  have hs2 := b2.size
  replace kT := kT.new_ b2
  replace hB := bthen hB b2
  go_wp2_with fail
  refine (toIntS_any B cb ks v2 hkl (unhide HK _ hB)).mono ?_
  rintro e v3 ⟨I3, j3, rfl, oI3, b3⟩
  have hs3 := b3.size
  replace kT := kT.new_ b3
  replace t2 := t2.new b3
  replace hB := bthen hB b3
  have KA := askAll_spec t B21 d21 B22 d22 B23 d23 n I3 j3 ks v3 t2.rd (own_rd oI3) (by omega) (by omega) (unhide HBT) (by omega) (by omega)
  simp only [trA] at KA
  go_wp2_with fail
  refine KA.mono ?_
  rintro e v4 ⟨A5, c5, fpW, rfl, oW, hgeoW, b4⟩
  clear KA
  have hszv4 := b4.size
  have HGEoW := hide hgeoW
  clear hgeoW
  replace kT := kT.new_ b4
  replace t2 := t2.new b4
  replace oI3 := own_new oI3 b4
  replace hB := bthen hB b4
  have HLW := hide (oW.lt ansO_good)
  clear t2 oI3
  have z0 : v4.cell? ⟨w.heap.size, 0, none⟩ = some _ := kT.cell 0
  have z1 : v4.cell? ⟨w.heap.size, 1, none⟩ = some _ := kT.cell 1
  have z2 : v4.cell? ⟨w.heap.size, 2, none⟩ = some _ := kT.cell 2
  have KT5 := toBlockTree_any t A1 c1 A2 c2 A3 c3 v4 (unhide HR _ hB) hl1 hl2 (unhide HBS) hl3
  simp only [trA] at KT5
  go_wp2_with fail
  refine KT5.mono ?_
  rintro e v5 ⟨B51, d51, B52, d52, B53, d53, fp5, rfl, t5, b5⟩
  clear KT5 z0 z1 z2
  have hs5 := b5.size
  have HRG5 := hide t5.rng
  replace kT := kT.new_ b5
  replace oW := oW.new ansO_good b5
  replace hB := bthen hB b5
  go_wp2_with (refine wpList_store_row rfl 31 (.tmp 10) (.tmp 37) rfl v5.heap.size #[.slice B51 t.base.length d51, .slice B52 t.blocks.length d52, .slice B53 t.before.length d53] rfl rfl 31 #[.slice none 0 0, .slice none 0 0, .slice none 0 0] (box_new v5 31 #[.slice none 0 0, .slice none 0 0, .slice none 0 0] #[.slice B51 t.base.length d51, .slice B52 t.blocks.length d52, .slice B53 t.before.length d53]).1 info_tr rfl (sl_one2 _ _ _ _ _ _ _ _ _) ?_; refine at_world (C := fun W => wpList _ _ _ _ _ W) (F := fun W => Blk W v5.heap.size 31 #[.slice B51 t.base.length d51, .slice B52 t.blocks.length d52, .slice B53 t.before.length d53] ∧ Below v5.heap.size v5 W) ⟨(box_new v5 31 #[.slice none 0 0, .slice none 0 0, .slice none 0 0] #[.slice B51 t.base.length d51, .slice B52 t.blocks.length d52, .slice B53 t.before.length d53]).2.1, (box_new v5 31 #[.slice none 0 0, .slice none 0 0, .slice none 0 0] #[.slice B51 t.base.length d51, .slice B52 t.blocks.length d52, .slice B53 t.before.length d53]).2.2⟩ ?_; rintro v6 ⟨k10, b6⟩)
  obtain ⟨g10, hg10⟩ : ∃ g, g = v5.heap.size := ⟨_, rfl⟩
  rw [← hg10] at k10 ⊢
  have hsg10 := b6.size
  replace kT := kT.new_ b6
  replace oW := oW.new ansO_good b6
  replace t5 := t5.new b6
  replace hB := bthen hB b6
  have hlg10 := k10.lt
  have hqg10 : v5.heap.size ≤ g10 := by omega
  clear hg10

  refine (toIntS_any B cb ks v6 hkl (unhide HK _ hB)).mono ?_
  rintro e v7 ⟨I7, j7, rfl, oI7, b7⟩
  have hs7 := b7.size
  replace kT := kT.new_ b7
  replace oW := oW.new ansO_good b7
  replace t5 := t5.new b7
  replace k10 := k10.new_ b7
  replace hB := bthen hB b7
  have HRI := hide (own_rng oI7)
  have z0 : v7.cell? ⟨g10, 0, none⟩ = some _ := k10.cell 0
  have z1 : v7.cell? ⟨g10, 1, none⟩ = some _ := k10.cell 1
  have z2 : v7.cell? ⟨g10, 2, none⟩ = some _ := k10.cell 2
  have KA := askAll_impl t B51 d51 B52 d52 B53 d53 n I7 j7 ks v7 t5.rd (own_rd oI7) (by omega) (by omega) (unhide HBT) (by omega) (by omega)
  simp only [trA] at KA
  go_wp2_with fail
  refine KA.mono ?_
  rintro e v8 ⟨A7, c7, fpG, rfl, oG, hgeoG, b8⟩
  clear KA
  have hszv8 := b8.size
  have HGEoG := hide hgeoG
  clear hgeoG
  replace kT := kT.new_ b8
  replace oW := oW.new ansO_good b8
  replace t5 := t5.new b8
  replace k10 := k10.new_ b8
  replace oI7 := own_new oI7 b8
  replace hB := bthen hB b8
  clear z0 z1 z2
  have HLG := hide (oG.lt ansO_good)
  have KE := eqAnswerS_any A7 A5 c7 c5 (allA t n ks) (allA t n ks) v8 (fun _ => True) (fun _ => True) (oG.rd ansO_good ans_good fun _ _ => trivial) (oW.rd ansO_good ans_good fun _ _ => trivial) (by omega) (unhide HSM)
  rw [decide_eq_true rfl] at KE
  go_wp2_with fail
  refine KE.mono ?_
  rintro e v9 ⟨rfl, b9⟩
  clear KE
  have hsv9 := b9.size
  replace kT := kT.new_ b9
  replace oW := oW.new ansO_good b9
  replace t5 := t5.new b9
  replace k10 := k10.new_ b9
  replace oI7 := own_new oI7 b9
  replace oG := oG.new ansO_good b9
  replace hB := bthen hB b9
  have HX := hide (fun (w' : World) (hb : Below v9.heap.size v9 w') => show (w'.cell? ⟨g10, 0, none⟩ = some (.slice B51 t.base.length d51) ∧ w'.cell? ⟨g10, 1, none⟩ = some (.slice B52 t.blocks.length d52) ∧ w'.cell? ⟨g10, 2, none⟩ = some (.slice B53 t.before.length d53)) ∧ (w'.cell? ⟨w.heap.size, 0, none⟩ = some (.slice A1 t.base.length c1) ∧ w'.cell? ⟨w.heap.size, 1, none⟩ = some (.slice A2 t.blocks.length c2) ∧ w'.cell? ⟨w.heap.size, 2, none⟩ = some (.slice A3 t.before.length c3)) ∧ TrR w' t A1 A2 A3 from ⟨⟨(k10.new_ hb).cell 0, (k10.new_ hb).cell 1, (k10.new_ hb).cell 2⟩, ⟨(kT.new_ hb).cell 0, (kT.new_ hb).cell 1, (kT.new_ hb).cell 2⟩, unhide HR w' (bthen hB hb)⟩)
  go_wp2
  have hF : StBL [bV (.agg #[.slice B51 t.base.length d51, .slice B52 t.blocks.length d52, .slice B53 t.before.length d53]), bV (.agg #[.slice A1 t.base.length c1, .slice A2 t.blocks.length c2, .slice A3 t.before.length c3]), kTr2 t] :=
    ⟨sb_V _, sb_V _, sb_Tr2 _, trivial⟩
  go_upto_region 13 with fail
  refine wp_region_loc (by kernel_rfl) [(0, some 56), (1, some 57), (2, some 58)] [[], [], [(1, some 57)]] (by kernel_rfl)
    (locB _) (fun a b => Below a.heap.size a b) noR [0, 0, 0] 0 (by kernel_rfl) (fun _ => Below.refl _ _) (fun _ _ _ => bthen) (locB_st hF _) trivial ?_ ?_
  · refine steps_cons ?s0 ( steps_cons ?s1 ( steps_cons ?s2 steps_nil))
    case s0 =>
      intro w' m' hE hR
      intro Q hQ
      obtain ⟨⟨y0, y1, y2⟩, ⟨z0, z1, z2⟩, y3⟩ := unhide HX w' (below_undrew hE)
      go_wp2
      exact hQ _ _ _ rfl rfl (Below.refl _ _) trivial
    case s1 =>
      intro w' m' hE hR
      intro Q hQ
      obtain ⟨⟨y0, y1, y2⟩, ⟨z0, z1, z2⟩, y3⟩ := unhide HX w' (below_undrew hE)
      go_wp2
      exact hQ _ _ _ rfl rfl (Below.refl _ _) trivial
    case s2 =>
      intro w' m' hE hR
      rintro _ rfl Q hQ
      obtain ⟨⟨y0, y1, y2⟩, ⟨z0, z1, z2⟩, y3⟩ := unhide HX w' (below_undrew hE)
      have KT := toBlockTree_any t A1 c1 A2 c2 A3 c3 w' y3 hl1 hl2 (unhide HBS) hl3
      simp only [trA] at KT
      go_wp2_with fail
      refine KT.mono ?_
      rintro e w1 ⟨B61, d61, B62, d62, B63, d63, fp6, rfl, t6, b6⟩
      go_wp2
      exact hQ _ _ _ rfl ⟨_, _, _, _, _, _, rfl, t6.rd⟩ b6 trivial
  intro v10 hE _
  rintro v0 hv0 v1 - v2 ⟨B61, d61, B62, d62, B63, d63, rfl, t6⟩
  obtain rfl : v0 = _ := hv0
  change wpList _ _ _ [_, _] _ _
  simp only [Act.put, List.setIfInBounds_toArray, List.set_cons_succ, List.set_cons_zero]
  have b10 := below_undrew hE
  clear hE hF HX
  simp only [trA]
  replace kT := kT.new_ b10
  replace oW := oW.new ansO_good b10
  replace t5 := t5.new b10
  replace k10 := k10.new_ b10
  replace oI7 := own_new oI7 b10
  replace oG := oG.new ansO_good b10
  replace hB := bthen hB b10
  have KE := eqBlockTree_any t t B51 d51 B52 d52 B53 d53 B61 d61 B62 d62 B63 d63 v10 t5.rd t6 (by omega) (by omega) (unhide HBU) (by omega)
  rw [decide_eq_true rfl] at KE
  simp only [trA] at KE
  have hs10 := b10.size
  go_wp2_with fail
  refine KE.mono ?_
  rintro e v11 ⟨rfl, b11⟩
  clear KE t6
  have hs11 := b11.size
  replace kT := kT.new_ b11
  replace oW := oW.new ansO_good b11
  replace t5 := t5.new b11
  replace k10 := k10.new_ b11
  replace oI7 := own_new oI7 b11
  replace oG := oG.new ansO_good b11
  replace hB := bthen hB b11
  go_wp2_with fail
  refine (toIntS_any B cb ks v11 hkl (unhide HK _ hB)).mono ?_
  rintro e v12 ⟨I12, j12, rfl, oI12, b12⟩
  have hs12 := b12.size
  replace kT := kT.new_ b12
  replace oW := oW.new ansO_good b12
  replace t5 := t5.new b12
  replace k10 := k10.new_ b12
  replace oI7 := own_new oI7 b12
  replace oG := oG.new ansO_good b12
  replace hB := bthen hB b12
  go_wp2_with fail
  have KE := eqIntS_any I7 I12 j7 j12 ks ks v12 (own_rd oI7) (own_rd oI12) (by omega)
  rw [decide_eq_true rfl] at KE
  refine KE.mono ?_
  rintro e v21 ⟨rfl, m21, hm21⟩
  have b21 := below_of_drewN hm21
  have hs21 := b21.size
  clear KE hm21
  clear oI12
  replace kT := kT.new_ b21
  replace oW := oW.new ansO_good b21
  replace t5 := t5.new b21
  replace k10 := k10.new_ b21
  replace oI7 := own_new oI7 b21
  replace oG := oG.new ansO_good b21
  replace hB := bthen hB b21
  have z0 : v21.cell? ⟨g10, 0, none⟩ = some _ := k10.cell 0
  have z1 : v21.cell? ⟨g10, 1, none⟩ = some _ := k10.cell 1
  have z2 : v21.cell? ⟨g10, 2, none⟩ = some _ := k10.cell 2
  go_wp2_with fail
  have KM := markBlockTree_any t B51 d51 B52 d52 B53 d53 fp5 v4.heap.size 1 v21 t5 (by omega) (by omega) (by omega)
  simp only [trA] at KM
  refine KM.mono ?_
  rintro e v13 ⟨rfl, t5m, ch13⟩
  clear KM z0 z1 z2 t5m
  have hs13 := ch13.size
  clear t5
  have hmk : 0 ≤ markTrE 1 t ∧ markTrE 1 t ≤ 10000000 := by have := unhide HMK; omega
  generalize markTrE 1 t = mk at *
  clear HMK
  have bw13 := ch13.below (B := w.heap.size) (fun q hq e => by have := unhide HRG5 q e; omega) hB.size
  replace hB := bthen2' hB bw13
  clear bw13
  replace kT := kT.chg ch13 (fun e => by have := unhide HRG5 _ e; omega)
  replace oW := oW.keep ansO_good (fun q hq hqw => ch13.block q hqw (fun e => by have := unhide HLW q hq; have := unhide HRG5 _ e; omega))
  replace k10 := k10.chg ch13 (fun e => by have := unhide HRG5 _ e; omega)
  replace oI7 := own_chg oI7 ch13 (fun q hq e => by have := unhide HRI q hq; have := unhide HRG5 _ e; omega)
  replace oG := oG.keep ansO_good (fun q hq hqw => ch13.block q hqw (fun e => by have := unhide HGEoG q hq; have := unhide HRG5 _ e; omega))
  clear ch13
  have hkk : ¬ mk + (ks.length : Int) < 0 := by omega
  go_wp2_with fail
  refine (markIntS_any I7 j7 v6.heap.size mk ks v13 oI7 (by omega) (by omega) (by omega)).mono ?_
  rintro e v14 ⟨rfl, oI7m, ch14⟩
  clear oI7m
  have hs14 := ch14.size
  clear oI7
  have bw14 := ch14.below (B := w.heap.size) (fun q hq e => by have := unhide HRI q e; omega) hB.size
  replace hB := bthen2' hB bw14
  clear bw14
  replace kT := kT.chg ch14 (fun e => by have := unhide HRI _ e; omega)
  replace oW := oW.keep ansO_good (fun q hq hqw => ch14.block q hqw (fun e => by have := unhide HLW q hq; have := unhide HRI _ e; omega))
  replace k10 := k10.chg ch14 (fun e => by have := unhide HRI _ e; omega)
  replace oG := oG.keep ansO_good (fun q hq hqw => ch14.block q hqw (fun e => by have := unhide HGEoG q hq; have := unhide HRI _ e; omega))
  clear ch14
  have KE := eqAnswerS_any A7 A5 c7 c5 (allA t n ks) (allA t n ks) v14 (fun _ => True) (fun _ => True) (oG.rd ansO_good ans_good fun _ _ => trivial) (oW.rd ansO_good ans_good fun _ _ => trivial) (by omega) (unhide HSM)
  rw [decide_eq_true rfl] at KE
  go_wp2_with fail
  refine KE.mono ?_
  rintro e v15 ⟨rfl, b15⟩
  clear KE
  have hsv15 := b15.size
  replace kT := kT.new_ b15
  replace oW := oW.new ansO_good b15
  replace k10 := k10.new_ b15
  replace oG := oG.new ansO_good b15
  replace hB := bthen hB b15
  go_wp2_with fail
  refine (markAnswerS_any A7 c7 1 (allA t n ks) fpG v15 oG (by omega) (by omega)).mono ?_
  rintro e v16 ⟨rfl, oM, ch16⟩
  have hs16 := ch16.size
  clear oG
  have bw16 := ch16.below (B := w.heap.size) (fun q hq e => by have := unhide HGEoG q e; omega) hB.size
  replace hB := bthen2' hB bw16
  clear bw16
  replace kT := kT.chg ch16 (fun e => by have := unhide HGEoG _ e; omega)
  replace oW := oW.keep ansO_good (fun q hq hqw => ch16.block q hqw (fun e => by have := unhide HLW q hq; have := unhide HGEoG _ e; omega))
  replace k10 := k10.chg ch16 (fun e => by have := unhide HGEoG _ e; omega)
  clear ch16
  have hmm : ¬ markAnsE 1 (allA t n ks) < 0 := by omega
  go_wp2_with fail
  refine (heldAnswerS_any A7 c7 1 (allA t n ks) (fun _ => True) v16 (oM.rd ansO_good ans_good fun _ _ => trivial) (by omega) (by omega)).mono ?_
  rintro e w' ⟨rfl, rfl⟩
  have z0 : v16.cell? ⟨w.heap.size, 0, none⟩ = some _ := kT.cell 0
  have z1 : v16.cell? ⟨w.heap.size, 1, none⟩ = some _ := kT.cell 1
  have z2 : v16.cell? ⟨w.heap.size, 2, none⟩ = some _ := kT.cell 2
  have KT17 := toBlockTree_any t A1 c1 A2 c2 A3 c3 v16 (unhide HR _ hB) hl1 hl2 (unhide HBS) hl3
  simp only [trA] at KT17
  go_wp2_with fail
  refine KT17.mono ?_
  rintro e v17 ⟨B171, d171, B172, d172, B173, d173, fp17, rfl, t17, b17⟩
  clear KT17 z0 z1 z2
  have hs17 := b17.size
  replace kT := kT.new_ b17
  replace oW := oW.new ansO_good b17
  replace k10 := k10.new_ b17
  replace oM := oM.new ansO_good b17
  replace hB := bthen hB b17
  go_wp2_with fail
  refine (toIntS_any B cb ks v17 hkl (unhide HK _ hB)).mono ?_
  rintro e v18 ⟨I18, j18, rfl, oI18, b18⟩
  have hs18 := b18.size
  replace kT := kT.new_ b18
  replace oW := oW.new ansO_good b18
  replace k10 := k10.new_ b18
  replace oM := oM.new ansO_good b18
  replace t17 := t17.new b18
  replace hB := bthen hB b18
  have KA := askAll_impl t B171 d171 B172 d172 B173 d173 n I18 j18 ks v18 t17.rd (own_rd oI18) (by omega) (by omega) (unhide HBT) (by omega) (by omega)
  simp only [trA] at KA
  go_wp2_with fail
  refine KA.mono ?_
  rintro e v19 ⟨A8, c8, fpH, rfl, oH, hgeoH, b19⟩
  clear KA
  have hszv19 := b19.size
  have HGEoH := hide hgeoH
  clear hgeoH
  replace kT := kT.new_ b19
  replace oW := oW.new ansO_good b19
  replace k10 := k10.new_ b19
  replace oM := oM.new ansO_good b19
  replace t17 := t17.new b19
  replace oI18 := own_new oI18 b19
  replace hB := bthen hB b19
  have KE := eqAnswerS_any A8 A5 c8 c5 (allA t n ks) (allA t n ks) v19 (fun _ => True) (fun _ => True) (oH.rd ansO_good ans_good fun _ _ => trivial) (oW.rd ansO_good ans_good fun _ _ => trivial) (by omega) (unhide HSM)
  rw [decide_eq_true rfl] at KE
  go_wp2_with fail
  refine KE.mono ?_
  rintro e v20 ⟨rfl, b20⟩
  clear KE
  have hsv20 := b20.size
  replace kT := kT.new_ b20
  replace oW := oW.new ansO_good b20
  replace k10 := k10.new_ b20
  replace oM := oM.new ansO_good b20
  replace t17 := t17.new b20
  replace oI18 := own_new oI18 b20
  replace oH := oH.new ansO_good b20
  replace hB := bthen hB b20
  go_wp2_with fail
  refine (heldAnswerS_any A7 c7 1 (allA t n ks) (fun _ => True) v20 (oM.rd ansO_good ans_good fun _ _ => trivial) (by omega) (by omega)).mono ?_
  rintro e w' ⟨rfl, rfl⟩
  go_wp2
  go_ret
  exact ⟨rfl, hB⟩
end Go.Proofs.YtmpdopjailomlaaGreat
