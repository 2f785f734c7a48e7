/- The law FnExactAskBlock (printed by gen_in.py from xlawask.in). -/
import Derived.Test.YtmpdopjailomlaaGreatGtree
import Derived.Test.YtmpdopjailomlaaGreatBTreeS
import Derived.Test.YtmpdopjailomlaaGreatTr
import Derived.Test.YtmpdopjailomlaaGreatIntS
import Derived.Test.YtmpdopjailomlaaGreatLocB
namespace Go.Proofs.YtmpdopjailomlaaGreat
open Go.RowKit
set_option linter.unusedVariables false
set_option linter.unusedSimpArgs false
attribute [local go_sem ↓] Go.wp_at_zero Go.wp_at_succ

/-- a variable of more cells that is laid and stored into -/
theorem box_new (w : World) (t : TypeId) (z cs : Array Value) : Blk (w.alloc (.cells z t)) w.heap.size t z ∧ Blk ((w.alloc (.cells z t)).setRow w.heap.size cs) w.heap.size t cs ∧ Below w.heap.size w ((w.alloc (.cells z t)).setRow w.heap.size cs) := by
  have h1 : Blk (w.alloc (.cells z t)) w.heap.size t z := Blk.new _ _ _
  exact ⟨h1, blk_setRow h1, below_setRow ((Below.refl _ _).alloc (Nat.le_refl _) _) (Nat.le_refl _) _⟩
theorem sl_one (A B C : Option Addr) (n m k c d e : Nat) : (#[Value.slice A n c, .slice B m d, .slice C k e]).all (·.oneCell') = true := by
  rw [Array.all_eq_true_iff_forall_mem]
  intro x hx
  simp at hx
  rcases hx with rfl | rfl | rfl <;> rfl
theorem bthen' {B : Nat} {a b c : World} (h1 : Below B a b) (h2 : Below B b c) : Below B a c := h1.trans h2
/-- a tree by value that is read -/
def kTr (t : Tr) (v : Value) (w : World) : Prop := ∃ A1 c1 A2 c2 A3 c3, v = .agg (trA t A1 c1 A2 c2 A3 c3) ∧ TrR w t A1 A2 A3
theorem sb_Tr (t : Tr) : StB (kTr t) := fun _ _ _ hb ⟨A1, c1, A2, c2, A3, c3, h1, h2⟩ => ⟨A1, c1, A2, c2, A3, c3, h1, h2.new hb⟩
/-- the marking of a proof -/
theorem markAnswer_any (x : Ans) (A : Option Addr) (c base : Nat) (k0 : Int) (w : World) (hown : w.ownsRow base 3 1 (.slice A x.proof.length c) x.proof.length (x.proof.map (.int .i64))) (hb : x.proof.length ≤ 1000) (h0 : 0 ≤ k0) (h1 : k0 ≤ 100) :
    Calls Tryz.prog 17 #[.agg #[.int .i64 x.key, .int .i64 x.value, .slice A x.proof.length c], .int .i64 k0] w fun e w' => e = .returned (.int .i64 (k0 + x.proof.length)) ∧ w'.ownsRow base 3 1 (.slice A x.proof.length c) x.proof.length ((iota k0 x.proof.length).map (.int .i64)) ∧ Chg (fun g => A = some ⟨g, 0, none⟩) w w' := by
  have b0 : Below w.heap.size w (w.alloc (.cells #[.int .i64 x.key, .int .i64 x.value, .slice A x.proof.length c] 39)) := (Below.refl _ _).alloc (Nat.le_refl _) _
  have z2 : (w.alloc (.cells #[.int .i64 x.key, .int .i64 x.value, .slice A x.proof.length c] 39)).cell? ⟨w.heap.size, 2, none⟩ = some (.slice A x.proof.length c) := (Blk.new w 39 #[.int .i64 x.key, .int .i64 x.value, .slice A x.proof.length c]).cell 2
  go_enter Tryz.func17, Tryz.ntmps17
  go_wp2_with fail
  refine (markIntS_any A c base k0 x.proof _ (own_new hown b0) (by omega) h0 (by omega)).mono ?_
  rintro e w1 ⟨rfl, o1, c1⟩
  go_wp2
  go_ret
  exact ⟨rfl, o1, (Chg.of_new b0).trans c1⟩
theorem heldAnswer_any (x : Ans) (A : Option Addr) (c : Nat) (k0 : Int) (w : World) (hr : Rd w A ((iota k0 x.proof.length).map (.int .i64))) (hb : x.proof.length ≤ 1000) (h0 : 0 ≤ k0) (h1 : k0 ≤ 100) :
    Calls Tryz.prog 18 #[.agg #[.int .i64 x.key, .int .i64 x.value, .slice A x.proof.length c], .int .i64 k0] w fun e w' => e = .returned (.int .i64 (k0 + x.proof.length)) ∧ Below w.heap.size w w' := by
  have b0 : Below w.heap.size w (w.alloc (.cells #[.int .i64 x.key, .int .i64 x.value, .slice A x.proof.length c] 39)) := (Below.refl _ _).alloc (Nat.le_refl _) _
  have z2 : (w.alloc (.cells #[.int .i64 x.key, .int .i64 x.value, .slice A x.proof.length c] 39)).cell? ⟨w.heap.size, 2, none⟩ = some (.slice A x.proof.length c) := (Blk.new w 39 #[.int .i64 x.key, .int .i64 x.value, .slice A x.proof.length c]).cell 2
  go_enter Tryz.func18, Tryz.ntmps18
  go_wp2_with fail
  refine (heldIntS_any A c x.proof.length k0 _ (hr.new b0) (by omega) h0 (by omega)).mono ?_
  rintro e w1 ⟨rfl, rfl⟩
  have hn : ¬ k0 + (x.proof.length : Int) < 0 := by omega
  go_wp2
  go_ret
  exact ⟨rfl, b0⟩
set_option maxRecDepth 100000 in
set_option maxHeartbeats 8000000 in
theorem law_FnExactAskBlock (t : Tr) (A1 : Option Addr) (c1 : Nat) (A2 : Option Addr) (c2 : Nat) (A3 : Option Addr) (c3 : Nat) (n key : Int) (w : World) (h : TrR w t A1 A2 A3) (hm : t.base.length ≤ maxLen ∧ t.blocks.length ≤ maxLen ∧ t.before.length ≤ maxLen) (_ : -9223372036854775808 ≤ n) (_ : n ≤ 9223372036854775807) (_ : -9223372036854775808 ≤ key) (_ : key ≤ 9223372036854775807) :
    Calls Tryz.prog 4 #[.agg (trA t A1 c1 A2 c2 A3 c3), .int .i64 n, .int .i64 key] w fun e w' => e = .returned (.bool true) ∧ Below w.heap.size w w' := by
  simp only [maxLen] at hm
  obtain ⟨W, hW⟩ : ∃ W : World, W = w.alloc (.cells (trA t A1 c1 A2 c2 A3 c3) 26) := ⟨_, rfl⟩
  have hB : Below w.heap.size w W := by rw [hW]; exact (Below.refl _ _).alloc (Nat.le_refl _) _
  have kT : Blk W w.heap.size 26 (trA t A1 c1 A2 c2 A3 c3) := by rw [hW]; exact Blk.new _ _ _
  have rT := h.new hB
  have KS := szBlockTree_any t A1 c1 A2 c2 A3 c3 1048576 W rT (by omega) (by omega) (by omega) (by omega) (by omega)
  simp only [trA] at kT KS hW ⊢
  have hWs : w.heap.size < W.heap.size := kT.lt
  have z0 : W.cell? ⟨w.heap.size, 0, none⟩ = some (.slice A1 t.base.length c1) := kT.cell 0
  have z1 : W.cell? ⟨w.heap.size, 1, none⟩ = some (.slice A2 t.blocks.length c2) := kT.cell 1
  have z2 : W.cell? ⟨w.heap.size, 2, none⟩ = some (.slice A3 t.before.length c3) := kT.cell 2
  have HR := hide (fun w' (hb : Below w.heap.size w w') => h.new hb)
  clear h
  subst hW
  by_cases hg : (trTot t : Int) ≤ 1048576
  rotate_left
  · rw [szL_no hg] at KS
    clear hg
    go_enter Tryz.func4, Tryz.ntmps4
    go_wp2_with fail
    refine KS.mono ?_
    rintro e w1 ⟨rfl, b1⟩
    go_wp2
    go_ret
    exact ⟨rfl, bthen hB b1⟩
  rw [szL_yes hg] at KS
  have i1 : ¬ (1048576 - (trTot t : Int) < 0) := by omega
  have htt : trTot t ≤ 1048576 := by omega
  have hl1 : t.base.length ≤ 1048576 := by unfold trTot at htt; omega
  have hl2 : t.blocks.length ≤ 1048576 := by unfold trTot at htt; omega
  have hl3 : t.before.length ≤ 1048576 := by unfold trTot at htt; omega
  have hbs0 : ∀ x ∈ t.blocks, x.list.length ≤ 1048576 := fun x hx => by have := bkTot_mem hx; unfold trTot at htt; omega
  have HBS := hide hbs0
  have HBT := hide (fun x hx => Nat.le_trans (unhide HBS x hx) (by omega) : ∀ x ∈ t.blocks, x.list.length ≤ 1099511627776)
  have HBU := hide (fun x hx => Nat.le_trans (unhide HBS x hx) (by omega) : ∀ x ∈ t.blocks, x.list.length ≤ 4611686018427387904)
  have hpl := askA_len t n key
  have HMK := hide (markTrE_le 1 t (by omega))
  clear hbs0 hm
  go_enter Tryz.func4, Tryz.ntmps4
  go_wp2_with fail
  refine KS.mono ?_
  rintro e w1 ⟨rfl, b1⟩
  clear KS z0 z1 z2 hg
  clear rT
  replace hWs : w.heap.size < w1.heap.size := Nat.lt_of_lt_of_le hWs b1.size
  replace kT := kT.new_ b1
  replace hB := bthen hB b1
  have z0 : w1.cell? ⟨w.heap.size, 0, none⟩ = some _ := kT.cell 0
  have z1 : w1.cell? ⟨w.heap.size, 1, none⟩ = some _ := kT.cell 1
  have z2 : w1.cell? ⟨w.heap.size, 2, none⟩ = some _ := kT.cell 2
  have KT2 := toBlockTree_any t A1 c1 A2 c2 A3 c3 w1 (unhide HR _ hB) hl1 hl2 (unhide HBS) hl3
  simp only [trA] at KT2
  go_wp2_with fail
  refine KT2.mono ?_
  rintro e v2 ⟨B21, d21, B22, d22, B23, d23, fp2, rfl, t2, b2⟩
  clear KT2 z0 z1 z2
  have hs2 := b2.size
  replace kT := kT.new_ b2
  replace hB := bthen hB b2
  have KA3 := ask_spec t B21 d21 B22 d22 B23 d23 n key v2 t2.rd (by omega) (by omega) (unhide HBT) (by omega)
  simp only [trA] at KA3
  go_wp2_with fail
  refine KA3.mono ?_
  rintro e v3 ⟨A5, c5, rfl, oW, b3⟩
  clear KA3
  have hz3 := b3.size
  have HRW := hide (own_rng oW)
  replace kT := kT.new_ b3
  replace t2 := t2.new b3
  replace hB := bthen hB b3
  go_wp2_with (refine wpList_store_row rfl 39 (.tmp 8) (.tmp 29) rfl v3.heap.size #[.int .i64 (askA t n key).key, .int .i64 (askA t n key).value, .slice A5 (askA t n key).proof.length c5] rfl rfl 39 #[.int .i64 0, .int .i64 0, .slice none 0 0] (box_new v3 39 #[.int .i64 0, .int .i64 0, .slice none 0 0] #[.int .i64 (askA t n key).key, .int .i64 (askA t n key).value, .slice A5 (askA t n key).proof.length c5]).1 info_ans3 rfl (ans_one _ _ _ _ _) ?_; refine at_world (C := fun W => wpList _ _ _ _ _ W) (F := fun W => Blk W v3.heap.size 39 #[.int .i64 (askA t n key).key, .int .i64 (askA t n key).value, .slice A5 (askA t n key).proof.length c5] ∧ Below v3.heap.size v3 W) ⟨(box_new v3 39 #[.int .i64 0, .int .i64 0, .slice none 0 0] #[.int .i64 (askA t n key).key, .int .i64 (askA t n key).value, .slice A5 (askA t n key).proof.length c5]).2.1, (box_new v3 39 #[.int .i64 0, .int .i64 0, .slice none 0 0] #[.int .i64 (askA t n key).key, .int .i64 (askA t n key).value, .slice A5 (askA t n key).proof.length c5]).2.2⟩ ?_; rintro v4 ⟨k8, b4⟩; have z0 : v4.cell? ⟨w.heap.size, 0, none⟩ = some (.slice A1 t.base.length c1) := (kT.new_ b4).cell 0; have z1 : v4.cell? ⟨w.heap.size, 1, none⟩ = some (.slice A2 t.blocks.length c2) := (kT.new_ b4).cell 1; have z2 : v4.cell? ⟨w.heap.size, 2, none⟩ = some (.slice A3 t.before.length c3) := (kT.new_ b4).cell 2)
  obtain ⟨g8, hg8⟩ : ∃ g, g = v3.heap.size := ⟨_, rfl⟩
  rw [← hg8] at k8 ⊢
  have hsg8 := b4.size
  replace kT := kT.new_ b4
  replace t2 := t2.new b4
  replace oW := own_new oW b4
  replace hB := bthen hB b4
  have hlg8 := k8.lt
  have hqg8 : v3.heap.size ≤ g8 := by omega
  clear hg8
  have KT5 := toBlockTree_any t A1 c1 A2 c2 A3 c3 v4 (unhide HR _ hB) hl1 hl2 (unhide HBS) hl3
  simp only [trA] at KT5
  refine KT5.mono ?_
  rintro e v5 ⟨B51, d51, B52, d52, B53, d53, fp5, rfl, t5, b5⟩
  clear KT5 z0 z1 z2
  have hs5 := b5.size
  have HRG5 := hide t5.rng
  replace kT := kT.new_ b5
  replace t2 := t2.new b5
  replace oW := own_new oW b5
  replace k8 := k8.new_ b5
  replace hB := bthen hB b5
  go_wp2_with (refine wpList_store_row rfl 31 (.tmp 10) (.tmp 32) rfl v5.heap.size #[.slice B51 t.base.length d51, .slice B52 t.blocks.length d52, .slice B53 t.before.length d53] rfl rfl 31 #[.slice none 0 0, .slice none 0 0, .slice none 0 0] (box_new v5 31 #[.slice none 0 0, .slice none 0 0, .slice none 0 0] #[.slice B51 t.base.length d51, .slice B52 t.blocks.length d52, .slice B53 t.before.length d53]).1 info_tr rfl (sl_one _ _ _ _ _ _ _ _ _) ?_; refine at_world (C := fun W => wpList _ _ _ _ _ W) (F := fun W => Blk W v5.heap.size 31 #[.slice B51 t.base.length d51, .slice B52 t.blocks.length d52, .slice B53 t.before.length d53] ∧ Below v5.heap.size v5 W) ⟨(box_new v5 31 #[.slice none 0 0, .slice none 0 0, .slice none 0 0] #[.slice B51 t.base.length d51, .slice B52 t.blocks.length d52, .slice B53 t.before.length d53]).2.1, (box_new v5 31 #[.slice none 0 0, .slice none 0 0, .slice none 0 0] #[.slice B51 t.base.length d51, .slice B52 t.blocks.length d52, .slice B53 t.before.length d53]).2.2⟩ ?_; rintro v6 ⟨k10, b6⟩; have z0 : v6.cell? ⟨v5.heap.size, 0, none⟩ = some (.slice B51 t.base.length d51) := k10.cell 0; have z1 : v6.cell? ⟨v5.heap.size, 1, none⟩ = some (.slice B52 t.blocks.length d52) := k10.cell 1; have z2 : v6.cell? ⟨v5.heap.size, 2, none⟩ = some (.slice B53 t.before.length d53) := k10.cell 2)
  obtain ⟨g10, hg10⟩ : ∃ g, g = v5.heap.size := ⟨_, rfl⟩
  rw [← hg10] at k10 ⊢ z0 z1 z2
  have hsg10 := b6.size
  replace kT := kT.new_ b6
  replace t2 := t2.new b6
  replace oW := own_new oW b6
  replace k8 := k8.new_ b6
  replace t5 := t5.new b6
  replace hB := bthen hB b6
  have hlg10 := k10.lt
  have hqg10 : v5.heap.size ≤ g10 := by omega
  clear hg10
  have KA7 := ask_impl t B51 d51 B52 d52 B53 d53 n key v6 t5.rd (by omega) (by omega) (unhide HBT) (by omega)
  simp only [trA] at KA7
  refine KA7.mono ?_
  rintro e v7 ⟨A7, c7, rfl, oG, b7⟩
  clear KA7 z0 z1 z2
  have hs7 := b7.size
  have HRGG := hide (own_rng oG)
  replace kT := kT.new_ b7
  replace t2 := t2.new b7
  replace oW := own_new oW b7
  replace k8 := k8.new_ b7
  replace t5 := t5.new b7
  replace k10 := k10.new_ b7
  replace hB := bthen hB b7
  go_wp2_with (refine wpList_store_row rfl 39 (.tmp 11) (.tmp 38) rfl v7.heap.size #[.int .i64 (askA t n key).key, .int .i64 (askA t n key).value, .slice A7 (askA t n key).proof.length c7] rfl rfl 39 #[.int .i64 0, .int .i64 0, .slice none 0 0] (box_new v7 39 #[.int .i64 0, .int .i64 0, .slice none 0 0] #[.int .i64 (askA t n key).key, .int .i64 (askA t n key).value, .slice A7 (askA t n key).proof.length c7]).1 info_ans3 rfl (ans_one _ _ _ _ _) ?_; refine at_world (C := fun W => wpList _ _ _ _ _ W) (F := fun W => Blk W v7.heap.size 39 #[.int .i64 (askA t n key).key, .int .i64 (askA t n key).value, .slice A7 (askA t n key).proof.length c7] ∧ Below v7.heap.size v7 W) ⟨(box_new v7 39 #[.int .i64 0, .int .i64 0, .slice none 0 0] #[.int .i64 (askA t n key).key, .int .i64 (askA t n key).value, .slice A7 (askA t n key).proof.length c7]).2.1, (box_new v7 39 #[.int .i64 0, .int .i64 0, .slice none 0 0] #[.int .i64 (askA t n key).key, .int .i64 (askA t n key).value, .slice A7 (askA t n key).proof.length c7]).2.2⟩ ?_; rintro v8 ⟨k11, b8⟩; have z0 : v8.cell? ⟨v7.heap.size, 0, none⟩ = some (.int .i64 (askA t n key).key) := k11.cell 0; have z1 : v8.cell? ⟨v7.heap.size, 1, none⟩ = some (.int .i64 (askA t n key).value) := k11.cell 1; have z2 : v8.cell? ⟨v7.heap.size, 2, none⟩ = some (.slice A7 (askA t n key).proof.length c7) := k11.cell 2; have y0 : v8.cell? ⟨g8, 0, none⟩ = some (.int .i64 (askA t n key).key) := (k8.new_ b8).cell 0; have y1 : v8.cell? ⟨g8, 1, none⟩ = some (.int .i64 (askA t n key).value) := (k8.new_ b8).cell 1; have y2 : v8.cell? ⟨g8, 2, none⟩ = some (.slice A5 (askA t n key).proof.length c5) := (k8.new_ b8).cell 2)
  obtain ⟨g11, hg11⟩ : ∃ g, g = v7.heap.size := ⟨_, rfl⟩
  rw [← hg11] at k11 ⊢ z0 z1 z2
  have hsg11 := b8.size
  replace kT := kT.new_ b8
  replace t2 := t2.new b8
  replace oW := own_new oW b8
  replace k8 := k8.new_ b8
  replace t5 := t5.new b8
  replace k10 := k10.new_ b8
  replace oG := own_new oG b8
  replace hB := bthen hB b8
  have hlg11 := k11.lt
  have hqg11 : v7.heap.size ≤ g11 := by omega
  clear hg11
  clear z0 z1 z2 y0 y1 y2
  have KE := eqAnswer_any (askA t n key) (askA t n key) A7 c7 A5 c5 v8 (own_rd oG) (own_rd oW) (by omega)
  rw [decide_eq_true rfl] at KE
  refine KE.mono ?_
  rintro e v9 ⟨rfl, b9⟩
  clear KE
  have hsv9 := b9.size
  replace kT := kT.new_ b9
  replace t2 := t2.new b9
  replace oW := own_new oW b9
  replace k8 := k8.new_ b9
  replace t5 := t5.new b9
  replace k10 := k10.new_ b9
  replace oG := own_new oG b9
  replace k11 := k11.new_ b9
  replace hB := bthen hB b9
  have HX := hide (fun (w' : World) (hb : Below v9.heap.size v9 w') => show (w'.cell? ⟨g10, 0, none⟩ = some (.slice B51 t.base.length d51) ∧ w'.cell? ⟨g10, 1, none⟩ = some (.slice B52 t.blocks.length d52) ∧ w'.cell? ⟨g10, 2, none⟩ = some (.slice B53 t.before.length d53)) ∧ (w'.cell? ⟨w.heap.size, 0, none⟩ = some (.slice A1 t.base.length c1) ∧ w'.cell? ⟨w.heap.size, 1, none⟩ = some (.slice A2 t.blocks.length c2) ∧ w'.cell? ⟨w.heap.size, 2, none⟩ = some (.slice A3 t.before.length c3)) ∧ TrR w' t A1 A2 A3 from ⟨⟨(k10.new_ hb).cell 0, (k10.new_ hb).cell 1, (k10.new_ hb).cell 2⟩, ⟨(kT.new_ hb).cell 0, (kT.new_ hb).cell 1, (kT.new_ hb).cell 2⟩, unhide HR w' (bthen hB hb)⟩)
  go_wp2
  have hF : StBL [bV (.agg #[.slice B51 t.base.length d51, .slice B52 t.blocks.length d52, .slice B53 t.before.length d53]), bV (.agg #[.slice A1 t.base.length c1, .slice A2 t.blocks.length c2, .slice A3 t.before.length c3]), kTr t] :=
    ⟨sb_V _, sb_V _, sb_Tr _, trivial⟩
  go_upto_region 10 with fail
  refine wp_region_loc (by kernel_rfl) [(0, some 49), (1, some 50), (2, some 51)] [[], [], [(1, some 50)]] (by kernel_rfl)
    (locB _) (fun a b => Below a.heap.size a b) noR [0, 0, 0] 0 (by kernel_rfl) (fun _ => Below.refl _ _) (fun _ _ _ => bthen) (locB_st hF _) trivial ?_ ?_
  · refine steps_cons ?s0 ( steps_cons ?s1 ( steps_cons ?s2 steps_nil))
    case s0 =>
      intro w' m' hE hR
      intro Q hQ
      obtain ⟨⟨y0, y1, y2⟩, ⟨z0, z1, z2⟩, y3⟩ := unhide HX w' (below_undrew hE)
      go_wp2
      exact hQ _ _ _ rfl rfl (Below.refl _ _) trivial
    case s1 =>
      intro w' m' hE hR
      intro Q hQ
      obtain ⟨⟨y0, y1, y2⟩, ⟨z0, z1, z2⟩, y3⟩ := unhide HX w' (below_undrew hE)
      go_wp2
      exact hQ _ _ _ rfl rfl (Below.refl _ _) trivial
    case s2 =>
      intro w' m' hE hR
      rintro _ rfl Q hQ
      obtain ⟨⟨y0, y1, y2⟩, ⟨z0, z1, z2⟩, y3⟩ := unhide HX w' (below_undrew hE)
      have KT := toBlockTree_any t A1 c1 A2 c2 A3 c3 w' y3 hl1 hl2 (unhide HBS) hl3
      simp only [trA] at KT
      go_wp2_with fail
      refine KT.mono ?_
      rintro e w1 ⟨B61, d61, B62, d62, B63, d63, fp6, rfl, t6, b6⟩
      go_wp2
      exact hQ _ _ _ rfl ⟨_, _, _, _, _, _, rfl, t6.rd⟩ b6 trivial
  intro v10 hE _
  rintro v0 hv0 v1 - v2 ⟨B61, d61, B62, d62, B63, d63, rfl, t6⟩
  obtain rfl : v0 = _ := hv0
  change wpList _ _ _ [_, _] _ _
  simp only [Act.put, List.setIfInBounds_toArray, List.set_cons_succ, List.set_cons_zero]
  have b10 := below_undrew hE
  clear hE hF HX
  simp only [trA]
  replace kT := kT.new_ b10
  replace t2 := t2.new b10
  replace oW := own_new oW b10
  replace k8 := k8.new_ b10
  replace t5 := t5.new b10
  replace k10 := k10.new_ b10
  replace oG := own_new oG b10
  replace k11 := k11.new_ b10
  replace hB := bthen hB b10
  have KE := eqBlockTree_any t t B51 d51 B52 d52 B53 d53 B61 d61 B62 d62 B63 d63 v10 t5.rd t6 (by omega) (by omega) (unhide HBU) (by omega)
  rw [decide_eq_true rfl] at KE
  simp only [trA] at KE
  have hs10 := b10.size
  go_wp2_with fail
  refine KE.mono ?_
  rintro e v11 ⟨rfl, b11⟩
  clear KE t6
  have hs11 := b11.size
  replace kT := kT.new_ b11
  replace t2 := t2.new b11
  replace oW := own_new oW b11
  replace k8 := k8.new_ b11
  replace t5 := t5.new b11
  replace k10 := k10.new_ b11
  replace oG := own_new oG b11
  replace k11 := k11.new_ b11
  replace hB := bthen hB b11
  have z0 : v11.cell? ⟨g10, 0, none⟩ = some _ := k10.cell 0
  have z1 : v11.cell? ⟨g10, 1, none⟩ = some _ := k10.cell 1
  have z2 : v11.cell? ⟨g10, 2, none⟩ = some _ := k10.cell 2
  go_wp2_with fail
  have KM := markBlockTree_any t B51 d51 B52 d52 B53 d53 fp5 v4.heap.size 1 v11 t5 (by omega) (by omega) (by omega)
  simp only [trA] at KM
  refine KM.mono ?_
  rintro e v12 ⟨rfl, t5m, ch12⟩
  clear KM z0 z1 z2 t5m
  have hs12 := ch12.size
  clear t5
  have hmk : ¬ markTrE 1 t < 0 := by have := unhide HMK; omega
  generalize markTrE 1 t = mk at *
  clear HMK
  have bw12 := ch12.below (B := w.heap.size) (fun q hq e => by have := unhide HRG5 q e; omega) hB.size
  replace hB := bthen' hB bw12
  clear bw12
  clear t2
  replace kT := kT.chg ch12 (fun e => by have := unhide HRG5 _ e; omega)
  replace oW := own_chg oW ch12 (fun q hq e => by have := unhide HRW q hq; have := unhide HRG5 _ e; omega)
  replace k8 := k8.chg ch12 (fun e => by have := unhide HRG5 _ e; omega)
  replace k10 := k10.chg ch12 (fun e => by have := unhide HRG5 _ e; omega)
  replace oG := own_chg oG ch12 (fun q hq e => by have := unhide HRGG q hq; have := unhide HRG5 _ e; omega)
  replace k11 := k11.chg ch12 (fun e => by have := unhide HRG5 _ e; omega)
  clear ch12
  have z0 : v12.cell? ⟨g11, 0, none⟩ = some _ := k11.cell 0
  have z1 : v12.cell? ⟨g11, 1, none⟩ = some _ := k11.cell 1
  have z2 : v12.cell? ⟨g11, 2, none⟩ = some _ := k11.cell 2
  have y0 : v12.cell? ⟨g8, 0, none⟩ = some _ := k8.cell 0
  have y1 : v12.cell? ⟨g8, 1, none⟩ = some _ := k8.cell 1
  have y2 : v12.cell? ⟨g8, 2, none⟩ = some _ := k8.cell 2
  go_wp2_with fail
  have KE := eqAnswer_any (askA t n key) (askA t n key) A7 c7 A5 c5 v12 (own_rd oG) (own_rd oW) (by omega)
  rw [decide_eq_true rfl] at KE
  refine KE.mono ?_
  rintro e v13 ⟨rfl, b13⟩
  clear KE z0 z1 z2 y0 y1 y2
  have hsv13 := b13.size
  replace kT := kT.new_ b13
  replace oW := own_new oW b13
  replace k8 := k8.new_ b13
  replace k10 := k10.new_ b13
  replace oG := own_new oG b13
  replace k11 := k11.new_ b13
  replace hB := bthen hB b13
  have z0 : v13.cell? ⟨g11, 0, none⟩ = some _ := k11.cell 0
  have z1 : v13.cell? ⟨g11, 1, none⟩ = some _ := k11.cell 1
  have z2 : v13.cell? ⟨g11, 2, none⟩ = some _ := k11.cell 2
  go_wp2_with fail
  refine (markAnswer_any (askA t n key) A7 c7 v6.heap.size 1 v13 oG (by omega) (by omega) (by omega)).mono ?_
  rintro e v14 ⟨rfl, oM, ch14⟩
  have hs14 := ch14.size
  clear z0 z1 z2
  clear oG
  have bw14 := ch14.below (B := w.heap.size) (fun q hq e => by have := unhide HRGG q e; omega) hB.size
  replace hB := bthen' hB bw14
  clear bw14
  replace kT := kT.chg ch14 (fun e => by have := unhide HRGG _ e; omega)
  replace oW := own_chg oW ch14 (fun q hq e => by have := unhide HRW q hq; have := unhide HRGG _ e; omega)
  replace k8 := k8.chg ch14 (fun e => by have := unhide HRGG _ e; omega)
  replace k10 := k10.chg ch14 (fun e => by have := unhide HRGG _ e; omega)
  replace k11 := k11.chg ch14 (fun e => by have := unhide HRGG _ e; omega)
  clear ch14
  have z0 : v14.cell? ⟨g11, 0, none⟩ = some _ := k11.cell 0
  have z1 : v14.cell? ⟨g11, 1, none⟩ = some _ := k11.cell 1
  have z2 : v14.cell? ⟨g11, 2, none⟩ = some _ := k11.cell 2
  go_wp2_with fail
  refine (heldAnswer_any (askA t n key) A7 c7 1 v14 (own_rd oM) (by omega) (by omega) (by omega)).mono ?_
  rintro e v15 ⟨rfl, b15⟩
  have hsv15 := b15.size
  clear z0 z1 z2
  replace kT := kT.new_ b15
  replace oW := own_new oW b15
  replace k8 := k8.new_ b15
  replace k10 := k10.new_ b15
  replace k11 := k11.new_ b15
  replace oM := own_new oM b15
  replace hB := bthen hB b15
  have hnn : ¬ 1 + ((askA t n key).proof.length : Int) < 0 := by omega
  have z0 : v15.cell? ⟨w.heap.size, 0, none⟩ = some _ := kT.cell 0
  have z1 : v15.cell? ⟨w.heap.size, 1, none⟩ = some _ := kT.cell 1
  have z2 : v15.cell? ⟨w.heap.size, 2, none⟩ = some _ := kT.cell 2
  have KT16 := toBlockTree_any t A1 c1 A2 c2 A3 c3 v15 (unhide HR _ hB) hl1 hl2 (unhide HBS) hl3
  simp only [trA] at KT16
  go_wp2_with fail
  refine KT16.mono ?_
  rintro e v16 ⟨B71, d71, B72, d72, B73, d73, fp7, rfl, t7, b16⟩
  clear KT16 z0 z1 z2
  have hs16 := b16.size
  replace kT := kT.new_ b16
  replace oW := own_new oW b16
  replace k8 := k8.new_ b16
  replace k10 := k10.new_ b16
  replace k11 := k11.new_ b16
  replace oM := own_new oM b16
  replace hB := bthen hB b16
  have KA17 := ask_impl t B71 d71 B72 d72 B73 d73 n key v16 t7.rd (by omega) (by omega) (unhide HBT) (by omega)
  simp only [trA] at KA17
  go_wp2_with fail
  refine KA17.mono ?_
  rintro e v17 ⟨A8, c8, rfl, oH, b17⟩
  clear KA17
  have hs17 := b17.size
  replace kT := kT.new_ b17
  replace oW := own_new oW b17
  replace k8 := k8.new_ b17
  replace k10 := k10.new_ b17
  replace k11 := k11.new_ b17
  replace oM := own_new oM b17
  replace t7 := t7.new b17
  replace hB := bthen hB b17
  go_wp2_with (refine wpList_store_row rfl 39 (.tmp 16) (.tmp 87) rfl v17.heap.size #[.int .i64 (askA t n key).key, .int .i64 (askA t n key).value, .slice A8 (askA t n key).proof.length c8] rfl rfl 39 #[.int .i64 0, .int .i64 0, .slice none 0 0] (box_new v17 39 #[.int .i64 0, .int .i64 0, .slice none 0 0] #[.int .i64 (askA t n key).key, .int .i64 (askA t n key).value, .slice A8 (askA t n key).proof.length c8]).1 info_ans3 rfl (ans_one _ _ _ _ _) ?_; refine at_world (C := fun W => wpList _ _ _ _ _ W) (F := fun W => Blk W v17.heap.size 39 #[.int .i64 (askA t n key).key, .int .i64 (askA t n key).value, .slice A8 (askA t n key).proof.length c8] ∧ Below v17.heap.size v17 W) ⟨(box_new v17 39 #[.int .i64 0, .int .i64 0, .slice none 0 0] #[.int .i64 (askA t n key).key, .int .i64 (askA t n key).value, .slice A8 (askA t n key).proof.length c8]).2.1, (box_new v17 39 #[.int .i64 0, .int .i64 0, .slice none 0 0] #[.int .i64 (askA t n key).key, .int .i64 (askA t n key).value, .slice A8 (askA t n key).proof.length c8]).2.2⟩ ?_; rintro v18 ⟨k16, b18⟩; have z0 : v18.cell? ⟨v17.heap.size, 0, none⟩ = some (.int .i64 (askA t n key).key) := k16.cell 0; have z1 : v18.cell? ⟨v17.heap.size, 1, none⟩ = some (.int .i64 (askA t n key).value) := k16.cell 1; have z2 : v18.cell? ⟨v17.heap.size, 2, none⟩ = some (.slice A8 (askA t n key).proof.length c8) := k16.cell 2; have y0 : v18.cell? ⟨g8, 0, none⟩ = some (.int .i64 (askA t n key).key) := (k8.new_ b18).cell 0; have y1 : v18.cell? ⟨g8, 1, none⟩ = some (.int .i64 (askA t n key).value) := (k8.new_ b18).cell 1; have y2 : v18.cell? ⟨g8, 2, none⟩ = some (.slice A5 (askA t n key).proof.length c5) := (k8.new_ b18).cell 2)
  obtain ⟨g16, hg16⟩ : ∃ g, g = v17.heap.size := ⟨_, rfl⟩
  rw [← hg16] at k16 ⊢ z0 z1 z2
  have hsg16 := b18.size
  replace kT := kT.new_ b18
  replace oW := own_new oW b18
  replace k8 := k8.new_ b18
  replace k10 := k10.new_ b18
  replace k11 := k11.new_ b18
  replace oM := own_new oM b18
  replace t7 := t7.new b18
  replace oH := own_new oH b18
  replace hB := bthen hB b18
  have hlg16 := k16.lt
  have hqg16 : v17.heap.size ≤ g16 := by omega
  clear hg16
  have KE := eqAnswer_any (askA t n key) (askA t n key) A8 c8 A5 c5 v18 (own_rd oH) (own_rd oW) (by omega)
  rw [decide_eq_true rfl] at KE
  refine KE.mono ?_
  rintro e v19 ⟨rfl, b19⟩
  clear KE z0 z1 z2 y0 y1 y2
  have hsv19 := b19.size
  replace kT := kT.new_ b19
  replace oW := own_new oW b19
  replace k8 := k8.new_ b19
  replace k10 := k10.new_ b19
  replace k11 := k11.new_ b19
  replace oM := own_new oM b19
  replace t7 := t7.new b19
  replace oH := own_new oH b19
  replace k16 := k16.new_ b19
  replace hB := bthen hB b19
  have z0 : v19.cell? ⟨g11, 0, none⟩ = some _ := k11.cell 0
  have z1 : v19.cell? ⟨g11, 1, none⟩ = some _ := k11.cell 1
  have z2 : v19.cell? ⟨g11, 2, none⟩ = some _ := k11.cell 2
  go_wp2_with fail
  refine (heldAnswer_any (askA t n key) A7 c7 1 v19 (own_rd oM) (by omega) (by omega) (by omega)).mono ?_
  rintro e v20 ⟨rfl, b20⟩
  have hsv20 := b20.size
  clear z0 z1 z2
  replace kT := kT.new_ b20
  replace oW := own_new oW b20
  replace k8 := k8.new_ b20
  replace k10 := k10.new_ b20
  replace k11 := k11.new_ b20
  replace oM := own_new oM b20
  replace t7 := t7.new b20
  replace oH := own_new oH b20
  replace k16 := k16.new_ b20
  replace hB := bthen hB b20
  go_wp2
  go_ret
  exact ⟨rfl, hB⟩
end Go.Proofs.YtmpdopjailomlaaGreat
