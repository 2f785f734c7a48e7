/- Questions to trees that are drawn (printed by gen_in.py from xdrawta.in). -/
import Derived.Test.YtefdhlfljpppfaaGreatGdrawt
namespace Go.Proofs.YtefdhlfljpppfaaGreat
open Go.RowKit
set_option linter.unusedVariables false
set_option linter.unusedSimpArgs false

set_option maxRecDepth 100000 in
set_option maxHeartbeats 4000000 in
theorem DrawAskBlock_any (A : Option Addr) (c : Nat) (bs : List Int) (w : World) (h : Rd w A (bs.map (.int .u8))) (hw : ∀ b ∈ bs, 0 ≤ b ∧ b ≤ 255) (hc : bs.length ≤ c) (hm : c ≤ maxLen) :
    Calls Tryz.prog 8 #[.slice A bs.length c] w fun e w' => ∃ t A1 c1 A2 c2 A3 c3 z key, e = .returned (.tuple #[.agg #[.slice A1 t.base.length c1, .slice A2 t.blocks.length c2, .slice A3 t.before.length c3], .int .i64 z, .int .i64 key]) ∧ (-40 ≤ z ∧ z ≤ 40) ∧ (0 ≤ key ∧ key ≤ 63) ∧ TrBd t ∧ TrR w' t A1 A2 A3 ∧ Below w.heap.size w w' := by
  have kr0 : Blk (w.alloc (.cells #[.slice none 0 0, .slice none 0 0, .slice none 0 0] 27)) w.heap.size 27 #[.slice none 0 0, .slice none 0 0, .slice none 0 0] := Blk.new _ _ _
  have hb0 : Below w.heap.size w (w.alloc (.cells #[.slice none 0 0, .slice none 0 0, .slice none 0 0] 27)) := (Below.refl _ _).alloc (Nat.le_refl _) _
  have hr0 : Rd (w.alloc (.cells #[.slice none 0 0, .slice none 0 0, .slice none 0 0] 27)) A (bs.map (.int .u8)) := h.new hb0
  have HW := hide hw
  clear hw h
  go_enter Tryz.func8, Tryz.ntmps8
  go_wp2_with fail
  refine (open_any A c bs _ hr0 (unhide HW) hc hm).mono ?_
  rintro e w1 ⟨rfl, r1, b1⟩
  simp only [World.size_alloc] at r1 ⊢
  have kr1 := kr0.new_ b1
  replace hb0 := bthen hb0 b1
  have hrl := kr1.lt
  have hrl0 := kr0.lt
  obtain ⟨g, hg⟩ : ∃ g, g = w.heap.size + 1 := ⟨_, rfl⟩
  rw [← hg] at r1 ⊢
  have hgw : w.heap.size < g := by omega
  clear hg hr0 HW
  go_wp2_with fail
  refine (l20At_any g _ 12 w1 r1 (by omega) (by omega) (by omega)).mono ?_
  rintro e w2 ⟨t, A1, c1, A2, c2, A3, c3, z, rfl, hz, hbd, -, hR, h2, ch2⟩
  have hgl := r1.lt
  have kr2 := kr1.chg ch2 (by omega)
  have hB := hb0.trans (ch2.below (fun k hk e => by omega) hb0.size)
  have HZ := hide hz
  have HBD := hide hbd
  clear hz hbd
  go_wp2_with (refine wpList_store_row rfl 27 (.tmp 6) (.tmp 13) rfl w2.heap.size #[.slice A1 t.base.length c1, .slice A2 t.blocks.length c2, .slice A3 t.before.length c3] rfl rfl 27 #[.slice none 0 0, .slice none 0 0, .slice none 0 0] (box_new w2 27 #[.slice none 0 0, .slice none 0 0, .slice none 0 0] #[.slice A1 t.base.length c1, .slice A2 t.blocks.length c2, .slice A3 t.before.length c3]).1 info_tr rfl (sl3_one _ _ _ _ _ _ _ _ _) ?_; refine at_world (C := fun W => wpList _ _ _ _ _ W) (F := fun W => Blk W w2.heap.size 27 #[.slice A1 t.base.length c1, .slice A2 t.blocks.length c2, .slice A3 t.before.length c3] ∧ Below w2.heap.size w2 W) ⟨(box_new w2 27 #[.slice none 0 0, .slice none 0 0, .slice none 0 0] #[.slice A1 t.base.length c1, .slice A2 t.blocks.length c2, .slice A3 t.before.length c3]).2.1, (box_new w2 27 #[.slice none 0 0, .slice none 0 0, .slice none 0 0] #[.slice A1 t.base.length c1, .slice A2 t.blocks.length c2, .slice A3 t.before.length c3]).2.2⟩ ?_; rintro w3 ⟨kb, b3⟩)
  obtain ⟨bx, hbx⟩ : ∃ bx, bx = w2.heap.size := ⟨_, rfl⟩
  rw [← hbx] at kb ⊢
  have hs2 := ch2.size
  have hs3 := b3.size
  have hbg : g < bx := by omega
  have kr3 := kr2.new_ b3
  have h3 := h2.new b3
  have hB3 := bthen hB b3
  have HR3 := hide (fun (w'' : World) (hc : Chg (fun k => k < w1.heap.size) w3 w'') => hR w'' (chg_more (Chg.of_new (S := fun k => k < w1.heap.size) b3) hc (fun _ _ e => e)))
  have hbl := kb.lt
  clear hbx kr1 kr2 h2 ch2 b3 hR hB kr0
  have hF : StEL (Chg fun k => k = g ∨ k = w.heap.size) [bV (.agg #[.slice A1 t.base.length c1, .slice A2 t.blocks.length c2, .slice A3 t.before.length c3]), bV (.int .i64 z), bV (.pointer (some ⟨g, 0, none⟩)), kInt 0 31, bV (.pointer (some ⟨g, 0, none⟩)), kInt 0 11, kInt 0 1, kInt 0 32, kInt 0 63, pV (fun _ => True), bV (.int .i64 z)] :=
    ⟨fun _ _ _ _ h => h, fun _ _ _ _ h => h, fun _ _ _ _ h => h, fun _ _ _ _ h => h, fun _ _ _ _ h => h, fun _ _ _ _ h => h, fun _ _ _ _ h => h, fun _ _ _ _ h => h, fun _ _ _ _ h => h, fun _ _ _ _ h => h, fun _ _ _ _ h => h, trivial⟩
  go_upto_region 3 with fail
  refine wp_region_cost (by kernel_rfl) [(0, some 15), (1, some 16), (2, some 17), (3, some 18), (4, some 19), (5, some 20), (6, some 21), (7, some 22), (8, some 23), (9, none), (10, some 3)] [[], [], [], [(2, some 17)], [], [(4, some 19)], [(5, some 20)], [(6, some 21)], [(3, some 18), (7, some 22)], [(0, some 15)], [(1, some 16)]] (by kernel_rfl) 9 [0, 2, 3, 4, 5] (by kernel_rfl) [0, 0, 0, 3, 0, 1, 0, 0, 0, 0, 0] 4 (by kernel_rfl) 99
    (locB [bV (.agg #[.slice A1 t.base.length c1, .slice A2 t.blocks.length c2, .slice A3 t.before.length c3]), bV (.int .i64 z), bV (.pointer (some ⟨g, 0, none⟩)), kInt 0 31, bV (.pointer (some ⟨g, 0, none⟩)), kInt 0 11, kInt 0 1, kInt 0 32, kInt 0 63, pV (fun _ => True), bV (.int .i64 z)]) (Chg fun k => k = g ∨ k = w.heap.size) (fun k b _ w' => RB2 g (0 + 5010 + 4) w.heap.size 27 #[.slice none 0 0, .slice none 0 0, .slice none 0 0] #[.slice A1 t.base.length c1, .slice A2 t.blocks.length c2, .slice A3 t.before.length c3] k b w') (Chg.refl _) (fun _ _ _ => Chg.trans) (locE_st hF _) ⟨fun _ => ⟨⟨_, by omega, h3.drew⟩, kr3⟩, fun e => nomatch e⟩ ?_ ?_
  · refine steps_cons ?s0 ( steps_cons ?s1 ( steps_cons ?s2 ( steps_cons ?s3 ( steps_cons ?s4 ( steps_cons ?s5 ( steps_cons ?s6 ( steps_cons ?s7 ( steps_cons ?s8 ( steps_cons ?s9 ( steps_cons ?s10 steps_nil))))))))))
    case s0 =>
      intro w' m' b vp hE hbx hR
      obtain rfl := hbx (by simp)
      intro Q hQ
      have kbx := kb.chg (chg_undrew hE) (by omega)
      have s0 : w'.cell? ⟨bx, 0, none⟩ = some (.slice A1 t.base.length c1) := kbx.cell 0
      have s1 : w'.cell? ⟨bx, 1, none⟩ = some (.slice A2 t.blocks.length c2) := kbx.cell 1
      have s2 : w'.cell? ⟨bx, 2, none⟩ = some (.slice A3 t.before.length c3) := kbx.cell 2
      go_wp2
      exact hQ _ _ _ rfl rfl (Chg.refl _ _) hR
    case s1 =>
      intro w' m' b vp hE hbx hR
      clear hbx
      intro Q hQ
      go_wp2
      exact hQ _ _ _ rfl rfl (Chg.refl _ _) hR
    case s2 =>
      intro w' m' b vp hE hbx hR
      obtain rfl := hbx (by simp)
      intro Q hQ
      go_wp2
      exact hQ _ _ _ rfl rfl (Chg.refl _ _) hR
    case s3 =>
      intro w' m' b vp hE hbx hR
      obtain rfl := hbx (by simp)
      rintro _ ⟨rfl, -⟩ Q hQ
      obtain ⟨N1, hN1, hr1⟩ := rdrR_use (hR.1 rfl).1
      simp only [List.getD_cons_succ, List.getD_cons_zero] at hN1
      go_wp2_with fail
      refine (l20Key_any g N1 _ hr1 (by omega)).mono ?_
      rintro e w3 ⟨x, hx, rfl, h3, ch3⟩
      go_wp2
      exact hQ _ _ _ rfl ⟨(x : Int), rfl, by omega, by omega⟩ (ch3.mono fun k _ h => .inl h) ⟨fun e => ⟨⟨N1 + 3, by omega, h3⟩, (hR.1 rfl).2.chg ch3 (by omega)⟩, fun e => absurd e (by simp)⟩
    case s4 =>
      intro w' m' b vp hE hbx hR
      obtain rfl := hbx (by simp)
      intro Q hQ
      go_wp2
      exact hQ _ _ _ rfl rfl (Chg.refl _ _) hR
    case s5 =>
      intro w' m' b vp hE hbx hR
      obtain rfl := hbx (by simp)
      rintro _ ⟨rfl, -⟩ Q hQ
      obtain ⟨N1, hN1, hr1⟩ := rdrR_use (hR.1 rfl).1
      simp only [List.getD_cons_succ, List.getD_cons_zero] at hN1
      go_wp2_with fail
      refine (pick_any g N1 12 _ hr1 (by omega) (by omega) (by omega)).mono ?_
      rintro e w3 ⟨x, hx, rfl, h3, ch3⟩
      go_wp2
      exact hQ _ _ _ rfl ⟨(x : Int), rfl, by omega, by omega⟩ (ch3.mono fun k _ h => .inl h) ⟨fun e => ⟨⟨N1 + 1, by omega, h3⟩, (hR.1 rfl).2.chg ch3 (by omega)⟩, fun e => absurd e (by simp)⟩
    case s6 =>
      intro w' m' b vp hE hbx hR
      clear hbx
      rintro _ ⟨⟨x1, rfl, l1, m1⟩, -⟩ Q hQ
      obtain ⟨y1, rfl⟩ := Int.eq_ofNat_of_zero_le l1
      have hq3 : y1 / 11 ≤ 1 := by omega
      have hq2 : (y1 : Int) / 11 = ((y1 / 11 : Nat) : Int) := by omega
      generalize y1 / 11 = q3 at *
      go_wp2
      exact hQ _ _ _ rfl ⟨_, rfl, by omega, by omega⟩ (Chg.refl _ _) hR
    case s7 =>
      intro w' m' b vp hE hbx hR
      clear hbx
      rintro _ ⟨⟨x1, rfl, l1, m1⟩, -⟩ Q hQ
      go_wp2
      exact hQ _ _ _ rfl ⟨_, rfl, by omega, by omega⟩ (Chg.refl _ _) hR
    case s8 =>
      intro w' m' b vp hE hbx hR
      clear hbx
      rintro _ ⟨⟨x1, rfl, l1, m1⟩, -⟩ _ ⟨⟨x2, rfl, l2, m2⟩, -⟩ Q hQ
      go_wp2
      exact hQ _ _ _ rfl ⟨_, rfl, by omega, by omega⟩ (Chg.refl _ _) hR
    case s9 =>
      intro w' m' b vp hE hbx hR
      obtain rfl := hbx (by simp)
      rintro _ ⟨rfl, -⟩ Q hQ
      refine wpList_store_row rfl 27 (.tmp 2) (.tmp 15) rfl w.heap.size #[.slice A1 t.base.length c1, .slice A2 t.blocks.length c2, .slice A3 t.before.length c3] rfl rfl 27 #[.slice none 0 0, .slice none 0 0, .slice none 0 0] (hR.1 rfl).2 info_tr rfl (sl3_one _ _ _ _ _ _ _ _ _) ?_
      go_wp2
      exact hQ undef _ _ rfl trivial (chg_setRow (.inr rfl) _) ⟨fun e => absurd e (by simp), fun _ => blk_setRow (hR.1 rfl).2⟩
    case s10 =>
      intro w' m' b vp hE hbx hR
      clear hbx
      rintro _ ⟨rfl, -⟩ Q hQ
      go_wp2
      exact hQ _ _ _ rfl rfl (Chg.refl _ _) hR
  intro w4 vp hE hR
  rintro v0 - v1 - v2 - v3 - v4 - v5 - v6 - v7 - v8 ⟨⟨key, rfl, l8, m8⟩, -⟩ v9 - v10 ⟨hv10, -⟩
  obtain rfl : v10 = _ := hv10
  obtain ⟨-, hk4⟩ := hR
  have k4 := hk4 rfl
  have hcc := chg_undrew hE
  clear hE hF hk4
  have hB4 : Below w.heap.size w w4 := hB3.trans (hcc.below (fun k hk e => by omega) hB3.size)
  change wpList _ _ _ [_] _ _
  simp only [Act.put, List.setIfInBounds_toArray, List.set_cons_succ, List.set_cons_zero]
  go_wp2
  refine bodyPost_ret (v := .tuple #[.agg #[.slice A1 t.base.length c1, .slice A2 t.blocks.length c2, .slice A3 t.before.length c3], .int .i64 z, .int .i64 key]) (results_cell_tmp2 (p := 2) (q := 3) (r := 4) (ty := 27) rfl _ _ w.heap.size 27 #[.slice A1 t.base.length c1, .slice A2 t.blocks.length c2, .slice A3 t.before.length c3] (0, 0) _ rfl k4 Tryz.underlying27 rfl info_tr) rfl ?_
  exact ⟨t, A1, c1, A2, c2, A3, c3, z, key, rfl, unhide HZ, ⟨l8, m8⟩, unhide HBD, unhide HR3 w4 (hcc.mono fun q _ e => by omega), hB4⟩
end Go.Proofs.YtefdhlfljpppfaaGreat
