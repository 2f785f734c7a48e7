/- Blocks that are drawn with a store and a script (printed by gen_in.py from xdrawbr.in). Blocks that are drawn with a store and a script (printed by gen_in.py from xdrawab.in). The law FnAheadBlock: the walk (printed by gen_in.py from xlawfaheadb.in). -/
import Derived.Test.YtihlhejencninaaGreatNext
import Derived.Test.YtihlhejencninaaGreatGdraw
import Derived.Test.YtihlhejencninaaGreatGtree
import Derived.Test.YtihlhejencninaaGreatDrawSc
import Derived.Test.YtihlhejencninaaGreatGeff
import Derived.Test.YtihlhejencninaaGreatGloc
import Derived.Test.YtihlhejencninaaGreatAheadC
import Derived.Test.YtihlhejencninaaGreatRightB
import Derived.Test.YtihlhejencninaaGreatGact
namespace Go.Proofs.YtihlhejencninaaGreat
open Go.RowKit
set_option linter.unusedVariables false
set_option linter.unusedSimpArgs false

/-- what is read lies at or above n -/
def RdN (n : Nat) (w : World) (A : Option Addr) (xs : List Value) : Prop := RdP (fun k => n ≤ k) w A xs

set_option maxRecDepth 100000 in
set_option maxHeartbeats 8000000 in
theorem DrawBlockRight_any (A : Option Addr) (c : Nat) (bs : List Int) (w : World) (h : Rd w A (bs.map (.int .u8))) (hw : ∀ b ∈ bs, 0 ≤ b ∧ b ≤ 255) (hc : bs.length ≤ c) (hm : c ≤ maxLen) :
    Calls Tryz.prog 58 #[.slice A bs.length c] w fun e w' => ∃ (y : Bk) (B : Option Addr) (d : Nat) (S : Option Addr) (cs : Nat) (s : List Ent), y.list.length ≤ 11 ∧ s.length ≤ 7 ∧ e = .returned (.tuple #[.agg #[.int .i64 y.before, .int .i64 y.height, .int .i64 y.view, .slice B y.list.length d, .int .i64 y.root, .int .i64 y.eff], .slice S s.length cs]) ∧ RdN w.heap.size w' B (y.list.flatMap encA) ∧ RdN w.heap.size w' S (s.flatMap encE) ∧ Below w.heap.size w w' := by
  obtain ⟨W, hW⟩ : ∃ W : World, W = w.alloc (.cells #[.int .i64 0, .int .i64 0, .int .i64 0, .slice none 0 0, .int .i64 0, .int .i64 0] 32) := ⟨_, rfl⟩
  have hb0 : Below w.heap.size w W := by rw [hW]; exact (Below.refl _ _).alloc (Nat.le_refl _) _
  have k0 : Blk W w.heap.size 32 #[.int .i64 0, .int .i64 0, .int .i64 0, .slice none 0 0, .int .i64 0, .int .i64 0] := by rw [hW]; exact Blk.new _ _ _
  have hW0 := k0.lt
  have KO := open_any A c bs W (h.new hb0) hw hc hm
  clear h hw
  go_enter Tryz.func58, Tryz.ntmps58
  go_upto_region 1 with fail
  rw [← hW]
  clear hW
  go_wp2_with fail
  refine KO.mono ?_
  rintro e w1 ⟨rfl, r1, b1⟩
  obtain ⟨g, hg⟩ : ∃ g, g = W.heap.size := ⟨_, rfl⟩
  have hg1 := r1.lt
  rw [← hg] at r1 hg1 ⊢
  have kr1 := k0.new_ b1
  have hB1 := bthen hb0 b1
  have hgw : w.heap.size < g := by omega
  clear hg k0 b1 hb0 KO
  go_wp2_with fail
  refine (l20Store_zero g _ w1 r1 (by omega)).mono ?_
  rintro e w2 ⟨A1, c1, s, hsl, hsv, rfl, o1, r2, ch2⟩
  have kr2 := kr1.chg ch2 (by omega)
  have hB2 := hB1.trans (ch2.below (fun k hk e => by omega) hB1.size)
  have hs2 := ch2.size
  clear kr1 ch2 r1 hsv
  go_wp2_with fail
  refine (firstBlock_spec A1 c1 s w2 (own_rd o1) (by omega)).mono ?_
  rintro e w3 ⟨rfl, b3⟩
  have kr3 := kr2.new_ b3
  have hB3 := bthen hB2 b3
  have r3 := r2.new b3
  have o3 := own_new o1 b3
  have hs3 := b3.size
  clear kr2 hB2 r2 o1 b3
  have hf0 := hide (show (fstB s).list.length = 0 by unfold fstB; split <;> rfl)
  have hf1 : (fstB s).list.length ≤ 1099511627776 := by have := unhide hf0; omega
  generalize fstB s = fb at *
  go_wp2_with fail
  refine (l20Actions_any g _ 0 w3 r3 (by omega) (by omega) (by omega)).mono ?_
  rintro e w4 ⟨A4, c4, al, hal, rfl, o4, r4, ch4⟩
  have kr4 := kr3.chg ch4 (by omega)
  have hB4 := hB3.trans (ch4.below (fun k hk e => by omega) hB3.size)
  have hs4 := ch4.size
  have p4 := own_reader o3 ch4 (by omega)
  clear kr3 hB3 r3 o3 ch4
  have hnl : (nextB fb s 1 al).list.length ≤ 11 := by
    unfold nextB
    split
    · exact hal
    · simp
  go_wp2_with fail
  refine (next_spec fb none 0 A1 c1 s 1 A4 c4 al w4 (by rw [List.eq_nil_of_length_eq_zero (unhide hf0)]; exact Rd.nil _ _) (own_rd p4) (own_rd o4) hf1 (by omega) (by omega)).mono ?_
  rintro e w5 ⟨B, d, rfl, o5, b5⟩
  have kr5 := kr4.new_ b5
  have hB5 := bthen hB4 b5
  have r5 := r4.new b5
  have p5 := own_new p4 b5
  have hs5 := b5.size
  clear kr4 hB4 r4 p4 o4 b5 hf0 hf1
  generalize nextB fb s 1 al = y at *
  generalize nextOk fb s 1 al = ok at *
  obtain ⟨V, hV⟩ : ∃ V : World, V = w5.alloc (.cells #[.int .i64 y.before, .int .i64 y.height, .int .i64 y.view, .slice B y.list.length d, .int .i64 y.root, .int .i64 y.eff] 32) := ⟨_, rfl⟩
  obtain ⟨q, hq⟩ : ∃ q, q = w5.heap.size := ⟨_, rfl⟩
  have b5V : Below w5.heap.size w5 V := by rw [hV]; exact (Below.refl _ _).alloc (Nat.le_refl _) _
  have kqV : Blk V q 32 #[.int .i64 y.before, .int .i64 y.height, .int .i64 y.view, .slice B y.list.length d, .int .i64 y.root, .int .i64 y.eff] := by rw [hV, hq]; exact Blk.new _ _ _
  have krV := kr5.new_ b5V
  have hBV := bthen hB5 b5V
  have rV := r5.new b5V
  have hgq : g < q := by have := r5.lt; omega
  have psV := hide (show RdP (fun k => w.heap.size < k ∧ k ≠ g ∧ k ≠ q) V A1 (s.flatMap encE) from ((own_rdP p5).mono (fun k hk hlt => ⟨by omega, by omega, by omega⟩)).keep (Kp.below b5V))
  have plV := hide (show RdP (fun k => w.heap.size < k ∧ k ≠ g ∧ k ≠ q) V B (y.list.flatMap encA) from ((own_rdP o5).mono (fun k hk hlt => ⟨by omega, by omega, by omega⟩)).keep (Kp.below b5V))
  have HV := hide hV
  have HQ := hide hq
  clear hV kr5 hB5 r5 p5 o5 b5V
  go_upto_region 4 with fail
  rw [← unhide HV, ← unhide HQ]
  clear hq
  go_wp2_with fail
  refine (odd_any g _ 2 V rV (by omega) (by omega) (by omega)).mono ?_
  rintro e w7 ⟨b, rfl, -, r7, ch7⟩
  have kr7 := krV.chg ch7 (by omega)
  have kq7 := kqV.chg ch7 (by omega)
  have hB7 := hBV.trans (ch7.below (fun k hk e => by omega) hBV.size)
  have pl7 := hide ((unhide plV).keep (Kp.chg ch7 fun k hk e => by omega))
  have ps7 := hide ((unhide psV).keep (Kp.chg ch7 fun k hk e => by omega))
  clear krV kqV hBV plV psV ch7
  clear rV
  cases b
  · obtain ⟨y0, y1, y2, y3, y4, y5⟩ : w7.cell? ⟨q, 0, none⟩ = some (.int .i64 y.before) ∧ w7.cell? ⟨q, 1, none⟩ = some (.int .i64 y.height) ∧ w7.cell? ⟨q, 2, none⟩ = some (.int .i64 y.view) ∧ w7.cell? ⟨q, 3, none⟩ = some (.slice B y.list.length d) ∧ w7.cell? ⟨q, 4, none⟩ = some (.int .i64 y.root) ∧ w7.cell? ⟨q, 5, none⟩ = some (.int .i64 y.eff) := ⟨kq7.cell 0, kq7.cell 1, kq7.cell 2, kq7.cell 3, kq7.cell 4, kq7.cell 5⟩
    go_wp2_with (refine wpList_store_row rfl 32 (.tmp 2) (.tmp 47) rfl w.heap.size #[.int .i64 y.before, .int .i64 y.height, .int .i64 y.view, .slice B y.list.length d, .int .i64 y.root, .int .i64 y.eff] rfl rfl 32 #[.int .i64 0, .int .i64 0, .int .i64 0, .slice none 0 0, .int .i64 0, .int .i64 0] kr7 info_bkS rfl (bk6_one _ _ _ _ _ _ _ _) ?_)
    have c10 : Chg (fun k => k = w.heap.size) w7 (w7.setRow w.heap.size #[.int .i64 y.before, .int .i64 y.height, .int .i64 y.view, .slice B y.list.length d, .int .i64 y.root, .int .i64 y.eff]) := chg_row (S := fun k => k = w.heap.size) rfl _
    refine bodyPost_ret (v := .tuple #[.agg #[.int .i64 y.before, .int .i64 y.height, .int .i64 y.view, .slice B y.list.length d, .int .i64 y.root, .int .i64 y.eff], .slice A1 s.length c1]) (results_cell_tmp (p := 2) (q := 3) (ty := 32) rfl _ _ w.heap.size 32 #[.int .i64 y.before, .int .i64 y.height, .int .i64 y.view, .slice B y.list.length d, .int .i64 y.root, .int .i64 y.eff] (0, 0) _ rfl (blk_setRow kr7) Tryz.underlying32 rfl info_bkS) rfl ?_
    exact ⟨y, B, d, A1, c1, s, hnl, hsl, rfl, ((unhide pl7).keep (Kp.chg c10 fun k hk e => by omega)).mono (fun k hk _ => by omega), ((unhide ps7).keep (Kp.chg c10 fun k hk e => by omega)).mono (fun k hk _ => by omega), hB7.trans (c10.below (fun k hk e => by omega) hB7.size)⟩
  · go_wp2_with fail
    refine (pick_any g _ 4 w7 r7 (by omega) (by omega) (by omega)).mono ?_
    rintro e w8 ⟨v, hv, rfl, r8, ch8⟩
    have kr8 := kr7.chg ch8 (by omega)
    have kq8 := kq7.chg ch8 (by omega)
    have hB8 := hB7.trans (ch8.below (fun k hk e => by omega) hB7.size)
    have pl8 := hide ((unhide pl7).keep (Kp.chg ch8 fun k hk e => by omega))
    have ps8 := hide ((unhide ps7).keep (Kp.chg ch8 fun k hk e => by omega))
    clear kr7 kq7 hB7 pl7 ps7 ch8
    clear r7
    have hq8 := kq8.lt
    have hv4 : v = 0 ∨ v = 1 ∨ v = 2 ∨ v = 3 := by omega
    clear hv
    rcases hv4 with rfl | rfl | rfl | rfl
    · have y4 : w8.cell? ⟨q, 4, none⟩ = some (.int .i64 y.root) := kq8.cell 4
      have f4 : w8.frozen? ⟨q, 4, none⟩ = false := kq8.frozen 4
      go_upto_region 13 with fail
      generalize (wrap64 (y.root + 1)).tmod 1000003 = rz at *
      clear y4 f4
      have hcs : Chg (fun k => k = q) w8 (w8.setCell ⟨q, 4, none⟩ (.int .i64 rz)) := (Chg.refl (fun k => k = q) w8).setCell (p := ⟨q, 4, none⟩) (.inl rfl) (.int .i64 rz)
      have kqz : Blk (w8.setCell ⟨q, 4, none⟩ (.int .i64 rz)) q 32 #[.int .i64 y.before, .int .i64 y.height, .int .i64 y.view, .slice B y.list.length d, .int .i64 rz, .int .i64 y.eff] := by have := kq8.set_ 4 (.int .i64 rz); simpa using this
      have krz := kr8.chg hcs (by omega)
      have hBz := hB8.trans (hcs.below (fun k hk e => by omega) hB8.size)
      have plz := hide ((unhide pl8).keep (Kp.chg hcs fun k hk e => by omega))
      have psz := hide ((unhide ps8).keep (Kp.chg hcs fun k hk e => by omega))
      clear hcs kq8 kr8 hB8
      generalize w8.setCell ⟨q, 4, none⟩ (.int .i64 rz) = wz at *
      have y0 : wz.cell? ⟨q, 0, none⟩ = some (.int .i64 y.before) := kqz.cell 0
      have y1 : wz.cell? ⟨q, 1, none⟩ = some (.int .i64 y.height) := kqz.cell 1
      have y2 : wz.cell? ⟨q, 2, none⟩ = some (.int .i64 y.view) := kqz.cell 2
      have y3 : wz.cell? ⟨q, 3, none⟩ = some (.slice B y.list.length d) := kqz.cell 3
      have y4 : wz.cell? ⟨q, 4, none⟩ = some (.int .i64 rz) := kqz.cell 4
      have y5 : wz.cell? ⟨q, 5, none⟩ = some (.int .i64 y.eff) := kqz.cell 5
      go_wp2_with (refine wpList_store_row rfl 32 (.tmp 2) (.tmp 47) rfl w.heap.size #[.int .i64 y.before, .int .i64 y.height, .int .i64 y.view, .slice B y.list.length d, .int .i64 rz, .int .i64 y.eff] rfl rfl 32 #[.int .i64 0, .int .i64 0, .int .i64 0, .slice none 0 0, .int .i64 0, .int .i64 0] krz info_bkS rfl (bk6_one _ _ _ _ _ _ _ _) ?_)
      have c10 : Chg (fun k => k = w.heap.size) wz (wz.setRow w.heap.size #[.int .i64 y.before, .int .i64 y.height, .int .i64 y.view, .slice B y.list.length d, .int .i64 rz, .int .i64 y.eff]) := chg_row (S := fun k => k = w.heap.size) rfl _
      refine bodyPost_ret (v := .tuple #[.agg #[.int .i64 y.before, .int .i64 y.height, .int .i64 y.view, .slice B y.list.length d, .int .i64 rz, .int .i64 y.eff], .slice A1 s.length c1]) (results_cell_tmp (p := 2) (q := 3) (ty := 32) rfl _ _ w.heap.size 32 #[.int .i64 y.before, .int .i64 y.height, .int .i64 y.view, .slice B y.list.length d, .int .i64 rz, .int .i64 y.eff] (0, 0) _ rfl (blk_setRow krz) Tryz.underlying32 rfl info_bkS) rfl ?_
      exact ⟨⟨y.before, y.height, y.view, y.list, rz, y.eff⟩, B, d, A1, c1, s, hnl, hsl, rfl, ((unhide plz).keep (Kp.chg c10 fun k hk e => by omega)).mono (fun k hk _ => by omega), ((unhide psz).keep (Kp.chg c10 fun k hk e => by omega)).mono (fun k hk _ => by omega), hBz.trans (c10.below (fun k hk e => by omega) hBz.size)⟩
    · go_wp2_with fail
      refine (pick_any g _ 2 (w8.alloc (.cells #[.int .i64 (-1), .int .i64 0] 3)) (r8.alloc _) (by omega) (by omega) (by omega)).mono ?_
      rintro e w9 ⟨v, hv, rfl, r9, ch9⟩
      obtain ⟨z0, z1⟩ : w9.cell? ⟨w8.heap.size, 0, none⟩ = some (.int .i64 (-1)) ∧ w9.cell? ⟨w8.heap.size, 1, none⟩ = some (.int .i64 0) := by
        have kl := (Blk.new w8 3 #[.int .i64 (-1), .int .i64 0]).chg ch9 (by have := r8.lt; omega)
        exact ⟨kl.cell 0, kl.cell 1⟩
      have cc9 := ((Chg.refl (fun k => k = g) w8).alloc (.cells #[.int .i64 (-1), .int .i64 0] 3)).trans ch9
      have kr9 := kr8.chg cc9 (by omega)
      have kq9 := kq8.chg cc9 (by omega)
      have hB9 := hB8.trans (cc9.below (fun k hk e => by omega) hB8.size)
      have pl9 := hide ((unhide pl8).keep (Kp.chg cc9 fun k hk e => by omega))
      have ps9 := hide ((unhide ps8).keep (Kp.chg cc9 fun k hk e => by omega))
      clear kr8 kq8 hB8 pl8 ps8 cc9
      clear r8 ch9
      have f5 : w9.frozen? ⟨q, 5, none⟩ = false := kq9.frozen 5
      have y5 : w9.cell? ⟨q, 5, none⟩ = some (.int .i64 y.eff) := kq9.cell 5
      have hv4 : v = 0 ∨ v = 1 := by omega
      clear hv
      rcases hv4 with rfl | rfl
      · go_upto_region 13 with fail
        clear z0 z1 f5 y5
        have hcs : Chg (fun k => k = q) w9 (w9.setCell ⟨q, 5, none⟩ (.int .i64 (-1))) := (Chg.refl (fun k => k = q) w9).setCell (p := ⟨q, 5, none⟩) (.inl rfl) (.int .i64 (-1))
        have kqz : Blk (w9.setCell ⟨q, 5, none⟩ (.int .i64 (-1))) q 32 #[.int .i64 y.before, .int .i64 y.height, .int .i64 y.view, .slice B y.list.length d, .int .i64 y.root, .int .i64 (-1)] := by have := kq9.set_ 5 (.int .i64 (-1)); simpa using this
        have krz := kr9.chg hcs (by omega)
        have hBz := hB9.trans (hcs.below (fun k hk e => by omega) hB9.size)
        have plz := hide ((unhide pl9).keep (Kp.chg hcs fun k hk e => by omega))
        have psz := hide ((unhide ps9).keep (Kp.chg hcs fun k hk e => by omega))
        clear hcs kq9 kr9 hB9
        generalize w9.setCell ⟨q, 5, none⟩ (.int .i64 (-1)) = wz at *
        have y0 : wz.cell? ⟨q, 0, none⟩ = some (.int .i64 y.before) := kqz.cell 0
        have y1 : wz.cell? ⟨q, 1, none⟩ = some (.int .i64 y.height) := kqz.cell 1
        have y2 : wz.cell? ⟨q, 2, none⟩ = some (.int .i64 y.view) := kqz.cell 2
        have y3 : wz.cell? ⟨q, 3, none⟩ = some (.slice B y.list.length d) := kqz.cell 3
        have y4 : wz.cell? ⟨q, 4, none⟩ = some (.int .i64 y.root) := kqz.cell 4
        have y5 : wz.cell? ⟨q, 5, none⟩ = some (.int .i64 (-1)) := kqz.cell 5
        go_wp2_with (refine wpList_store_row rfl 32 (.tmp 2) (.tmp 47) rfl w.heap.size #[.int .i64 y.before, .int .i64 y.height, .int .i64 y.view, .slice B y.list.length d, .int .i64 y.root, .int .i64 (-1)] rfl rfl 32 #[.int .i64 0, .int .i64 0, .int .i64 0, .slice none 0 0, .int .i64 0, .int .i64 0] krz info_bkS rfl (bk6_one _ _ _ _ _ _ _ _) ?_)
        have c10 : Chg (fun k => k = w.heap.size) wz (wz.setRow w.heap.size #[.int .i64 y.before, .int .i64 y.height, .int .i64 y.view, .slice B y.list.length d, .int .i64 y.root, .int .i64 (-1)]) := chg_row (S := fun k => k = w.heap.size) rfl _
        refine bodyPost_ret (v := .tuple #[.agg #[.int .i64 y.before, .int .i64 y.height, .int .i64 y.view, .slice B y.list.length d, .int .i64 y.root, .int .i64 (-1)], .slice A1 s.length c1]) (results_cell_tmp (p := 2) (q := 3) (ty := 32) rfl _ _ w.heap.size 32 #[.int .i64 y.before, .int .i64 y.height, .int .i64 y.view, .slice B y.list.length d, .int .i64 y.root, .int .i64 (-1)] (0, 0) _ rfl (blk_setRow krz) Tryz.underlying32 rfl info_bkS) rfl ?_
        exact ⟨⟨y.before, y.height, y.view, y.list, y.root, -1⟩, B, d, A1, c1, s, hnl, hsl, rfl, ((unhide plz).keep (Kp.chg c10 fun k hk e => by omega)).mono (fun k hk _ => by omega), ((unhide psz).keep (Kp.chg c10 fun k hk e => by omega)).mono (fun k hk _ => by omega), hBz.trans (c10.below (fun k hk e => by omega) hBz.size)⟩
      · go_upto_region 13 with fail
        clear z0 z1 f5 y5
        have hcs : Chg (fun k => k = q) w9 (w9.setCell ⟨q, 5, none⟩ (.int .i64 0)) := (Chg.refl (fun k => k = q) w9).setCell (p := ⟨q, 5, none⟩) (.inl rfl) (.int .i64 0)
        have kqz : Blk (w9.setCell ⟨q, 5, none⟩ (.int .i64 0)) q 32 #[.int .i64 y.before, .int .i64 y.height, .int .i64 y.view, .slice B y.list.length d, .int .i64 y.root, .int .i64 0] := by have := kq9.set_ 5 (.int .i64 0); simpa using this
        have krz := kr9.chg hcs (by omega)
        have hBz := hB9.trans (hcs.below (fun k hk e => by omega) hB9.size)
        have plz := hide ((unhide pl9).keep (Kp.chg hcs fun k hk e => by omega))
        have psz := hide ((unhide ps9).keep (Kp.chg hcs fun k hk e => by omega))
        clear hcs kq9 kr9 hB9
        generalize w9.setCell ⟨q, 5, none⟩ (.int .i64 0) = wz at *
        have y0 : wz.cell? ⟨q, 0, none⟩ = some (.int .i64 y.before) := kqz.cell 0
        have y1 : wz.cell? ⟨q, 1, none⟩ = some (.int .i64 y.height) := kqz.cell 1
        have y2 : wz.cell? ⟨q, 2, none⟩ = some (.int .i64 y.view) := kqz.cell 2
        have y3 : wz.cell? ⟨q, 3, none⟩ = some (.slice B y.list.length d) := kqz.cell 3
        have y4 : wz.cell? ⟨q, 4, none⟩ = some (.int .i64 y.root) := kqz.cell 4
        have y5 : wz.cell? ⟨q, 5, none⟩ = some (.int .i64 0) := kqz.cell 5
        go_wp2_with (refine wpList_store_row rfl 32 (.tmp 2) (.tmp 47) rfl w.heap.size #[.int .i64 y.before, .int .i64 y.height, .int .i64 y.view, .slice B y.list.length d, .int .i64 y.root, .int .i64 0] rfl rfl 32 #[.int .i64 0, .int .i64 0, .int .i64 0, .slice none 0 0, .int .i64 0, .int .i64 0] krz info_bkS rfl (bk6_one _ _ _ _ _ _ _ _) ?_)
        have c10 : Chg (fun k => k = w.heap.size) wz (wz.setRow w.heap.size #[.int .i64 y.before, .int .i64 y.height, .int .i64 y.view, .slice B y.list.length d, .int .i64 y.root, .int .i64 0]) := chg_row (S := fun k => k = w.heap.size) rfl _
        refine bodyPost_ret (v := .tuple #[.agg #[.int .i64 y.before, .int .i64 y.height, .int .i64 y.view, .slice B y.list.length d, .int .i64 y.root, .int .i64 0], .slice A1 s.length c1]) (results_cell_tmp (p := 2) (q := 3) (ty := 32) rfl _ _ w.heap.size 32 #[.int .i64 y.before, .int .i64 y.height, .int .i64 y.view, .slice B y.list.length d, .int .i64 y.root, .int .i64 0] (0, 0) _ rfl (blk_setRow krz) Tryz.underlying32 rfl info_bkS) rfl ?_
        exact ⟨⟨y.before, y.height, y.view, y.list, y.root, 0⟩, B, d, A1, c1, s, hnl, hsl, rfl, ((unhide plz).keep (Kp.chg c10 fun k hk e => by omega)).mono (fun k hk _ => by omega), ((unhide psz).keep (Kp.chg c10 fun k hk e => by omega)).mono (fun k hk _ => by omega), hBz.trans (c10.below (fun k hk e => by omega) hBz.size)⟩
    · go_wp2_with fail
      refine (l20Store_any g _ 3 w8 r8 (by omega) (by omega) (by omega)).mono ?_
      rintro e w9 ⟨A9, c9, s9, hs9, rfl, o9, r9, ch9⟩
      have q9 := hide (show RdP (fun k => w.heap.size < k ∧ k ≠ g ∧ k ≠ q) w9 A9 (s9.flatMap encE) from (own_rdP o9).mono (fun k hk hlt => ⟨by omega, by omega, by omega⟩))
      have kr9 := kr8.chg ch9 (by omega)
      have kq9 := kq8.chg ch9 (by omega)
      have hB9 := hB8.trans (ch9.below (fun k hk e => by omega) hB8.size)
      have pl9 := hide ((unhide pl8).keep (Kp.chg ch9 fun k hk e => by omega))
      have ps9 := hide ((unhide ps8).keep (Kp.chg ch9 fun k hk e => by omega))
      clear kr8 kq8 hB8 pl8 ps8 ch9
      clear r8 o9
      obtain ⟨y0, y1, y2, y3, y4, y5⟩ : w9.cell? ⟨q, 0, none⟩ = some (.int .i64 y.before) ∧ w9.cell? ⟨q, 1, none⟩ = some (.int .i64 y.height) ∧ w9.cell? ⟨q, 2, none⟩ = some (.int .i64 y.view) ∧ w9.cell? ⟨q, 3, none⟩ = some (.slice B y.list.length d) ∧ w9.cell? ⟨q, 4, none⟩ = some (.int .i64 y.root) ∧ w9.cell? ⟨q, 5, none⟩ = some (.int .i64 y.eff) := ⟨kq9.cell 0, kq9.cell 1, kq9.cell 2, kq9.cell 3, kq9.cell 4, kq9.cell 5⟩
      go_wp2_with (refine wpList_store_row rfl 32 (.tmp 2) (.tmp 47) rfl w.heap.size #[.int .i64 y.before, .int .i64 y.height, .int .i64 y.view, .slice B y.list.length d, .int .i64 y.root, .int .i64 y.eff] rfl rfl 32 #[.int .i64 0, .int .i64 0, .int .i64 0, .slice none 0 0, .int .i64 0, .int .i64 0] kr9 info_bkS rfl (bk6_one _ _ _ _ _ _ _ _) ?_)
      have c10 : Chg (fun k => k = w.heap.size) w9 (w9.setRow w.heap.size #[.int .i64 y.before, .int .i64 y.height, .int .i64 y.view, .slice B y.list.length d, .int .i64 y.root, .int .i64 y.eff]) := chg_row (S := fun k => k = w.heap.size) rfl _
      refine bodyPost_ret (v := .tuple #[.agg #[.int .i64 y.before, .int .i64 y.height, .int .i64 y.view, .slice B y.list.length d, .int .i64 y.root, .int .i64 y.eff], .slice A9 s9.length c9]) (results_cell_tmp (p := 2) (q := 3) (ty := 32) rfl _ _ w.heap.size 32 #[.int .i64 y.before, .int .i64 y.height, .int .i64 y.view, .slice B y.list.length d, .int .i64 y.root, .int .i64 y.eff] (0, 0) _ rfl (blk_setRow kr9) Tryz.underlying32 rfl info_bkS) rfl ?_
      exact ⟨y, B, d, A9, c9, s9, hnl, hs9, rfl, ((unhide pl9).keep (Kp.chg c10 fun k hk e => by omega)).mono (fun k hk _ => by omega), ((unhide q9).keep (Kp.chg c10 fun k hk e => by omega)).mono (fun k hk _ => by omega), hB9.trans (c10.below (fun k hk e => by omega) hB9.size)⟩
    · go_wp2_with fail
      refine (l20Actions_any g _ 3 w8 r8 (by omega) (by omega) (by omega)).mono ?_
      rintro e w9 ⟨A9, c9, l9, hl9, rfl, o9, r9, ch9⟩
      have ql9 := hide (show RdP (fun k => w.heap.size < k ∧ k ≠ g ∧ k ≠ q) w9 A9 (l9.flatMap encA) from (own_rdP o9).mono (fun k hk hlt => ⟨by omega, by omega, by omega⟩))
      have kr9 := kr8.chg ch9 (by omega)
      have kq9 := kq8.chg ch9 (by omega)
      have hB9 := hB8.trans (ch9.below (fun k hk e => by omega) hB8.size)
      have pl9 := hide ((unhide pl8).keep (Kp.chg ch9 fun k hk e => by omega))
      have ps9 := hide ((unhide ps8).keep (Kp.chg ch9 fun k hk e => by omega))
      clear kr8 kq8 hB8 pl8 ps8 ch9
      clear r8 o9
      have f3 : w9.frozen? ⟨q, 3, none⟩ = false := kq9.frozen 3
      have y3 : w9.cell? ⟨q, 3, none⟩ = some (.slice B y.list.length d) := kq9.cell 3
      go_upto_region 13 with fail
      clear f3 y3
      have hcs : Chg (fun k => k = q) w9 (w9.setCell ⟨q, 3, none⟩ (.slice A9 l9.length c9)) := (Chg.refl (fun k => k = q) w9).setCell (p := ⟨q, 3, none⟩) (.inl rfl) (.slice A9 l9.length c9)
      have kqz : Blk (w9.setCell ⟨q, 3, none⟩ (.slice A9 l9.length c9)) q 32 #[.int .i64 y.before, .int .i64 y.height, .int .i64 y.view, .slice A9 l9.length c9, .int .i64 y.root, .int .i64 y.eff] := by have := kq9.set_ 3 (.slice A9 l9.length c9); simpa using this
      have krz := kr9.chg hcs (by omega)
      have hBz := hB9.trans (hcs.below (fun k hk e => by omega) hB9.size)
      have plz := hide ((unhide ql9).keep (Kp.chg hcs fun k hk e => by omega))
      have psz := hide ((unhide ps9).keep (Kp.chg hcs fun k hk e => by omega))
      clear hcs kq9 kr9 hB9
      generalize w9.setCell ⟨q, 3, none⟩ (.slice A9 l9.length c9) = wz at *
      have y0 : wz.cell? ⟨q, 0, none⟩ = some (.int .i64 y.before) := kqz.cell 0
      have y1 : wz.cell? ⟨q, 1, none⟩ = some (.int .i64 y.height) := kqz.cell 1
      have y2 : wz.cell? ⟨q, 2, none⟩ = some (.int .i64 y.view) := kqz.cell 2
      have y3 : wz.cell? ⟨q, 3, none⟩ = some (.slice A9 l9.length c9) := kqz.cell 3
      have y4 : wz.cell? ⟨q, 4, none⟩ = some (.int .i64 y.root) := kqz.cell 4
      have y5 : wz.cell? ⟨q, 5, none⟩ = some (.int .i64 y.eff) := kqz.cell 5
      go_wp2_with (refine wpList_store_row rfl 32 (.tmp 2) (.tmp 47) rfl w.heap.size #[.int .i64 y.before, .int .i64 y.height, .int .i64 y.view, .slice A9 l9.length c9, .int .i64 y.root, .int .i64 y.eff] rfl rfl 32 #[.int .i64 0, .int .i64 0, .int .i64 0, .slice none 0 0, .int .i64 0, .int .i64 0] krz info_bkS rfl (bk6_one _ _ _ _ _ _ _ _) ?_)
      have c10 : Chg (fun k => k = w.heap.size) wz (wz.setRow w.heap.size #[.int .i64 y.before, .int .i64 y.height, .int .i64 y.view, .slice A9 l9.length c9, .int .i64 y.root, .int .i64 y.eff]) := chg_row (S := fun k => k = w.heap.size) rfl _
      refine bodyPost_ret (v := .tuple #[.agg #[.int .i64 y.before, .int .i64 y.height, .int .i64 y.view, .slice A9 l9.length c9, .int .i64 y.root, .int .i64 y.eff], .slice A1 s.length c1]) (results_cell_tmp (p := 2) (q := 3) (ty := 32) rfl _ _ w.heap.size 32 #[.int .i64 y.before, .int .i64 y.height, .int .i64 y.view, .slice A9 l9.length c9, .int .i64 y.root, .int .i64 y.eff] (0, 0) _ rfl (blk_setRow krz) Tryz.underlying32 rfl info_bkS) rfl ?_
      exact ⟨⟨y.before, y.height, y.view, l9, y.root, y.eff⟩, A9, c9, A1, c1, s, hl9, hsl, rfl, ((unhide plz).keep (Kp.chg c10 fun k hk e => by omega)).mono (fun k hk _ => by omega), ((unhide psz).keep (Kp.chg c10 fun k hk e => by omega)).mono (fun k hk _ => by omega), hBz.trans (c10.below (fun k hk e => by omega) hBz.size)⟩
end Go.Proofs.YtihlhejencninaaGreat
namespace Go.Proofs.YtihlhejencninaaGreat
open Go.RowKit
set_option linter.unusedVariables false
set_option linter.unusedSimpArgs false

theorem results_cell_two {P : Program} {fn : Func} {p q r : Tmp} {ty : TypeId} (h : fn.results = #[.cell p ty, .tmp q, .tmp r]) (tmps : Array Value) (w : World) (g : Nat) (t : TypeId) (cs : Array Value) (fr : Nat × Nat) (d : TypeDesc)
    (hp : tmps.getD p undef = .pointer (some ⟨g, 0, none⟩)) (hg : w.heap[g]? = some (.cells cs t fr))
    (hu : P.underlying ty = some d) (hd : (match d with | .struct _ | .array _ _ => true | _ => false) = true) (hi : (P.info? ty).map (·.size) = some cs.size) :
    (results fn tmps).run P w = .ok (.tuple #[.agg cs, tmps.getD q undef, tmps.getD r undef]) w := by
  have hp' : tmps[p]?.getD undef = .pointer (some ⟨g, 0, none⟩) := by simpa using hp
  simp [results, h, hp', asAddr, run_loadVar_row w g t ty cs fr d hg hu hd hi]
def sMs (P : Nat → Prop) (v : Value) (w : World) : Prop := ∃ (M : Option Addr) (cm : Nat) (ms : List Int), ms.length ≤ 15 ∧ v = .slice M ms.length cm ∧ RdP P w M (ms.map (.int .i64))
/-- the state while a script is drawn: is the block stored? -/
def RAB (g N0 q : Nat) (t : TypeId) (zs cs : Array Value) (m : Nat) (b : Bool) (w : World) : Prop := (b = false → rdrR g N0 m w) ∧ Blk w q t (cond b cs zs)
set_option maxRecDepth 100000 in
set_option maxHeartbeats 8000000 in
theorem DrawAheadBlock_any (A : Option Addr) (c : Nat) (bs : List Int) (w : World) (h : Rd w A (bs.map (.int .u8))) (hw : ∀ b ∈ bs, 0 ≤ b ∧ b ≤ 255) (hc : bs.length ≤ c) (hm : c ≤ maxLen) :
    Calls Tryz.prog 20 #[.slice A bs.length c] w fun e w' => ∃ (y : Bk) (B : Option Addr) (d : Nat) (S : Option Addr) (cs : Nat) (s : List Ent) (M : Option Addr) (cm : Nat) (ms : List Int), y.list.length ≤ 11 ∧ s.length ≤ 7 ∧ ms.length ≤ 15 ∧ e = .returned (.tuple #[.agg #[.int .i64 y.before, .int .i64 y.height, .int .i64 y.view, .slice B y.list.length d, .int .i64 y.root, .int .i64 y.eff], .slice S s.length cs, .slice M ms.length cm]) ∧ Rd w' B (y.list.flatMap encA) ∧ Rd w' S (s.flatMap encE) ∧ Rd w' M (ms.map (.int .i64)) ∧ Below w.heap.size w w' := by
  obtain ⟨W, hW⟩ : ∃ W : World, W = w.alloc (.cells #[.int .i64 0, .int .i64 0, .int .i64 0, .slice none 0 0, .int .i64 0, .int .i64 0] 32) := ⟨_, rfl⟩
  have hb0 : Below w.heap.size w W := by rw [hW]; exact (Below.refl _ _).alloc (Nat.le_refl _) _
  have k0 : Blk W w.heap.size 32 #[.int .i64 0, .int .i64 0, .int .i64 0, .slice none 0 0, .int .i64 0, .int .i64 0] := by rw [hW]; exact Blk.new _ _ _
  have hW0 := k0.lt
  have KO := open_any A c bs W (h.new hb0) hw hc hm
  have KD := hide (fun (w' : World) (hb : Below W.heap.size W w') => DrawBlockRight_any A c bs w' (h.new (bthen hb0 hb)) hw hc hm)
  clear h hw
  go_enter Tryz.func20, Tryz.ntmps20
  go_upto_region 1 with fail
  rw [← hW]
  clear hW
  go_wp2_with fail
  refine KO.mono ?_
  rintro e w1 ⟨rfl, r1, b1⟩
  obtain ⟨g, hg⟩ : ∃ g, g = W.heap.size := ⟨_, rfl⟩
  have hg1 := r1.lt
  rw [← hg] at r1 hg1 ⊢
  have kr1 := k0.new_ b1
  have hB1 := bthen hb0 b1
  have hgw : w.heap.size < g := by omega
  have KD1 := unhide KD w1 b1
  clear hg k0 b1 hb0 KO KD
  go_wp2_with fail
  refine KD1.mono ?_
  rintro e w2 ⟨y, B, d, S, cs, s, hyl, hsl, rfl, rB, rS, b2⟩
  have kr2 := kr1.new_ b2
  have hB2 := bthen hB1 b2
  have r2 := r1.new b2
  have hs2 := b2.size
  clear kr1 hB1 r1 KD1 b2
  go_upto_region 3 with (refine wpList_store_row rfl 32 (.tmp 6) (.tmp 13) rfl w2.heap.size #[.int .i64 y.before, .int .i64 y.height, .int .i64 y.view, .slice B y.list.length d, .int .i64 y.root, .int .i64 y.eff] rfl rfl 32 #[.int .i64 0, .int .i64 0, .int .i64 0, .slice none 0 0, .int .i64 0, .int .i64 0] (box_new w2 32 #[.int .i64 0, .int .i64 0, .int .i64 0, .slice none 0 0, .int .i64 0, .int .i64 0] #[.int .i64 y.before, .int .i64 y.height, .int .i64 y.view, .slice B y.list.length d, .int .i64 y.root, .int .i64 y.eff]).1 info_bkS rfl (bk6_one _ _ _ _ _ _ _ _) ?_; refine at_world (C := fun W => wpList _ _ _ _ _ W) (F := fun W => Blk W w2.heap.size 32 #[.int .i64 y.before, .int .i64 y.height, .int .i64 y.view, .slice B y.list.length d, .int .i64 y.root, .int .i64 y.eff] ∧ Below w2.heap.size w2 W) ⟨(box_new w2 32 #[.int .i64 0, .int .i64 0, .int .i64 0, .slice none 0 0, .int .i64 0, .int .i64 0] #[.int .i64 y.before, .int .i64 y.height, .int .i64 y.view, .slice B y.list.length d, .int .i64 y.root, .int .i64 y.eff]).2.1, (box_new w2 32 #[.int .i64 0, .int .i64 0, .int .i64 0, .slice none 0 0, .int .i64 0, .int .i64 0] #[.int .i64 y.before, .int .i64 y.height, .int .i64 y.view, .slice B y.list.length d, .int .i64 y.root, .int .i64 y.eff]).2.2⟩ ?_; rintro w3 ⟨kx3, b3⟩; obtain ⟨q, hq⟩ : ∃ q, q = w2.heap.size := ⟨_, rfl⟩; rw [← hq] at kx3 ⊢; have HQ := hide hq; clear hq)
  have hgq : g < q := by have := unhide HQ; omega
  have kr3 := kr2.new_ b3
  have hB3 := bthen hB2 b3
  have r3 := r2.new b3
  have pS : RdP (fun k => k ≠ g ∧ k ≠ w.heap.size) w3 S (s.flatMap encE) := (rS.mono (fun k hk _ => ⟨by omega, by omega⟩)).keep (Kp.below b3)
  have pB : RdP (fun k => k ≠ g ∧ k ≠ w.heap.size) w3 B (y.list.flatMap encA) := (rB.mono (fun k hk _ => ⟨by omega, by omega⟩)).keep (Kp.below b3)
  clear kr2 hB2 r2 b3 rB rS
  have hal : ((y.list.length : Nat) : Int) ≤ 11 := by omega
  have hF : StEL (fun a b => Chg (fun k => k = g ∨ k = w.heap.size) a b) [bV (.agg #[.int .i64 y.before, .int .i64 y.height, .int .i64 y.view, .slice B y.list.length d, .int .i64 y.root, .int .i64 y.eff]), bV (.slice S s.length cs), bV (.pointer (some ⟨g, 0, none⟩)), bV (.pointer (some ⟨q, 3, none⟩)), bV (.slice B y.list.length d), bV (.int .i64 (y.list.length : Int)), sMs (fun k => k ≠ g ∧ k ≠ w.heap.size), fun _ _ => True] :=
    ⟨fun _ _ _ _ h => h, fun _ _ _ _ h => h, fun _ _ _ _ h => h, fun _ _ _ _ h => h, fun _ _ _ _ h => h, fun _ _ _ _ h => h, fun v a b hE ⟨M, cm, ms, h1, h2, h3⟩ => ⟨M, cm, ms, h1, h2, h3.keep (Kp.chg hE fun k hk e => by omega)⟩, fun _ _ _ _ h => h, trivial⟩
  refine wp_region_cost (by kernel_rfl) [(0, some 15), (1, some 16), (2, some 17), (3, some 18), (4, some 19), (5, some 20), (6, some 21), (7, none)] [[], [], [], [], [(3, some 18)], [(4, some 19)], [(2, some 17), (5, some 20)], [(0, some 15)]] (by kernel_rfl) 7 [0, 2, 3, 4, 5, 6] (by kernel_rfl) [0, 0, 0, 0, 0, 0, 40, 0] 40 (by kernel_rfl) 1
    (locB [bV (.agg #[.int .i64 y.before, .int .i64 y.height, .int .i64 y.view, .slice B y.list.length d, .int .i64 y.root, .int .i64 y.eff]), bV (.slice S s.length cs), bV (.pointer (some ⟨g, 0, none⟩)), bV (.pointer (some ⟨q, 3, none⟩)), bV (.slice B y.list.length d), bV (.int .i64 (y.list.length : Int)), sMs (fun k => k ≠ g ∧ k ≠ w.heap.size), fun _ _ => True]) (fun a b => Chg (fun k => k = g ∨ k = w.heap.size) a b) (fun k b _ w' => RAB g (0 + 40) w.heap.size 32 #[.int .i64 0, .int .i64 0, .int .i64 0, .slice none 0 0, .int .i64 0, .int .i64 0] #[.int .i64 y.before, .int .i64 y.height, .int .i64 y.view, .slice B y.list.length d, .int .i64 y.root, .int .i64 y.eff] k b w') (fun _ => Chg.refl _ _) (fun _ _ _ => Chg.trans) (locE_st hF _) ⟨fun _ => ⟨_, by omega, r3.drew⟩, kr3⟩ ?_ ?_
  · refine steps_cons ?s0 ( steps_cons ?s1 ( steps_cons ?s2 ( steps_cons ?s3 ( steps_cons ?s4 ( steps_cons ?s5 ( steps_cons ?s6 ( steps_cons ?s7 steps_nil)))))))
    case s0 =>
      intro w' m' b vp hE hbx hR
      obtain rfl := hbx (by simp)
      intro Q hQ
      have kx' := kx3.chg (chg_undrew hE) (by omega)
      have s0 : w'.cell? ⟨q, 0, none⟩ = some (.int .i64 y.before) := kx'.cell 0
      have s1 : w'.cell? ⟨q, 1, none⟩ = some (.int .i64 y.height) := kx'.cell 1
      have s2 : w'.cell? ⟨q, 2, none⟩ = some (.int .i64 y.view) := kx'.cell 2
      have s3 : w'.cell? ⟨q, 3, none⟩ = some (.slice B y.list.length d) := kx'.cell 3
      have s4 : w'.cell? ⟨q, 4, none⟩ = some (.int .i64 y.root) := kx'.cell 4
      have s5 : w'.cell? ⟨q, 5, none⟩ = some (.int .i64 y.eff) := kx'.cell 5
      go_wp2
      exact hQ _ _ _ rfl rfl (Chg.refl _ _) (by simpa using hR)
    case s1 =>
      intro w' m' b vp hE hbx hR
      clear hbx
      intro Q hQ
      go_wp2
      exact hQ _ _ _ rfl rfl (Chg.refl _ _) (by simpa using hR)
    case s2 =>
      intro w' m' b vp hE hbx hR
      obtain rfl := hbx (by simp)
      intro Q hQ
      go_wp2
      exact hQ _ _ _ rfl rfl (Chg.refl _ _) (by simpa using hR)
    case s3 =>
      intro w' m' b vp hE hbx hR
      obtain rfl := hbx (by simp)
      intro Q hQ
      go_wp2
      exact hQ _ _ _ rfl rfl (Chg.refl _ _) (by simpa using hR)
    case s4 =>
      intro w' m' b vp hE hbx hR
      obtain rfl := hbx (by simp)
      rintro _ ⟨rfl, -⟩ Q hQ
      have kx' := kx3.chg (chg_undrew hE) (by omega)
      have s0 : w'.cell? ⟨q, 0, none⟩ = some (.int .i64 y.before) := kx'.cell 0
      have s1 : w'.cell? ⟨q, 1, none⟩ = some (.int .i64 y.height) := kx'.cell 1
      have s2 : w'.cell? ⟨q, 2, none⟩ = some (.int .i64 y.view) := kx'.cell 2
      have s3 : w'.cell? ⟨q, 3, none⟩ = some (.slice B y.list.length d) := kx'.cell 3
      have s4 : w'.cell? ⟨q, 4, none⟩ = some (.int .i64 y.root) := kx'.cell 4
      have s5 : w'.cell? ⟨q, 5, none⟩ = some (.int .i64 y.eff) := kx'.cell 5
      go_wp2
      exact hQ _ _ _ rfl rfl (Chg.refl _ _) (by simpa using hR)
    case s5 =>
      intro w' m' b vp hE hbx hR
      obtain rfl := hbx (by simp)
      rintro _ ⟨rfl, -⟩ Q hQ
      go_wp2
      exact hQ _ _ _ rfl rfl (Chg.refl _ _) (by simpa using hR)
    case s6 =>
      intro w' m' b vp hE hbx hR
      obtain rfl := hbx (by simp)
      rintro _ ⟨rfl, -⟩ _ ⟨rfl, -⟩ Q hQ
      obtain ⟨hR1, hR2⟩ := hR
      obtain ⟨N1, hN1, hr1⟩ := rdrR_use (hR1 rfl)
      simp only [List.getD_cons_succ, List.getD_cons_zero] at hN1
      go_wp2_with fail
      refine (l20Script_any g N1 _ w' hr1 (by omega) (by omega) (by omega)).mono ?_
      rintro e w5 ⟨M, cm, ms, hms, rfl, o5, h5, ch5⟩
      have hsz := hE.size
      have hgl := hr1.lt
      go_wp2
      exact hQ _ _ _ rfl ⟨M, cm, ms, hms, rfl, (own_rdP o5).mono (fun k hk _ => ⟨by omega, by omega⟩)⟩ (ch5.mono fun k _ e => .inl e) ⟨fun _ => ⟨N1 + 40, by omega, h5⟩, hR2.chg ch5 (by omega)⟩
    case s7 =>
      intro w' m' b vp hE hbx hR
      obtain rfl := hbx (by simp)
      rintro _ ⟨rfl, -⟩ Q hQ
      obtain ⟨hR1, hR2⟩ := hR
      refine wpList_store_row rfl 32 (.tmp 2) (.tmp 15) rfl w.heap.size #[.int .i64 y.before, .int .i64 y.height, .int .i64 y.view, .slice B y.list.length d, .int .i64 y.root, .int .i64 y.eff] rfl rfl 32 #[.int .i64 0, .int .i64 0, .int .i64 0, .slice none 0 0, .int .i64 0, .int .i64 0] hR2 info_bkS rfl (bk6_one _ _ _ _ _ _ _ _) ?_
      go_wp2
      exact hQ undef _ _ rfl trivial (chg_row (S := fun k => k = g ∨ k = w.heap.size) (.inr rfl) _) ⟨fun h => by simp at h, blk_setRow hR2⟩
  intro w9 vp hE hR
  rintro v0 - v1 ⟨hv1, -⟩ v2 - v3 - v4 - v5 - v6 ⟨⟨M, cm, ms, hms, rfl, rM⟩, -⟩ v7 -
  obtain rfl : v1 = _ := hv1
  obtain ⟨-, hK⟩ := hR
  have hK : Blk w9 w.heap.size 32 #[.int .i64 y.before, .int .i64 y.height, .int .i64 y.view, .slice B y.list.length d, .int .i64 y.root, .int .i64 y.eff] := hK
  have hc9 := chg_undrew hE
  clear hE hF
  change wpList _ _ _ [_, _] _ _
  simp only [Act.put, List.setIfInBounds_toArray, List.set_cons_succ, List.set_cons_zero]
  go_wp2
  refine bodyPost_ret (v := .tuple #[.agg #[.int .i64 y.before, .int .i64 y.height, .int .i64 y.view, .slice B y.list.length d, .int .i64 y.root, .int .i64 y.eff], .slice S s.length cs, .slice M ms.length cm]) (results_cell_two (p := 2) (q := 3) (r := 4) (ty := 32) rfl _ _ w.heap.size 32 #[.int .i64 y.before, .int .i64 y.height, .int .i64 y.view, .slice B y.list.length d, .int .i64 y.root, .int .i64 y.eff] (0, 0) _ rfl hK Tryz.underlying32 rfl info_bkS) rfl ?_
  exact ⟨y, B, d, S, cs, s, M, cm, ms, hyl, hsl, hms, rfl, (pB.keep (Kp.chg hc9 fun k hk e => by omega)).rd, (pS.keep (Kp.chg hc9 fun k hk e => by omega)).rd, rM.rd, hB3.trans (hc9.below (fun k hk e => by omega) hB3.size)⟩
end Go.Proofs.YtihlhejencninaaGreat
namespace Go.Proofs.YtihlhejencninaaGreat
open Go.RowKit
set_option linter.unusedVariables false
set_option linter.unusedSimpArgs false

theorem aheadB_right (x : Bk) (s : List Ent) (ms : List Int) (h : ms.length ≤ 15) : aheadB x s ms = blkRightB x s := by
  unfold aheadB
  rw [decide_eq_true (show ms.length ≤ 200 by omega)]
  simp
set_option maxRecDepth 100000 in
set_option maxHeartbeats 8000000 in
theorem law_FnAheadBlock (A : Option Addr) (c : Nat) (bs : List Int) (w : World) (h : Rd w A (bs.map (.int .u8))) (hw : ∀ b ∈ bs, 0 ≤ b ∧ b ≤ 255) (hc : bs.length ≤ c) (hm : c ≤ maxLen) :
    Calls Tryz.prog 4 #[.slice A bs.length c] w fun e w' => e = .returned (.bool true) ∧ Below w.heap.size w w' := by
  have hm2 : bs.length ≤ 9223372036854775807 := by simp only [maxLen] at hm; omega
  by_cases hl : (1048576 : Int) < (bs.length : Int)
  · clear hw
    go_enter Tryz.func4, Tryz.ntmps4
    go_wp2
    go_ret
    exact ⟨rfl, Below.refl _ _⟩
  have HW := hide hw
  have HC := hide hc
  have HM := hide hm
  clear hw hc hm
  go_enter Tryz.func4, Tryz.ntmps4
  go_wp2_with fail
  refine (DrawAheadBlock_any A c bs w h (unhide HW) (unhide HC) (unhide HM)).mono ?_
  rintro e w2 ⟨y, B, d, S, cs, s, M, cm, ms, hyl, hsl, hml, rfl, rB2, rS2, rM2, hB2⟩
  have HE := hide (aheadB_right y s ms hml)
  clear HW HC HM h
  go_upto_region 4 with (refine wpList_store_row rfl 32 (.tmp 3) (.tmp 13) rfl w2.heap.size #[.int .i64 y.before, .int .i64 y.height, .int .i64 y.view, .slice B y.list.length d, .int .i64 y.root, .int .i64 y.eff] rfl rfl 32 #[.int .i64 0, .int .i64 0, .int .i64 0, .slice none 0 0, .int .i64 0, .int .i64 0] (box_new w2 32 #[.int .i64 0, .int .i64 0, .int .i64 0, .slice none 0 0, .int .i64 0, .int .i64 0] #[.int .i64 y.before, .int .i64 y.height, .int .i64 y.view, .slice B y.list.length d, .int .i64 y.root, .int .i64 y.eff]).1 info_bkS rfl (bk6_one _ _ _ _ _ _ _ _) ?_; refine at_world (C := fun W => wpList _ _ _ _ _ W) (F := fun W => Blk W w2.heap.size 32 #[.int .i64 y.before, .int .i64 y.height, .int .i64 y.view, .slice B y.list.length d, .int .i64 y.root, .int .i64 y.eff] ∧ Below w2.heap.size w2 W) ⟨(box_new w2 32 #[.int .i64 0, .int .i64 0, .int .i64 0, .slice none 0 0, .int .i64 0, .int .i64 0] #[.int .i64 y.before, .int .i64 y.height, .int .i64 y.view, .slice B y.list.length d, .int .i64 y.root, .int .i64 y.eff]).2.1, (box_new w2 32 #[.int .i64 0, .int .i64 0, .int .i64 0, .slice none 0 0, .int .i64 0, .int .i64 0] #[.int .i64 y.before, .int .i64 y.height, .int .i64 y.view, .slice B y.list.length d, .int .i64 y.root, .int .i64 y.eff]).2.2⟩ ?_; rintro w3 ⟨k3, b3⟩; obtain ⟨q, hq⟩ : ∃ q, q = w2.heap.size := ⟨_, rfl⟩; rw [← hq] at k3 ⊢; have HQ := hide hq; clear hq)
  have hB3 := bthen hB2 b3
  have rB3 := rB2.new b3
  have rS3 := rS2.new b3
  have rM3 := rM2.new b3
  clear rB2 rS2 rM2 hB2 b3
  have z0 : w3.cell? ⟨q, 0, none⟩ = some (.int .i64 y.before) := k3.cell 0
  have z1 : w3.cell? ⟨q, 1, none⟩ = some (.int .i64 y.height) := k3.cell 1
  have z2 : w3.cell? ⟨q, 2, none⟩ = some (.int .i64 y.view) := k3.cell 2
  have z3 : w3.cell? ⟨q, 3, none⟩ = some (.slice B y.list.length d) := k3.cell 3
  have z4 : w3.cell? ⟨q, 4, none⟩ = some (.int .i64 y.root) := k3.cell 4
  have z5 : w3.cell? ⟨q, 5, none⟩ = some (.int .i64 y.eff) := k3.cell 5
  go_wp2_with fail
  refine (aheadBlock_impl y B d S cs s M cm ms w3 rB3 (by omega) rS3 (by omega) rM3 (by omega)).mono ?_
  rintro e w4 ⟨rfl, b4⟩
  have k4 := k3.new_ b4
  have hB4 := bthen hB3 b4
  have rB4 := rB3.new b4
  have rS4 := rS3.new b4
  have rM4 := rM3.new b4
  clear k3 hB3 rB3 rS3 rM3 b4
  clear z0 z1 z2 z3 z4 z5
  have z0 : w4.cell? ⟨q, 0, none⟩ = some (.int .i64 y.before) := k4.cell 0
  have z1 : w4.cell? ⟨q, 1, none⟩ = some (.int .i64 y.height) := k4.cell 1
  have z2 : w4.cell? ⟨q, 2, none⟩ = some (.int .i64 y.view) := k4.cell 2
  have z3 : w4.cell? ⟨q, 3, none⟩ = some (.slice B y.list.length d) := k4.cell 3
  have z4 : w4.cell? ⟨q, 4, none⟩ = some (.int .i64 y.root) := k4.cell 4
  have z5 : w4.cell? ⟨q, 5, none⟩ = some (.int .i64 y.eff) := k4.cell 5
  go_wp2_with fail
  refine (aheadBlock_spec y B d S cs s M cm ms w4 rB4 (by omega) rS4 (by omega) rM4 (by omega)).mono ?_
  rintro e w5 ⟨rfl, b5⟩
  have k5 := k4.new_ b5
  have hB5 := bthen hB4 b5
  have rB5 := rB4.new b5
  have rS5 := rS4.new b5
  have rM5 := rM4.new b5
  clear k4 hB4 rB4 rS4 rM4 b5
  clear z0 z1 z2 z3 z4 z5
  have z0 : w5.cell? ⟨q, 0, none⟩ = some (.int .i64 y.before) := k5.cell 0
  have z1 : w5.cell? ⟨q, 1, none⟩ = some (.int .i64 y.height) := k5.cell 1
  have z2 : w5.cell? ⟨q, 2, none⟩ = some (.int .i64 y.view) := k5.cell 2
  have z3 : w5.cell? ⟨q, 3, none⟩ = some (.slice B y.list.length d) := k5.cell 3
  have z4 : w5.cell? ⟨q, 4, none⟩ = some (.int .i64 y.root) := k5.cell 4
  have z5 : w5.cell? ⟨q, 5, none⟩ = some (.int .i64 y.eff) := k5.cell 5
  have KR := blockRight_impl y B d S cs s w5 rB5 (by omega) rS5 (by omega)
  rw [unhide HE]
  generalize blkRightB y s = rb at *
  have hne : (rb != rb) = false := by simp
  have heq : (rb == rb) = true := by simp
  go_wp2_with fail
  refine KR.mono ?_
  rintro e w6 ⟨rfl, b6⟩
  go_wp2_with fail
  refine (alive_any _).mono ?_
  rintro e w8 ⟨rfl, b8⟩
  go_wp2
  go_ret
  exact ⟨rfl, bthen (bthen hB5 b6) b8⟩
end Go.Proofs.YtihlhejencninaaGreat
