/- The law FnAheadTree: the walk (printed by gen_in.py from xlawfaheadtree.in). -/
import Derived.Test.YtihlhejencninaaGreatDrawT
import Derived.Test.YtihlhejencninaaGreatRightD
import Derived.Test.YtihlhejencninaaGreatAheadB
import Derived.Test.YtihlhejencninaaGreatGpath
import Derived.Test.YtihlhejencninaaGreatGval
import Derived.Test.YtihlhejencninaaGreatGact
namespace Go.Proofs.YtihlhejencninaaGreat
open Go.RowKit
set_option linter.unusedVariables false
set_option linter.unusedSimpArgs false

theorem rightN_at (t : Tr) : ∀ (n k : Nat), k < n → (rightN t n).getD k false = (rightN t (k + 1)).getD k false
 | 0, k, h => by omega
 | n + 1, k, h => by
   by_cases hk : k < n
   · rw [rightN, List.getD_eq_getElem?_getD, List.getElem?_append_left (by rw [rightN_len]; exact hk), ← List.getD_eq_getElem?_getD, rightN_at t n k hk]
   · obtain rfl : k = n := by omega
     rfl
/-- a right block is right when its actions are run ahead -/
theorem right_ahead {t : Tr} (h : treeB t = true) {k : Nat} (h0 : 0 < k) (hk : k < t.blocks.length) (hr : (rightN t t.blocks.length).getD k false = true) (ms : List Int) (hm : ms.length ≤ 200) : aheadB (bAt t k) (storeT t (pAt t k)) ms = true := by
 rw [rightN_at t _ k hk, rightN, List.getD_eq_getElem?_getD, List.getElem?_append_right (by rw [rightN_len]; omega), rightN_len] at hr
 simp only [Nat.sub_self, List.getElem?_cons_zero, Option.getD_some, Bool.and_eq_true] at hr
 have h1 := hr.1
 have hp := pAt_lt h hk
 have hp0 : 0 ≤ pAt t k := by
   have := inB_true.1 (by have := (treeB_yes h).2.2.2.2.2.2.2 k h0 hk; rw [nodeOk, Bool.and_eq_true] at this; exact this.1)
   omega
 have hs : storeT t (pAt t k) = storeL (aheadV t k) := storeT_yes h (inB_true.2 (by omega))
 rw [hs]
 unfold aheadB
 rw [h1, decide_eq_true hm]
 rfl
/-- a script laid as a literal -/
def sLit (v : Value) (w : World) : Prop := ∃ (M : Option Addr) (cm : Nat) (ms : List Int), ms.length ≤ 200 ∧ v = .slice M ms.length cm ∧ Rd w M (ms.map (.int .i64))
theorem sb_Lit : StB sLit := fun _ _ _ hb ⟨M, cm, ms, h1, h2, h3⟩ => ⟨M, cm, ms, h1, h2, h3.new hb⟩
set_option maxRecDepth 100000 in
set_option maxHeartbeats 4000000 in
theorem DrawRightBlocks_any (A : Option Addr) (c : Nat) (bs : List Int) (w : World) (h : Rd w A (bs.map (.int .u8))) (hw : ∀ b ∈ bs, 0 ≤ b ∧ b ≤ 255) (hc : bs.length ≤ c) (hm : c ≤ maxLen) :
   Calls Tryz.prog 43 #[.slice A bs.length c] w fun e w' => ∃ (t : Tr) (A1 : Option Addr) (c1 : Nat) (A2 : Option Addr) (c2 : Nat) (A3 : Option Addr) (c3 : Nat), e = .returned (.agg (trA t A1 c1 A2 c2 A3 c3)) ∧ TrBd t ∧ TrR w' t A1 A2 A3 ∧ Below w.heap.size w w' := by
 obtain ⟨W, hW⟩ : ∃ W : World, W = w.alloc (.cells #[.slice none 0 0, .slice none 0 0, .slice none 0 0] 69) := ⟨_, rfl⟩
 have hb0 : Below w.heap.size w W := by rw [hW]; exact (Below.refl _ _).alloc (Nat.le_refl _) _
 have k0 : Blk W w.heap.size 69 #[.slice none 0 0, .slice none 0 0, .slice none 0 0] := by rw [hW]; exact Blk.new _ _ _
 have hW0 := k0.lt
 have KO := open_any A c bs W (h.new hb0) hw hc hm
 clear h hw
 go_enter Tryz.func43, Tryz.ntmps43
 go_upto_region 1 with fail
 rw [← hW]
 clear hW
 go_wp2_with fail
 refine KO.mono ?_
 rintro e w1 ⟨rfl, r1, b1⟩
 obtain ⟨g, hg⟩ : ∃ g, g = W.heap.size := ⟨_, rfl⟩
 have hg1 := r1.lt
 rw [← hg] at r1 hg1 ⊢
 have kr1 := k0.new_ b1
 have hB1 := bthen hb0 b1
 have hgw : w.heap.size < g := by omega
 clear hg k0 b1 hb0 KO
 go_wp2_with fail
 refine (l20Tree_any g _ 9 w1 r1 (by omega) (by omega) (by omega)).mono ?_
 rintro e w2 ⟨t, A1, c1, A2, c2, A3, c3, rfl, hbd, -, hR, h2, ch2⟩
 have kr2 := kr1.chg ch2 (by omega)
 have hB2 := hB1.trans (ch2.below (fun k hk e => by omega) hB1.size)
 simp only [trA]
 clear kr1 hB1 h2 ch2 r1
 go_wp2_with (refine wpList_store_row rfl 69 (.tmp 2) (.tmp 5) rfl w.heap.size #[.slice A1 t.base.length c1, .slice A2 t.blocks.length c2, .slice A3 t.before.length c3] rfl rfl 69 #[.slice none 0 0, .slice none 0 0, .slice none 0 0] kr2 info_tr rfl (sl3_one _ _ _ _ _ _ _ _ _) ?_)
 refine bodyPost_ret (v := .agg #[.slice A1 t.base.length c1, .slice A2 t.blocks.length c2, .slice A3 t.before.length c3]) (results_cell_row (p := 2) (ty := 69) rfl _ _ w.heap.size 69 #[.slice A1 t.base.length c1, .slice A2 t.blocks.length c2, .slice A3 t.before.length c3] (0, 0) _ rfl (blk_setRow kr2) Tryz.underlying69 rfl info_tr) rfl ?_
 exact ⟨t, A1, c1, A2, c2, A3, c3, rfl, hbd, hR _ (chg_setRow (S := fun k => k < w1.heap.size) (by omega) _), hB2.trans ((chg_setRow (S := fun k => k = w.heap.size) rfl _).below (fun k hk e => by omega) hB2.size)⟩
set_option maxRecDepth 100000 in
set_option maxHeartbeats 8000000 in
theorem law_FnAheadTree (A : Option Addr) (c : Nat) (bs : List Int) (w : World) (h : Rd w A (bs.map (.int .u8))) (hw : ∀ b ∈ bs, 0 ≤ b ∧ b ≤ 255) (hc : bs.length ≤ c) (hm : c ≤ maxLen) :
   Calls Tryz.prog 9 #[.slice A bs.length c] w fun e w' => e = .returned (.bool true) ∧ Below w.heap.size w w' := by
 have hm2 : bs.length ≤ 9223372036854775807 := by simp only [maxLen] at hm; omega
 by_cases hl : (1048576 : Int) < (bs.length : Int)
 · clear hw
   go_enter Tryz.func9, Tryz.ntmps9
   go_wp2
   go_ret
   exact ⟨rfl, Below.refl _ _⟩
 have HW := hide hw
 have HC := hide hc
 have HM := hide hm
 clear hw hc hm
 go_enter Tryz.func9, Tryz.ntmps9
 go_wp2_with fail
 refine (DrawRightBlocks_any A c bs w h (unhide HW) (unhide HC) (unhide HM)).mono ?_
 rintro e w1 ⟨t, A1, c1, A2, c2, A3, c3, rfl, ⟨hd1, ⟨hd2, hd2'⟩, hd3, hd4⟩, hR1, hB⟩
 simp only [trA]
 clear h HW HC HM
 go_wp2_with (refine wpList_store_row rfl 69 (.tmp 3) (.tmp 11) rfl w1.heap.size #[.slice A1 t.base.length c1, .slice A2 t.blocks.length c2, .slice A3 t.before.length c3] rfl rfl 69 #[.slice none 0 0, .slice none 0 0, .slice none 0 0] (box_new w1 69 #[.slice none 0 0, .slice none 0 0, .slice none 0 0] #[.slice A1 t.base.length c1, .slice A2 t.blocks.length c2, .slice A3 t.before.length c3]).1 info_tr rfl (sl3_one _ _ _ _ _ _ _ _ _) ?_; refine at_world (C := fun W => wpList _ _ _ _ _ W) (F := fun W => Blk W w1.heap.size 69 #[.slice A1 t.base.length c1, .slice A2 t.blocks.length c2, .slice A3 t.before.length c3] ∧ Below w1.heap.size w1 W) ⟨(box_new w1 69 #[.slice none 0 0, .slice none 0 0, .slice none 0 0] #[.slice A1 t.base.length c1, .slice A2 t.blocks.length c2, .slice A3 t.before.length c3]).2.1, (box_new w1 69 #[.slice none 0 0, .slice none 0 0, .slice none 0 0] #[.slice A1 t.base.length c1, .slice A2 t.blocks.length c2, .slice A3 t.before.length c3]).2.2⟩ ?_; rintro w2 ⟨kb, b2⟩; obtain ⟨bx, hbx⟩ : ∃ q, q = w1.heap.size := ⟨_, rfl⟩; rw [← hbx] at kb ⊢; have Hbx := hide hbx; clear hbx; have x0 : w2.cell? ⟨bx, 0, none⟩ = some (.slice A1 t.base.length c1) := kb.cell 0; have x1 : w2.cell? ⟨bx, 1, none⟩ = some (.slice A2 t.blocks.length c2) := kb.cell 1; have x2 : w2.cell? ⟨bx, 2, none⟩ = some (.slice A3 t.before.length c3) := kb.cell 2)
 have hbx1 : w.heap.size ≤ bx := by have := hB.size; have := unhide Hbx; omega
 replace hB := bthen hB b2
 have hbl := kb.lt
 have HR := hide (fun (w' : World) (hb : Below w2.heap.size w2 w') => hR1.new (bthen b2 hb))
 have HD4 := hide (fun x (hx : x ∈ t.blocks) => show x.list.length ≤ 1099511627776 by have := hd4 x hx; omega)
 have HX := hide (fun (w' : World) (hb : Below w2.heap.size w2 w') => show (w'.cell? ⟨bx, 0, none⟩ = some (.slice A1 t.base.length c1) ∧ w'.cell? ⟨bx, 1, none⟩ = some (.slice A2 t.blocks.length c2) ∧ w'.cell? ⟨bx, 2, none⟩ = some (.slice A3 t.before.length c3)) from ⟨(kb.new_ hb).cell 0, (kb.new_ hb).cell 1, (kb.new_ hb).cell 2⟩)
 cases hv : treeB t
 · have KI := rightBlocks_impl_no t A1 c1 A2 c2 A3 c3 w2 (unhide HR w2 (Below.refl _ _)) hv (by omega) (by omega) (unhide HD4) (by omega)
   have KS := hide (fun (w' : World) (hb : Below w2.heap.size w2 w') => rightBlocks_spec_no t A1 c1 A2 c2 A3 c3 w' (unhide HR w' hb) hv (by omega) (by omega) (unhide HD4) (by omega))
   simp only [trA] at KI KS
   clear hv hR1 hd4 kb b2
   refine KI.mono ?_
   rintro e w3 ⟨rfl, b3⟩
   clear x0 x1 x2 KI
   obtain ⟨x0, x1, x2⟩ := unhide HX w3 b3
   go_wp2_with fail
   refine (unhide KS w3 b3).mono ?_
   rintro e w4 ⟨A4, c4, rfl, b4⟩
   have hB4 := bthen hB (bthen b3 b4)
   clear x0 x1 x2 KS hB b3 b4
   go_wp2
   go_loopw [6] (fun i wr => i = .int .i64 1 ∧ Below w.heap.size w wr) (fun _ _ => 0)
   case atStart => exact ⟨rfl, hB4⟩
   case round =>
     obtain ⟨rfl, hBr⟩ := hrel
     go_wp2_with fail
     refine (alive_any wr).mono ?_
     rintro e w8 ⟨rfl, b8⟩
     go_wp2
     go_ret
     exact ⟨rfl, bthen hBr b8⟩
 have KI := rightBlocks_impl t A1 c1 A2 c2 A3 c3 w2 (unhide HR w2 (Below.refl _ _)) hv (by omega) (by omega) (unhide HD4) (by omega)
 have KS := hide (fun (w' : World) (hb : Below w2.heap.size w2 w') => rightBlocks_spec_yes t A1 c1 A2 c2 A3 c3 w' (unhide HR w' hb) hv (by omega) (by omega) (unhide HD4) (by omega))
 have HST := hide (fun (w' : World) (hb : Below w2.heap.size w2 w') (n : Int) => storeOf_impl t A1 c1 A2 c2 A3 c3 n w' (unhide HR w' hb) (by omega) (by omega) (unhide HD4) (by omega))
 have HV := hide hv
 have HRA := hide (fun (k : Nat) (h0 : 0 < k) (hk : k < t.blocks.length) (hr : (rightN t t.blocks.length).getD k false = true) => right_ahead hv h0 hk hr)
 have HBL := hide (treeB_yes hv).2.2.2.1
 simp only [trA] at KI KS HST
 clear hv hR1 hd4 kb b2
 refine KI.mono ?_
 rintro e w3 ⟨AR, cr, rfl, oR, b3⟩
 clear x0 x1 x2 KI
 obtain ⟨x0, x1, x2⟩ := unhide HX w3 b3
 have hrl := rightN_len t t.blocks.length
 obtain ⟨gr, hAR, hgr1, hgr2⟩ := own_addr oR (by omega)
 subst hAR
 go_wp2_with fail
 refine (unhide KS w3 b3).mono ?_
 rintro e w4 ⟨A4, c4, rfl, b4⟩
 have b24 := bthen b3 b4
 have oR4 := own_new oR b4
 have hgr4 : gr < w4.heap.size := by have := b4.size; omega
 clear x0 x1 x2 KS b4 oR
 have hne : ((t.blocks.length : Int) != (t.blocks.length : Int)) = false := by simp
 go_wp2
 go_loopw [6] (fun i wr => ∃ k : Nat, 1 ≤ k ∧ k ≤ t.blocks.length ∧ i = .int .i64 k ∧ Below w4.heap.size w4 wr) (fun i _ => t.blocks.length - (intOf i).toNat)
 case atStart => exact ⟨1, Nat.le_refl _, by omega, rfl, Below.refl _ _⟩
 case round =>
   obtain ⟨k, hk1, hk, rfl, hBr⟩ := hrel
   have b2r := bthen b24 hBr
   by_cases hlt : k < t.blocks.length
   rotate_left
   · have i1 : ¬ (k : Int) < (t.blocks.length : Int) := by omega
     go_wp2_with fail
     refine (alive_any wr).mono ?_
     rintro e w8 ⟨rfl, b8⟩
     go_wp2
     go_ret
     exact ⟨rfl, bthen (bthen hB b2r) b8⟩
   have i1 : (k : Int) < (t.blocks.length : Int) := by omega
   have hcell : w4.cell? ⟨gr, k, none⟩ = some (.bool ((rightN t t.blocks.length).getD k false)) := by rw [own_cell oR4 k (by simp [hrl]; omega)]; simp [List.getD_eq_getElem?_getD, hrl, hlt]
   obtain ⟨bq, offq, L1, e1, hA2, -, hbb, d0, d1, d2, d3, d4, d5, -, q1⟩ := (unhide HR w4 b24).b2.bk hlt
   have q1r : Rd w4 L1 (t.blocks[k].list.flatMap encA) := q1.rd
   have hll := unhide HD4 t.blocks[k] (List.getElem_mem hlt)
   have hk3 : k < t.before.length := by have := unhide HBL; omega
   have i3 : (k : Int) < (t.before.length : Int) := by omega
   obtain ⟨b3', off3, hA3, hb3b, u0⟩ := (unhide HR w4 b24).b3.int hk3
   rw [← pAt_get t hk3] at u0
   have hst := storeT_len t (pAt t k)
   have HSK := hide (fun w' (hb : Below w2.heap.size w2 w') => unhide HST w' hb (pAt t k))
   have HAK := hide (unhide HRA k (by omega) hlt)
   rw [bAt_get t hlt] at HAK
   generalize t.blocks[k] = x at *
   generalize storeT t (pAt t k) = sx at *
   generalize pAt t k = pk at *
   have HA2 := hide hA2
   have HA3 := hide hA3
   have HX4 := hide (fun (w' : World) (b : Below w4.heap.size w4 w') => show (w'.cell? ⟨bq, offq + k * 6, none⟩ = some (.int .i64 x.before) ∧ w'.cell? ⟨bq, offq + k * 6 + 1, none⟩ = some (.int .i64 x.height) ∧ w'.cell? ⟨bq, offq + k * 6 + 2, none⟩ = some (.int .i64 x.view) ∧ w'.cell? ⟨bq, offq + k * 6 + 3, none⟩ = some (.slice L1 x.list.length e1) ∧ w'.cell? ⟨bq, offq + k * 6 + 4, none⟩ = some (.int .i64 x.root) ∧ w'.cell? ⟨bq, offq + k * 6 + 5, none⟩ = some (.int .i64 x.eff)) ∧ (w'.cell? ⟨bx, 0, none⟩ = some (.slice A1 t.base.length c1) ∧ w'.cell? ⟨bx, 1, none⟩ = some (.slice A2 t.blocks.length c2) ∧ w'.cell? ⟨bx, 2, none⟩ = some (.slice A3 t.before.length c3)) ∧ w'.cell? ⟨gr, k, none⟩ = some (.bool ((rightN t t.blocks.length).getD k false)) ∧ w'.cell? ⟨b3', off3 + k, none⟩ = some (.int .i64 pk) ∧ Rd w' L1 (x.list.flatMap encA) ∧ Below w2.heap.size w2 w' from
     ⟨⟨(b.cell (p := ⟨bq, offq + k * 6, none⟩) hbb).trans d0, (b.cell (p := ⟨bq, offq + k * 6 + 1, none⟩) hbb).trans d1, (b.cell (p := ⟨bq, offq + k * 6 + 2, none⟩) hbb).trans d2, (b.cell (p := ⟨bq, offq + k * 6 + 3, none⟩) hbb).trans d3, (b.cell (p := ⟨bq, offq + k * 6 + 4, none⟩) hbb).trans d4, (b.cell (p := ⟨bq, offq + k * 6 + 5, none⟩) hbb).trans d5⟩, unhide HX w' (bthen b24 b), (b.cell (p := ⟨gr, k, none⟩) hgr4).trans hcell, (b.cell (p := ⟨b3', off3 + k, none⟩) hb3b).trans u0, q1r.new b, bthen b24 b⟩)
   clear hcell hA2 hA3 d0 d1 d2 d3 d4 d5 q1 q1r u0
   generalize (rightN t t.blocks.length).getD k false = rb at *
   have HBR := hide hBr
   have HB2 := hide (fun (w' : World) (hb : Below w2.heap.size w2 w') => bthen hB hb)
   clear hBr b2r
   cases rb
   · have hF : StBL [bV (.slice (some ⟨gr, 0, none⟩) t.blocks.length cr), bV (.int .i64 (k : Int)), bV (.pointer (some ⟨gr, k, none⟩)), bV (.bool false), bV (.bool false), pV (fun _ => True), pV (fun _ => True), pV (fun _ => True), pV (fun _ => True), pV (fun _ => True), pV (fun _ => True), pV (fun _ => True), pV (fun _ => True), pV (fun _ => True), pV (fun _ => True), pV (fun _ => True), pV (fun _ => True), pV (fun _ => True)] :=
       ⟨sb_V _, sb_V _, sb_V _, sb_V _, sb_V _, fun _ _ _ _ h => h, fun _ _ _ _ h => h, fun _ _ _ _ h => h, fun _ _ _ _ h => h, fun _ _ _ _ h => h, fun _ _ _ _ h => h, fun _ _ _ _ h => h, fun _ _ _ _ h => h, fun _ _ _ _ h => h, fun _ _ _ _ h => h, fun _ _ _ _ h => h, fun _ _ _ _ h => h, fun _ _ _ _ h => h, trivial⟩
     go_upto_region 11 with fail
     refine wp_region_loc (by kernel_rfl) [(0, some 27), (1, some 28), (2, some 29), (3, some 30), (4, some 31), (5, some 32), (6, some 33), (7, some 34), (8, some 35), (9, some 36), (10, some 37), (11, some 38), (12, some 39), (13, some 40), (14, some 41), (15, some 42), (16, some 43), (17, some 44)] [[], [], [(0, some 27), (1, some 28)], [(2, some 29)], [(3, some 30)], [(4, some 31)], [(4, some 31), (5, some 32)], [(4, some 31)], [(4, some 31), (6, some 33), (7, some 34)], [(4, some 31), (8, some 35)], [(4, some 31)], [(4, some 31)], [(4, some 31), (11, some 38)], [(4, some 31)], [(4, some 31), (12, some 39), (13, some 40)], [(4, some 31), (14, some 41)], [(4, some 31), (10, some 37), (15, some 42)], [(4, some 31)]] (by kernel_rfl)
       (locB _) (fun a b => Below a.heap.size a b) noR [0, 0, 0, 0, 0, 0, 0, 0, 0, 0, 0, 0, 0, 0, 0, 0, 0, 0] 0 (by kernel_rfl) (fun _ => Below.refl _ _) (fun _ _ _ => bthen) (locB_st hF _) trivial ?_ ?_
     · refine steps_cons ?s0 ( steps_cons ?s1 ( steps_cons ?s2 ( steps_cons ?s3 ( steps_cons ?s4 ( steps_cons ?s5 ( steps_cons ?s6 ( steps_cons ?s7 ( steps_cons ?s8 ( steps_cons ?s9 ( steps_cons ?s10 ( steps_cons ?s11 ( steps_cons ?s12 ( steps_cons ?s13 ( steps_cons ?s14 ( steps_cons ?s15 ( steps_cons ?s16 ( steps_cons ?s17 steps_nil)))))))))))))))))
       case s0 | s1 =>
         intro w' m' hE hR
         intro Q hQ
         go_wp2
         exact hQ _ _ _ rfl rfl (Below.refl _ _) trivial
       case s2 =>
         intro w' m' hE hR
         rintro _ rfl _ rfl Q hQ
         go_wp2
         exact hQ _ _ _ rfl rfl (Below.refl _ _) trivial
       case s3 =>
         intro w' m' hE hR
         rintro _ rfl Q hQ
         have bb := bthen (unhide HBR) (below_undrew hE)
         obtain ⟨⟨s0, s1, s2, s3, s4, s5⟩, ⟨s6, s7, s8⟩, s9, s10, s11, s12⟩ := unhide HX4 w' bb
         go_wp2
         exact hQ _ _ _ rfl rfl (Below.refl _ _) trivial
       case s4 =>
         intro w' m' hE hR
         rintro _ rfl Q hQ
         go_wp2
         exact hQ _ _ _ rfl rfl (Below.refl _ _) trivial
       case s5 | s7 | s10 | s11 | s13 | s17 =>
         intro w' m' hE hR
         rintro _ rfl Q hQ
         go_wp2
         exact hQ undef _ _ rfl trivial (Below.refl _ _) trivial
       case s6 | s9 | s12 | s15 =>
         intro w' m' hE hR
         rintro _ rfl _ - Q hQ
         go_wp2
         exact hQ undef _ _ rfl trivial (Below.refl _ _) trivial
       case s8 | s14 | s16 =>
         intro w' m' hE hR
         rintro _ rfl _ - _ - Q hQ
         go_wp2
         exact hQ undef _ _ rfl trivial (Below.refl _ _) trivial
     intro w9 hE _
     rintro v0 - v1 - v2 - v3 - v4 hv4 v5 - v6 - v7 - v8 - v9 - v10 - v11 - v12 - v13 - v14 - v15 - v16 - v17 -
     obtain rfl : v4 = _ := hv4
     change wpList _ _ _ [_, _, _] _ _
     simp only [Act.put, List.setIfInBounds_toArray, List.set_cons_succ, List.set_cons_zero]
     have b9 := bthen (unhide HBR) (below_undrew hE)
     clear hE hF
     go_wp2
     go_roundw
     case rel => exact ⟨k + 1, by omega, by omega, by go_num, b9⟩
     case measure => simp [intOf]; omega
   · have hF : StBL [bV (.slice (some ⟨gr, 0, none⟩) t.blocks.length cr), bV (.int .i64 (k : Int)), bV (.pointer (some ⟨gr, k, none⟩)), bV (.bool true), bV (.bool true), bV (.pointer (some ⟨bx, 1, none⟩)), bV (.slice (some ⟨bq, offq, none⟩) t.blocks.length c2), bV (.int .i64 (k : Int)), bV (.pointer (some ⟨bq, offq + k * 6, none⟩)), bV (.agg #[.int .i64 x.before, .int .i64 x.height, .int .i64 x.view, .slice L1 x.list.length e1, .int .i64 x.root, .int .i64 x.eff]), bV (.agg #[.slice A1 t.base.length c1, .slice A2 t.blocks.length c2, .slice A3 t.before.length c3]), bV (.pointer (some ⟨bx, 2, none⟩)), bV ((.slice (some ⟨b3', off3, none⟩) t.before.length c3)), bV (.int .i64 (k : Int)), bV ((.pointer (some ⟨b3', off3 + k, none⟩))), bV (.int .i64 pk), bEnts sx, sLit] :=
       ⟨sb_V _, sb_V _, sb_V _, sb_V _, sb_V _, sb_V _, sb_V _, sb_V _, sb_V _, sb_V _, sb_V _, sb_V _, sb_V _, sb_V _, sb_V _, sb_V _, sb_Ents _, sb_Lit, trivial⟩
     go_upto_region 11 with fail
     refine wp_region_loc (by kernel_rfl) [(0, some 27), (1, some 28), (2, some 29), (3, some 30), (4, some 31), (5, some 32), (6, some 33), (7, some 34), (8, some 35), (9, some 36), (10, some 37), (11, some 38), (12, some 39), (13, some 40), (14, some 41), (15, some 42), (16, some 43), (17, some 44)] [[], [], [(0, some 27), (1, some 28)], [(2, some 29)], [(3, some 30)], [(4, some 31)], [(4, some 31), (5, some 32)], [(4, some 31)], [(4, some 31), (6, some 33), (7, some 34)], [(4, some 31), (8, some 35)], [(4, some 31)], [(4, some 31)], [(4, some 31), (11, some 38)], [(4, some 31)], [(4, some 31), (12, some 39), (13, some 40)], [(4, some 31), (14, some 41)], [(4, some 31), (10, some 37), (15, some 42)], [(4, some 31)]] (by kernel_rfl)
       (locB _) (fun a b => Below a.heap.size a b) noR [0, 0, 0, 0, 0, 0, 0, 0, 0, 0, 0, 0, 0, 0, 0, 0, 0, 0] 0 (by kernel_rfl) (fun _ => Below.refl _ _) (fun _ _ _ => bthen) (locB_st hF _) trivial ?_ ?_
     · refine steps_cons ?s0 ( steps_cons ?s1 ( steps_cons ?s2 ( steps_cons ?s3 ( steps_cons ?s4 ( steps_cons ?s5 ( steps_cons ?s6 ( steps_cons ?s7 ( steps_cons ?s8 ( steps_cons ?s9 ( steps_cons ?s10 ( steps_cons ?s11 ( steps_cons ?s12 ( steps_cons ?s13 ( steps_cons ?s14 ( steps_cons ?s15 ( steps_cons ?s16 ( steps_cons ?s17 steps_nil)))))))))))))))))
       case s0 | s1 =>
         intro w' m' hE hR
         intro Q hQ
         go_wp2
         exact hQ _ _ _ rfl rfl (Below.refl _ _) trivial
       case s2 =>
         intro w' m' hE hR
         rintro _ rfl _ rfl Q hQ
         go_wp2
         exact hQ _ _ _ rfl rfl (Below.refl _ _) trivial
       case s3 | s10 =>
         intro w' m' hE hR
         rintro _ rfl Q hQ
         have bb := bthen (unhide HBR) (below_undrew hE)
         obtain ⟨⟨s0, s1, s2, s3, s4, s5⟩, ⟨s6, s7, s8⟩, s9, s10, s11, s12⟩ := unhide HX4 w' bb
         go_wp2
         exact hQ _ _ _ rfl rfl (Below.refl _ _) trivial
       case s4 | s5 | s7 | s11 | s13 =>
         intro w' m' hE hR
         rintro _ rfl Q hQ
         go_wp2
         exact hQ _ _ _ rfl rfl (Below.refl _ _) trivial
       case s6 =>
         intro w' m' hE hR
         rintro _ rfl _ rfl Q hQ
         have bb := bthen (unhide HBR) (below_undrew hE)
         obtain ⟨⟨s0, s1, s2, s3, s4, s5⟩, ⟨s6, s7, s8⟩, s9, s10, s11, s12⟩ := unhide HX4 w' bb
         rw [unhide HA2] at s7
         go_wp2
         exact hQ _ _ _ rfl rfl (Below.refl _ _) trivial
       case s8 | s14 =>
         intro w' m' hE hR
         rintro _ rfl _ rfl _ rfl Q hQ
         go_wp2
         exact hQ _ _ _ rfl rfl (Below.refl _ _) trivial
       case s9 | s15 =>
         intro w' m' hE hR
         rintro _ rfl _ rfl Q hQ
         have bb := bthen (unhide HBR) (below_undrew hE)
         obtain ⟨⟨s0, s1, s2, s3, s4, s5⟩, ⟨s6, s7, s8⟩, s9, s10, s11, s12⟩ := unhide HX4 w' bb
         go_wp2
         exact hQ _ _ _ rfl rfl (Below.refl _ _) trivial
       case s12 =>
         intro w' m' hE hR
         rintro _ rfl _ rfl Q hQ
         have bb := bthen (unhide HBR) (below_undrew hE)
         obtain ⟨⟨s0, s1, s2, s3, s4, s5⟩, ⟨s6, s7, s8⟩, s9, s10, s11, s12⟩ := unhide HX4 w' bb
         rw [unhide HA3] at s8
         go_wp2
         exact hQ _ _ _ rfl rfl (Below.refl _ _) trivial
       case s16 =>
         intro w' m' hE hR
         rintro _ rfl _ rfl _ rfl Q hQ
         have bb := bthen (unhide HBR) (below_undrew hE)
         obtain ⟨⟨s0, s1, s2, s3, s4, s5⟩, ⟨s6, s7, s8⟩, s9, s10, s11, s12⟩ := unhide HX4 w' bb
         go_wp2_with fail
         refine (unhide HSK w' s12).mono ?_
         rintro e w9 ⟨A9, c9, rfl, o9, b9⟩
         go_wp2
         exact hQ _ _ _ rfl ⟨A9, c9, rfl, own_rd o9⟩ b9 trivial
       case s17 =>
         intro w' m' hE hR
         rintro _ rfl Q hQ
         go_wp2
         exact hQ _ _ _ rfl ⟨_, _, [3, 1, 2, 0, 1], by decide, rfl, rd_lit w' [.int .i64 3, .int .i64 1, .int .i64 2, .int .i64 0, .int .i64 1] _⟩ ((Below.refl _ _).alloc (Nat.le_refl _) _) trivial
     intro w9 hE _
     rintro v0 - v1 - v2 - v3 - v4 hv4 v5 - v6 - v7 - v8 - v9 hv9 v10 - v11 - v12 - v13 - v14 - v15 - v16 ⟨A9, c9, rfl, r9⟩ v17 h17
     obtain rfl : v4 = _ := hv4
     obtain rfl : v9 = _ := hv9
     change wpList _ _ _ [_, _, _] _ _
     simp only [Act.put, List.setIfInBounds_toArray, List.set_cons_succ, List.set_cons_zero]
     obtain ⟨M, cm, ms, hml, rfl, rM⟩ := (h17 : sLit v17 w9)
     have b9 := bthen (unhide HBR) (below_undrew hE)
     clear hE hF
     obtain ⟨⟨s0, s1, s2, s3, s4, s5⟩, ⟨s6, s7, s8⟩, s9, s10, s11, s12⟩ := unhide HX4 w9 b9
     have hA := unhide HAK rfl ms hml
     clear s0 s1 s2 s3 s4 s5 s6 s7 s8 s9 s10
     have KA := aheadBlock_impl x L1 e1 A9 c9 sx M cm ms w9 s11 (by omega) r9 (by omega) rM (by omega)
     rw [hA] at KA
     clear hA
     go_wp2_with fail
     refine KA.mono ?_
     rintro e wx ⟨rfl, bx9⟩
     have b9 := bthen b9 bx9
     go_wp2
     go_roundw
     case rel => exact ⟨k + 1, by omega, by omega, by go_num, b9⟩
     case measure => simp [intOf]; omega
end Go.Proofs.YtihlhejencninaaGreat
