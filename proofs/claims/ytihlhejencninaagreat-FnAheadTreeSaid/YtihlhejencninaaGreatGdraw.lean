/- What the laws on leaders and waits draw. What the laws on counters draw. Keys and values that are drawn. Stores and differences that are drawn. Stores that are drawn without a bend are valid. Actions that are drawn. Rows of actions that are drawn. -/
import Derived.Test.YtihlhejencninaaGreatGint
import Derived.Test.YtihlhejencninaaGreatGval
import Derived.Test.YtihlhejencninaaGreatGact
import Derived.Outline
namespace Go.Proofs.YtihlhejencninaaGreat
open Go.RowKit
set_option linter.unusedVariables false
set_option linter.unusedSimpArgs false

end Go.Proofs.YtihlhejencninaaGreat
namespace Go.Proofs.YtihlhejencninaaGreat
open Go.RowKit
set_option linter.unusedVariables false
set_option linter.unusedSimpArgs false


end Go.Proofs.YtihlhejencninaaGreat
namespace Go.Proofs.YtihlhejencninaaGreat
open Go.RowKit
set_option linter.unusedVariables false
set_option linter.unusedSimpArgs false

theorem l20Key_any (g N : Nat) (w : World) (h : Rdr w g N) (hN : N ≤ 999000) :
   Calls Tryz.prog 131 #[.pointer (some ⟨g, 0, none⟩)] w fun e w' => ∃ v : Nat, v ≤ 31 ∧ e = .returned (.int .i64 v) ∧ Rdr w' g (N + 3) ∧ Chg (fun k => k = g) w w' := by
 go_enter Tryz.func131, Tryz.ntmps131
 go_wp2_with fail
 refine (pick_any g N 5 w h (by omega) (by omega) (by omega)).mono ?_
 rintro e w1 ⟨v1, hv1, rfl, h1, ch1⟩
 go_wp2_with fail
 refine (pick_any g (N + 1) 32 w1 h1 (by omega) (by omega) (by omega)).mono ?_
 rintro e w2 ⟨v2, hv2, rfl, h2, ch2⟩
 go_wp2_with fail
 refine (pick_any g (N + 1 + 1) 4 _ (h2.alloc _) (by omega) (by omega) (by omega)).mono ?_
 rintro e w3 ⟨v3, hv3, rfl, h3, ch3⟩
 have hg := h2.lt
 have hq : v3 / 3 < 2 := by omega
 have hq2 : (v3 : Int) / 3 = ((v3 / 3 : Nat) : Int) := by omega
 obtain ⟨x, hx, hc1⟩ := lit_int [(v1 : Int), (v2 : Int)] ch3 (show ¬ w2.heap.size = g by omega) (show v3 / 3 < 2 from hq)
 have hxb : 0 ≤ x ∧ x ≤ 31 := by simp at hx; omega
 obtain ⟨x, rfl⟩ := Int.eq_ofNat_of_zero_le hxb.1
 generalize v3 / 3 = q at *
 have i1 : (q : Int) < 2 := by omega
 clear hx
 go_wp2
 go_ret
 exact ⟨x, by omega, rfl, h3, ch1.trans (ch2.trans (((Chg.refl _ _).alloc _).trans ch3))⟩
theorem l20Value_any (g N : Nat) (w : World) (h : Rdr w g N) (hN : N ≤ 999000) :
   Calls Tryz.prog 132 #[.pointer (some ⟨g, 0, none⟩)] w fun e w' => ∃ v : Nat, v ≤ 1000000 ∧ e = .returned (.int .i64 v) ∧ Rdr w' g (N + 3) ∧ Chg (fun k => k = g) w w' := by
 go_enter Tryz.func132, Tryz.ntmps132
 go_wp2_with fail
 refine (pick_any g N 12 w h (by omega) (by omega) (by omega)).mono ?_
 rintro e w1 ⟨v1, hv1, rfl, h1, ch1⟩
 go_wp2_with fail
 refine (pick_any g (N + 1) 256 w1 h1 (by omega) (by omega) (by omega)).mono ?_
 rintro e w2 ⟨v2, hv2, rfl, h2, ch2⟩
 go_wp2_with fail
 refine (pick_any g (N + 1 + 1) 7 _ ((h2.alloc _).alloc _) (by omega) (by omega) (by omega)).mono ?_
 rintro e w3 ⟨v3, hv3, rfl, h3, ch3⟩
 have hg := h2.lt
 obtain ⟨x, hx, hc1⟩ := lit_int [0, 0, 1, 1, 2, 3, 4] ch3 (show ¬ (w2.alloc _).heap.size = g by simp; omega) (show v3 < 7 by omega)
 have hx2 : 0 ≤ x ∧ x < 5 := by simp at hx; omega
 obtain ⟨x, rfl⟩ := Int.eq_ofNat_of_zero_le hx2.1
 obtain ⟨y, hy, hc2⟩ := lit_int [(v1 : Int), (v2 : Int), 1000000, 999999, 0] ((Chg.refl (fun k => k = g) _).alloc _ |>.trans ch3) (show ¬ w2.heap.size = g by omega) (show x < 5 by omega)
 have hyb : 0 ≤ y ∧ y ≤ 1000000 := by simp at hy; omega
 obtain ⟨y, rfl⟩ := Int.eq_ofNat_of_zero_le hyb.1
 simp at hc1
 have i1 : (x : Int) < 5 := by omega
 clear hx hy
 go_wp2
 go_ret
 exact ⟨y, by omega, rfl, h3, ch1.trans (ch2.trans ((((Chg.refl _ _).alloc _).alloc _).trans ch3))⟩
end Go.Proofs.YtihlhejencninaaGreat
namespace Go.Proofs.YtihlhejencninaaGreat
open Go.RowKit
set_option linter.unusedVariables false
set_option linter.unusedSimpArgs false

end Go.Proofs.YtihlhejencninaaGreat
namespace Go.Proofs.YtihlhejencninaaGreat
open Go.RowKit
set_option linter.unusedVariables false
set_option linter.unusedSimpArgs false

theorem putV_ok {es : List Ent} {key value : Int} (h : storeB es = true) (h1 : 0 ≤ key) (h2 : key ≤ 31) (h3 : 0 ≤ value) (h4 : value ≤ 1000000) : storeB (putV es key value) = true := by
 unfold putV
 rw [if_pos h]
 split
 · exact (putL_ok h h1 h2 h3 h4).1
 · exact h
theorem l20Store_zero (g N : Nat) (w : World) (h : Rdr w g N) (hN : N ≤ 990000) :
   Calls Tryz.prog 78 #[.pointer (some ⟨g, 0, none⟩), .int .i64 0] w fun e w' => ∃ A c, ∃ xs : List Ent, xs.length ≤ 7 ∧ storeB xs = true ∧ e = .returned (.slice A xs.length c) ∧ w'.ownsRow w.heap.size 79 2 (.slice A xs.length c) xs.length (xs.flatMap encE) ∧ Rdr w' g (N + 60) ∧ Chg (fun k => k = g) w w' := by
 have hg := h.lt
 go_enter Tryz.func78, Tryz.ntmps78
 go_wp2_with fail
 refine (pick_any g N 7 _ (h.alloc _) (by omega) (by omega) (by omega)).mono ?_
 rintro e w1 ⟨v1, hv1, rfl, h1, ch1⟩
 have o1 := own_reader (own_made (base := w.heap.size) (e := 79) (size := 2) w #[] 0 (Nat.le_refl _) (by simp [maxLen]) rfl) ch1 hg
 have q1 := ((Chg.refl (fun k => k = g) w).alloc _).trans ch1
 go_wp2
 go_loopw [5, 6] (fun v i wr => ∃ (j : Nat) (A : Option Addr) (c : Nat) (xs : List Ent), j ≤ 6 ∧ xs.length ≤ 6 - j ∧ Hid (storeB xs = true) ∧ i = .int .i64 j ∧ v = .slice A xs.length c ∧ wr.ownsRow w.heap.size 79 2 (.slice A xs.length c) xs.length (xs.flatMap encE) ∧ Rdr wr g (N + 1 + 6 * (6 - j)) ∧ Chg (fun k => k = g) w wr) (fun _ i _ => (intOf i).toNat)
 case atStart => exact ⟨v1, _, _, [], by omega, by simp, rfl, rfl, rfl, o1, h1.more (by omega), q1⟩
 case round =>
   obtain ⟨j, A, c, xs, hj, hxl, hok, rfl, rfl, hown, hrd, hchg⟩ := hrel
   by_cases hlt : 0 < j
   · have hlt' : (0 : Int) < (j : Int) := by omega
     go_wp2_with fail
     refine (l20Key_any g _ wr hrd (by omega)).mono ?_
     rintro e w2 ⟨key, hkey, rfl, h2, ch2⟩
     have o2 := own_reader hown ch2 hg
     go_wp2_with fail
     refine (l20Value_any g _ w2 h2 (by omega)).mono ?_
     rintro e w3 ⟨val, hval, rfl, h3, ch3⟩
     have o3 := own_reader o2 ch3 hg
     have q3 := (hchg.trans ch2).trans ch3
     go_wp2_with fail
     refine (putValue_spec A c xs key val w3 (own_rd o3) (by omega)).mono ?_
     rintro e w4 ⟨A4, c4, rfl, o4, b4⟩
     have h4 := h3.new b4
     have q4 := q3.trans (Chg.of_new (S := fun k => k = g) b4)
     have hl4 := putV_len xs key val
     have hok4 := hide (putV_ok (unhide hok) (key := (key : Int)) (value := (val : Int)) (by omega) (by omega) (by omega) (by omega))
     generalize putV xs key val = ys at *
     go_wp2
     go_roundw
     case rel => exact ⟨j - 1, A4, c4, ys, by omega, by omega, hok4, by go_num, rfl, own_base o4 q3.size, h4.more (by omega), q4⟩
     case measure => simp [intOf]; omega
   · have hj0 : (j : Int) ≤ 0 := by omega
     go_wp2_with fail
     refine (odd_any g _ 0 wr hrd (by omega) (by omega) (by omega)).mono ?_
     rintro e w2 ⟨b, rfl, hb0, h2, ch2⟩
     have o2 := own_reader hown ch2 hg
     have q2 := hchg.trans ch2
     obtain rfl := hb0 rfl
     go_wp2
     go_ret
     exact ⟨A, c, xs, by omega, unhide hok, rfl, o2, h2.more (by omega), q2⟩
end Go.Proofs.YtihlhejencninaaGreat
namespace Go.Proofs.YtihlhejencninaaGreat
open Go.RowKit
set_option linter.unusedVariables false
set_option linter.unusedSimpArgs false

def actBd (a : Act) : Prop := (-10 ≤ a.kind ∧ a.kind ≤ 2000000) ∧ (-10 ≤ a.src ∧ a.src ≤ 2000000) ∧ (-10 ≤ a.dst ∧ a.dst ≤ 2000000) ∧ (-10 ≤ a.amt ∧ a.amt ≤ 2000000)
set_option maxHeartbeats 4000000 in
theorem l20Action_any (g N : Nat) (n : Int) (w : World) (h : Rdr w g N) (hN : N ≤ 990000) (hn : 0 ≤ n) (hn2 : n ≤ 1000000) :
   Calls Tryz.prog 133 #[.pointer (some ⟨g, 0, none⟩), .int .i64 n] w fun e w' => ∃ a : Act, actBd a ∧ e = .returned (.agg #[.int .i64 a.kind, .int .i64 a.src, .int .i64 a.dst, .int .i64 a.amt]) ∧ Rdr w' g (N + 20) ∧ Chg (fun k => k = g) w w' := by
 have hg := h.lt
 have kr := Blk.new w 56 #[.int .i64 0, .int .i64 0, .int .i64 0, .int .i64 0]
 go_enter Tryz.func133, Tryz.ntmps133
 go_wp2_with fail
 refine (pick_any g N 6 _ (h.alloc _) (by omega) (by omega) (by omega)).mono ?_
 rintro e w1 ⟨v1, hv1, rfl, h1, ch1⟩
 go_wp2_with fail
 refine (l20Key_any g _ w1 h1 (by omega)).mono ?_
 rintro e w2 ⟨v2, hv2, rfl, h2, ch2⟩
 go_wp2_with fail
 refine (l20Key_any g _ w2 h2 (by omega)).mono ?_
 rintro e w3 ⟨v3, hv3, rfl, h3, ch3⟩
 go_wp2_with fail
 refine (l20Value_any g _ w3 h3 (by omega)).mono ?_
 rintro e w4 ⟨v4, hv4, rfl, h4, ch4⟩
 have q4 := (((((Chg.refl (fun k => k = g) w).alloc (.cells #[.int .i64 0, .int .i64 0, .int .i64 0, .int .i64 0] 56)).trans ch1).trans ch2).trans ch3).trans ch4
 replace kr := (((kr.chg ch1 (by omega)).chg ch2 (by omega)).chg ch3 (by omega)).chg ch4 (by omega)
 have s4 : w.heap.size < w4.heap.size := kr.lt
 clear ch1 ch2 ch3 ch4 h h1 h2 h3
 have hv : v1 = 0 ∨ v1 = 1 ∨ v1 = 2 ∨ v1 = 3 ∨ v1 = 4 ∨ v1 = 5 := by omega
 clear hv1
 rcases hv with rfl | rfl | rfl | rfl | rfl | rfl
 all_goals
   go_wp2_with fail
   refine (odd_any g _ n _ (h4.alloc _) (by omega) hn hn2).mono ?_
   rintro e w5 ⟨b, rfl, -, h5, ch5⟩
   have kb := Blk.chg (Blk.new w4 56 _) ch5 (by omega)
   have k5 := (kr.alloc _).chg ch5 (by omega)
   have q5 := (q4.alloc _).trans ch5
   clear ch5
   obtain ⟨a, ha, kb'⟩ : ∃ a : Act, actBd a ∧ Blk w5 w4.heap.size 56 #[.int .i64 a.kind, .int .i64 a.src, .int .i64 a.dst, .int .i64 a.amt] := by
     first | exact ⟨⟨1, v2, 0, v4⟩, ⟨⟨by simp only []; omega, by simp only []; omega⟩, ⟨by simp only []; omega, by simp only []; omega⟩, ⟨by simp only []; omega, by simp only []; omega⟩, ⟨by simp only []; omega, by simp only []; omega⟩⟩, kb⟩ | exact ⟨⟨2, v2, v3, v4⟩, ⟨⟨by simp only []; omega, by simp only []; omega⟩, ⟨by simp only []; omega, by simp only []; omega⟩, ⟨by simp only []; omega, by simp only []; omega⟩, ⟨by simp only []; omega, by simp only []; omega⟩⟩, kb⟩ | exact ⟨⟨3, v2, v3, 0⟩, ⟨⟨by simp only []; omega, by simp only []; omega⟩, ⟨by simp only []; omega, by simp only []; omega⟩, ⟨by simp only []; omega, by simp only []; omega⟩, ⟨by simp only []; omega, by simp only []; omega⟩⟩, kb⟩ | exact ⟨⟨4, v2, v3, 0⟩, ⟨⟨by simp only []; omega, by simp only []; omega⟩, ⟨by simp only []; omega, by simp only []; omega⟩, ⟨by simp only []; omega, by simp only []; omega⟩, ⟨by simp only []; omega, by simp only []; omega⟩⟩, kb⟩ | exact ⟨⟨5, v2, v3, 0⟩, ⟨⟨by simp only []; omega, by simp only []; omega⟩, ⟨by simp only []; omega, by simp only []; omega⟩, ⟨by simp only []; omega, by simp only []; omega⟩, ⟨by simp only []; omega, by simp only []; omega⟩⟩, kb⟩ | exact ⟨⟨6, v2, 0, v4⟩, ⟨⟨by simp only []; omega, by simp only []; omega⟩, ⟨by simp only []; omega, by simp only []; omega⟩, ⟨by simp only []; omega, by simp only []; omega⟩, ⟨by simp only []; omega, by simp only []; omega⟩⟩, kb⟩
   clear kb
   have HA := hide ha
   obtain ⟨⟨a00, a01⟩, ⟨a10, a11⟩, ⟨a20, a21⟩, ⟨a30, a31⟩⟩ := ha
   cases b
   · have z0 : w5.cell? ⟨w4.heap.size, 0, none⟩ = some (.int .i64 a.kind) := kb'.cell 0
     have z1 : w5.cell? ⟨w4.heap.size, 1, none⟩ = some (.int .i64 a.src) := kb'.cell 1
     have z2 : w5.cell? ⟨w4.heap.size, 2, none⟩ = some (.int .i64 a.dst) := kb'.cell 2
     have z3 : w5.cell? ⟨w4.heap.size, 3, none⟩ = some (.int .i64 a.amt) := kb'.cell 3
     have y0 : w5.cell? ⟨w.heap.size, 0, none⟩ = some (.int .i64 0) := k5.cell 0
     have y1 : w5.cell? ⟨w.heap.size, 1, none⟩ = some (.int .i64 0) := k5.cell 1
     have y2 : w5.cell? ⟨w.heap.size, 2, none⟩ = some (.int .i64 0) := k5.cell 2
     have y3 : w5.cell? ⟨w.heap.size, 3, none⟩ = some (.int .i64 0) := k5.cell 3
     have p0 : w5.frozen? ⟨w.heap.size, 0, none⟩ = false := k5.frozen 0
     have p1 : w5.frozen? ⟨w.heap.size, 1, none⟩ = false := k5.frozen 1
     have p2 : w5.frozen? ⟨w.heap.size, 2, none⟩ = false := k5.frozen 2
     have p3 : w5.frozen? ⟨w.heap.size, 3, none⟩ = false := k5.frozen 3
     have K5 := hide k5
     clear kb' k5
     go_wp2
     have hkf := hide (Blk.set_ (Blk.set_ (Blk.set_ (Blk.set_ (unhide K5) 0 (.int .i64 a.kind)) 1 (.int .i64 a.src)) 2 (.int .i64 a.dst)) 3 (.int .i64 a.amt))
     have hch := (Chg.setCell (Chg.setCell (Chg.setCell (Chg.setCell q5 (p := ⟨w.heap.size, 0, none⟩) (.inr (Nat.le_refl _)) (.int .i64 a.kind)) (p := ⟨w.heap.size, 1, none⟩) (.inr (Nat.le_refl _)) (.int .i64 a.src)) (p := ⟨w.heap.size, 2, none⟩) (.inr (Nat.le_refl _)) (.int .i64 a.dst)) (p := ⟨w.heap.size, 3, none⟩) (.inr (Nat.le_refl _)) (.int .i64 a.amt))
     have hrd := (h5.chg (Chg.setCell (Chg.setCell (Chg.setCell (Chg.setCell (Chg.refl (fun k => k = w.heap.size ∨ k = w4.heap.size) _) (p := ⟨w.heap.size, 0, none⟩) (by simp) (.int .i64 a.kind)) (p := ⟨w.heap.size, 1, none⟩) (by simp) (.int .i64 a.src)) (p := ⟨w.heap.size, 2, none⟩) (by simp) (.int .i64 a.dst)) (p := ⟨w.heap.size, 3, none⟩) (by simp) (.int .i64 a.amt)) (fun k hk hS => by omega))
     generalize hF : World.setCell _ _ _ = wF at hch hrd ⊢
     have kf : Blk wF w.heap.size 56 #[.int .i64 a.kind, .int .i64 a.src, .int .i64 a.dst, .int .i64 a.amt] := by rw [← hF]; exact unhide hkf
     clear hkf hF
     have c0 : wF.cell? ⟨w.heap.size, 0, none⟩ = some (.int .i64 a.kind) := kf.cell 0
     have c1 : wF.cell? ⟨w.heap.size, 1, none⟩ = some (.int .i64 a.src) := kf.cell 1
     have c2 : wF.cell? ⟨w.heap.size, 2, none⟩ = some (.int .i64 a.dst) := kf.cell 2
     have c3 : wF.cell? ⟨w.heap.size, 3, none⟩ = some (.int .i64 a.amt) := kf.cell 3
     refine bodyPost_ret (v := .agg #[.int .i64 a.kind, .int .i64 a.src, .int .i64 a.dst, .int .i64 a.amt]) (by simp [results, Tryz.results133, go_sem, c0, c1, c2, c3]) rfl ?_
     exact ⟨⟨a.kind, a.src, a.dst, a.amt⟩, unhide HA, rfl, hrd.more (by omega), hch⟩
   · go_wp2_with fail
     refine (pick_any g _ 4 w5 h5 (by omega) (by omega) (by omega)).mono ?_
     rintro e w6 ⟨v6, hv6, rfl, h6, ch6⟩
     have kb6 := kb'.chg ch6 (by omega)
     have k6 := k5.chg ch6 (by omega)
     have q6 := q5.trans ch6
     have s6 : w4.heap.size < w6.heap.size := kb6.lt
     clear kb' k5 q5 ch6 h5
     have hv : v6 = 0 ∨ v6 = 1 ∨ v6 = 2 ∨ v6 = 3 := by omega
     clear hv6
     rcases hv with rfl | rfl | rfl | rfl
     · go_wp2_with fail
       refine (pick_any g _ 2 _ (h6.alloc _) (by omega) (by omega) (by omega)).mono ?_
       rintro e w7 ⟨v7, hv7, rfl, h7, ch7⟩
       obtain ⟨x, hx, hc1⟩ := lit_int [0, 7] ch7 (show ¬ w6.heap.size = g by have := h6.lt; omega) (show v7 < 2 by omega)
       obtain ⟨x0, x1⟩ : -10 ≤ x ∧ x ≤ 2000000 := by simp at hx; omega
       clear hx
       have kb7 := (kb6.alloc _).chg ch7 (by omega)
       have k7 := (k6.alloc _).chg ch7 (by omega)
       have q7 := (q6.alloc _).trans ch7
       clear kb6 k6 q6 ch7 h6
       have z0 : w7.cell? ⟨w4.heap.size, 0, none⟩ = some (.int .i64 a.kind) := kb7.cell 0
       have z1 : w7.cell? ⟨w4.heap.size, 1, none⟩ = some (.int .i64 a.src) := kb7.cell 1
       have z2 : w7.cell? ⟨w4.heap.size, 2, none⟩ = some (.int .i64 a.dst) := kb7.cell 2
       have z3 : w7.cell? ⟨w4.heap.size, 3, none⟩ = some (.int .i64 a.amt) := kb7.cell 3
       have t0 : w7.frozen? ⟨w4.heap.size, 0, none⟩ = false := kb7.frozen 0
       have t1 : w7.frozen? ⟨w4.heap.size, 1, none⟩ = false := kb7.frozen 1
       have t2 : w7.frozen? ⟨w4.heap.size, 2, none⟩ = false := kb7.frozen 2
       have t3 : w7.frozen? ⟨w4.heap.size, 3, none⟩ = false := kb7.frozen 3
       have y0 : w7.cell? ⟨w.heap.size, 0, none⟩ = some (.int .i64 0) := k7.cell 0
       have y1 : w7.cell? ⟨w.heap.size, 1, none⟩ = some (.int .i64 0) := k7.cell 1
       have y2 : w7.cell? ⟨w.heap.size, 2, none⟩ = some (.int .i64 0) := k7.cell 2
       have y3 : w7.cell? ⟨w.heap.size, 3, none⟩ = some (.int .i64 0) := k7.cell 3
       have p0 : w7.frozen? ⟨w.heap.size, 0, none⟩ = false := k7.frozen 0
       have p1 : w7.frozen? ⟨w.heap.size, 1, none⟩ = false := k7.frozen 1
       have p2 : w7.frozen? ⟨w.heap.size, 2, none⟩ = false := k7.frozen 2
       have p3 : w7.frozen? ⟨w.heap.size, 3, none⟩ = false := k7.frozen 3
       have K7 := hide k7
       have s7 : w4.heap.size ≠ w.heap.size := by omega
       clear kb7 k7
       go_wp2
       have hkf := hide (Blk.set_ (Blk.set_ (Blk.set_ (Blk.set_ (Blk.far_ (unhide K7) (p := ⟨w4.heap.size, 0, none⟩) (by simp only []; omega) (.int .i64 x)) 0 (.int .i64 x)) 1 (.int .i64 a.src)) 2 (.int .i64 a.dst)) 3 (.int .i64 a.amt))
       have hch := (Chg.setCell (Chg.setCell (Chg.setCell (Chg.setCell (Chg.setCell q7 (p := ⟨w4.heap.size, 0, none⟩) (.inr (by simp only []; omega)) (.int .i64 x)) (p := ⟨w.heap.size, 0, none⟩) (.inr (Nat.le_refl _)) (.int .i64 x)) (p := ⟨w.heap.size, 1, none⟩) (.inr (Nat.le_refl _)) (.int .i64 a.src)) (p := ⟨w.heap.size, 2, none⟩) (.inr (Nat.le_refl _)) (.int .i64 a.dst)) (p := ⟨w.heap.size, 3, none⟩) (.inr (Nat.le_refl _)) (.int .i64 a.amt))
       have hrd := (h7.chg (Chg.setCell (Chg.setCell (Chg.setCell (Chg.setCell (Chg.setCell (Chg.refl (fun k => k = w.heap.size ∨ k = w4.heap.size) _) (p := ⟨w4.heap.size, 0, none⟩) (by simp) (.int .i64 x)) (p := ⟨w.heap.size, 0, none⟩) (by simp) (.int .i64 x)) (p := ⟨w.heap.size, 1, none⟩) (by simp) (.int .i64 a.src)) (p := ⟨w.heap.size, 2, none⟩) (by simp) (.int .i64 a.dst)) (p := ⟨w.heap.size, 3, none⟩) (by simp) (.int .i64 a.amt)) (fun k hk hS => by omega))
       generalize hF : World.setCell _ _ _ = wF at hch hrd ⊢
       have kf : Blk wF w.heap.size 56 #[.int .i64 x, .int .i64 a.src, .int .i64 a.dst, .int .i64 a.amt] := by rw [← hF]; exact unhide hkf
       clear hkf hF
       have c0 : wF.cell? ⟨w.heap.size, 0, none⟩ = some (.int .i64 x) := kf.cell 0
       have c1 : wF.cell? ⟨w.heap.size, 1, none⟩ = some (.int .i64 a.src) := kf.cell 1
       have c2 : wF.cell? ⟨w.heap.size, 2, none⟩ = some (.int .i64 a.dst) := kf.cell 2
       have c3 : wF.cell? ⟨w.heap.size, 3, none⟩ = some (.int .i64 a.amt) := kf.cell 3
       refine bodyPost_ret (v := .agg #[.int .i64 x, .int .i64 a.src, .int .i64 a.dst, .int .i64 a.amt]) (by simp [results, Tryz.results133, go_sem, c0, c1, c2, c3]) rfl ?_
       exact ⟨⟨x, a.src, a.dst, a.amt⟩, ⟨⟨x0, x1⟩, ⟨a10, a11⟩, ⟨a20, a21⟩, ⟨a30, a31⟩⟩, rfl, hrd.more (by omega), hch⟩
     · go_wp2_with fail
       refine (pick_any g _ 2 _ (h6.alloc _) (by omega) (by omega) (by omega)).mono ?_
       rintro e w7 ⟨v7, hv7, rfl, h7, ch7⟩
       obtain ⟨x, hx, hc1⟩ := lit_int [-1, 32] ch7 (show ¬ w6.heap.size = g by have := h6.lt; omega) (show v7 < 2 by omega)
       obtain ⟨x0, x1⟩ : -10 ≤ x ∧ x ≤ 2000000 := by simp at hx; omega
       clear hx
       have kb7 := (kb6.alloc _).chg ch7 (by omega)
       have k7 := (k6.alloc _).chg ch7 (by omega)
       have q7 := (q6.alloc _).trans ch7
       clear kb6 k6 q6 ch7 h6
       have z0 : w7.cell? ⟨w4.heap.size, 0, none⟩ = some (.int .i64 a.kind) := kb7.cell 0
       have z1 : w7.cell? ⟨w4.heap.size, 1, none⟩ = some (.int .i64 a.src) := kb7.cell 1
       have z2 : w7.cell? ⟨w4.heap.size, 2, none⟩ = some (.int .i64 a.dst) := kb7.cell 2
       have z3 : w7.cell? ⟨w4.heap.size, 3, none⟩ = some (.int .i64 a.amt) := kb7.cell 3
       have t0 : w7.frozen? ⟨w4.heap.size, 0, none⟩ = false := kb7.frozen 0
       have t1 : w7.frozen? ⟨w4.heap.size, 1, none⟩ = false := kb7.frozen 1
       have t2 : w7.frozen? ⟨w4.heap.size, 2, none⟩ = false := kb7.frozen 2
       have t3 : w7.frozen? ⟨w4.heap.size, 3, none⟩ = false := kb7.frozen 3
       have y0 : w7.cell? ⟨w.heap.size, 0, none⟩ = some (.int .i64 0) := k7.cell 0
       have y1 : w7.cell? ⟨w.heap.size, 1, none⟩ = some (.int .i64 0) := k7.cell 1
       have y2 : w7.cell? ⟨w.heap.size, 2, none⟩ = some (.int .i64 0) := k7.cell 2
       have y3 : w7.cell? ⟨w.heap.size, 3, none⟩ = some (.int .i64 0) := k7.cell 3
       have p0 : w7.frozen? ⟨w.heap.size, 0, none⟩ = false := k7.frozen 0
       have p1 : w7.frozen? ⟨w.heap.size, 1, none⟩ = false := k7.frozen 1
       have p2 : w7.frozen? ⟨w.heap.size, 2, none⟩ = false := k7.frozen 2
       have p3 : w7.frozen? ⟨w.heap.size, 3, none⟩ = false := k7.frozen 3
       have K7 := hide k7
       have s7 : w4.heap.size ≠ w.heap.size := by omega
       clear kb7 k7
       go_wp2
       have hkf := hide (Blk.set_ (Blk.set_ (Blk.set_ (Blk.set_ (Blk.far_ (unhide K7) (p := ⟨w4.heap.size, 1, none⟩) (by simp only []; omega) (.int .i64 x)) 0 (.int .i64 a.kind)) 1 (.int .i64 x)) 2 (.int .i64 a.dst)) 3 (.int .i64 a.amt))
       have hch := (Chg.setCell (Chg.setCell (Chg.setCell (Chg.setCell (Chg.setCell q7 (p := ⟨w4.heap.size, 1, none⟩) (.inr (by simp only []; omega)) (.int .i64 x)) (p := ⟨w.heap.size, 0, none⟩) (.inr (Nat.le_refl _)) (.int .i64 a.kind)) (p := ⟨w.heap.size, 1, none⟩) (.inr (Nat.le_refl _)) (.int .i64 x)) (p := ⟨w.heap.size, 2, none⟩) (.inr (Nat.le_refl _)) (.int .i64 a.dst)) (p := ⟨w.heap.size, 3, none⟩) (.inr (Nat.le_refl _)) (.int .i64 a.amt))
       have hrd := (h7.chg (Chg.setCell (Chg.setCell (Chg.setCell (Chg.setCell (Chg.setCell (Chg.refl (fun k => k = w.heap.size ∨ k = w4.heap.size) _) (p := ⟨w4.heap.size, 1, none⟩) (by simp) (.int .i64 x)) (p := ⟨w.heap.size, 0, none⟩) (by simp) (.int .i64 a.kind)) (p := ⟨w.heap.size, 1, none⟩) (by simp) (.int .i64 x)) (p := ⟨w.heap.size, 2, none⟩) (by simp) (.int .i64 a.dst)) (p := ⟨w.heap.size, 3, none⟩) (by simp) (.int .i64 a.amt)) (fun k hk hS => by omega))
       generalize hF : World.setCell _ _ _ = wF at hch hrd ⊢
       have kf : Blk wF w.heap.size 56 #[.int .i64 a.kind, .int .i64 x, .int .i64 a.dst, .int .i64 a.amt] := by rw [← hF]; exact unhide hkf
       clear hkf hF
       have c0 : wF.cell? ⟨w.heap.size, 0, none⟩ = some (.int .i64 a.kind) := kf.cell 0
       have c1 : wF.cell? ⟨w.heap.size, 1, none⟩ = some (.int .i64 x) := kf.cell 1
       have c2 : wF.cell? ⟨w.heap.size, 2, none⟩ = some (.int .i64 a.dst) := kf.cell 2
       have c3 : wF.cell? ⟨w.heap.size, 3, none⟩ = some (.int .i64 a.amt) := kf.cell 3
       refine bodyPost_ret (v := .agg #[.int .i64 a.kind, .int .i64 x, .int .i64 a.dst, .int .i64 a.amt]) (by simp [results, Tryz.results133, go_sem, c0, c1, c2, c3]) rfl ?_
       exact ⟨⟨a.kind, x, a.dst, a.amt⟩, ⟨⟨a00, a01⟩, ⟨x0, x1⟩, ⟨a20, a21⟩, ⟨a30, a31⟩⟩, rfl, hrd.more (by omega), hch⟩
     · go_wp2_with fail
       refine (pick_any g _ 2 _ (h6.alloc _) (by omega) (by omega) (by omega)).mono ?_
       rintro e w7 ⟨v7, hv7, rfl, h7, ch7⟩
       obtain ⟨x, hx, hc1⟩ := lit_int [-1, 1000001] ch7 (show ¬ w6.heap.size = g by have := h6.lt; omega) (show v7 < 2 by omega)
       obtain ⟨x0, x1⟩ : -10 ≤ x ∧ x ≤ 2000000 := by simp at hx; omega
       clear hx
       have kb7 := (kb6.alloc _).chg ch7 (by omega)
       have k7 := (k6.alloc _).chg ch7 (by omega)
       have q7 := (q6.alloc _).trans ch7
       clear kb6 k6 q6 ch7 h6
       have z0 : w7.cell? ⟨w4.heap.size, 0, none⟩ = some (.int .i64 a.kind) := kb7.cell 0
       have z1 : w7.cell? ⟨w4.heap.size, 1, none⟩ = some (.int .i64 a.src) := kb7.cell 1
       have z2 : w7.cell? ⟨w4.heap.size, 2, none⟩ = some (.int .i64 a.dst) := kb7.cell 2
       have z3 : w7.cell? ⟨w4.heap.size, 3, none⟩ = some (.int .i64 a.amt) := kb7.cell 3
       have t0 : w7.frozen? ⟨w4.heap.size, 0, none⟩ = false := kb7.frozen 0
       have t1 : w7.frozen? ⟨w4.heap.size, 1, none⟩ = false := kb7.frozen 1
       have t2 : w7.frozen? ⟨w4.heap.size, 2, none⟩ = false := kb7.frozen 2
       have t3 : w7.frozen? ⟨w4.heap.size, 3, none⟩ = false := kb7.frozen 3
       have y0 : w7.cell? ⟨w.heap.size, 0, none⟩ = some (.int .i64 0) := k7.cell 0
       have y1 : w7.cell? ⟨w.heap.size, 1, none⟩ = some (.int .i64 0) := k7.cell 1
       have y2 : w7.cell? ⟨w.heap.size, 2, none⟩ = some (.int .i64 0) := k7.cell 2
       have y3 : w7.cell? ⟨w.heap.size, 3, none⟩ = some (.int .i64 0) := k7.cell 3
       have p0 : w7.frozen? ⟨w.heap.size, 0, none⟩ = false := k7.frozen 0
       have p1 : w7.frozen? ⟨w.heap.size, 1, none⟩ = false := k7.frozen 1
       have p2 : w7.frozen? ⟨w.heap.size, 2, none⟩ = false := k7.frozen 2
       have p3 : w7.frozen? ⟨w.heap.size, 3, none⟩ = false := k7.frozen 3
       have K7 := hide k7
       have s7 : w4.heap.size ≠ w.heap.size := by omega
       clear kb7 k7
       go_wp2
       have hkf := hide (Blk.set_ (Blk.set_ (Blk.set_ (Blk.set_ (Blk.far_ (unhide K7) (p := ⟨w4.heap.size, 3, none⟩) (by simp only []; omega) (.int .i64 x)) 0 (.int .i64 a.kind)) 1 (.int .i64 a.src)) 2 (.int .i64 a.dst)) 3 (.int .i64 x))
       have hch := (Chg.setCell (Chg.setCell (Chg.setCell (Chg.setCell (Chg.setCell q7 (p := ⟨w4.heap.size, 3, none⟩) (.inr (by simp only []; omega)) (.int .i64 x)) (p := ⟨w.heap.size, 0, none⟩) (.inr (Nat.le_refl _)) (.int .i64 a.kind)) (p := ⟨w.heap.size, 1, none⟩) (.inr (Nat.le_refl _)) (.int .i64 a.src)) (p := ⟨w.heap.size, 2, none⟩) (.inr (Nat.le_refl _)) (.int .i64 a.dst)) (p := ⟨w.heap.size, 3, none⟩) (.inr (Nat.le_refl _)) (.int .i64 x))
       have hrd := (h7.chg (Chg.setCell (Chg.setCell (Chg.setCell (Chg.setCell (Chg.setCell (Chg.refl (fun k => k = w.heap.size ∨ k = w4.heap.size) _) (p := ⟨w4.heap.size, 3, none⟩) (by simp) (.int .i64 x)) (p := ⟨w.heap.size, 0, none⟩) (by simp) (.int .i64 a.kind)) (p := ⟨w.heap.size, 1, none⟩) (by simp) (.int .i64 a.src)) (p := ⟨w.heap.size, 2, none⟩) (by simp) (.int .i64 a.dst)) (p := ⟨w.heap.size, 3, none⟩) (by simp) (.int .i64 x)) (fun k hk hS => by omega))
       generalize hF : World.setCell _ _ _ = wF at hch hrd ⊢
       have kf : Blk wF w.heap.size 56 #[.int .i64 a.kind, .int .i64 a.src, .int .i64 a.dst, .int .i64 x] := by rw [← hF]; exact unhide hkf
       clear hkf hF
       have c0 : wF.cell? ⟨w.heap.size, 0, none⟩ = some (.int .i64 a.kind) := kf.cell 0
       have c1 : wF.cell? ⟨w.heap.size, 1, none⟩ = some (.int .i64 a.src) := kf.cell 1
       have c2 : wF.cell? ⟨w.heap.size, 2, none⟩ = some (.int .i64 a.dst) := kf.cell 2
       have c3 : wF.cell? ⟨w.heap.size, 3, none⟩ = some (.int .i64 x) := kf.cell 3
       refine bodyPost_ret (v := .agg #[.int .i64 a.kind, .int .i64 a.src, .int .i64 a.dst, .int .i64 x]) (by simp [results, Tryz.results133, go_sem, c0, c1, c2, c3]) rfl ?_
       exact ⟨⟨a.kind, a.src, a.dst, x⟩, ⟨⟨a00, a01⟩, ⟨a10, a11⟩, ⟨a20, a21⟩, ⟨x0, x1⟩⟩, rfl, hrd.more (by omega), hch⟩
     · have z0 : w6.cell? ⟨w4.heap.size, 0, none⟩ = some (.int .i64 a.kind) := kb6.cell 0
       have z1 : w6.cell? ⟨w4.heap.size, 1, none⟩ = some (.int .i64 a.src) := kb6.cell 1
       have z2 : w6.cell? ⟨w4.heap.size, 2, none⟩ = some (.int .i64 a.dst) := kb6.cell 2
       have z3 : w6.cell? ⟨w4.heap.size, 3, none⟩ = some (.int .i64 a.amt) := kb6.cell 3
       have t0 : w6.frozen? ⟨w4.heap.size, 0, none⟩ = false := kb6.frozen 0
       have t1 : w6.frozen? ⟨w4.heap.size, 1, none⟩ = false := kb6.frozen 1
       have t2 : w6.frozen? ⟨w4.heap.size, 2, none⟩ = false := kb6.frozen 2
       have t3 : w6.frozen? ⟨w4.heap.size, 3, none⟩ = false := kb6.frozen 3
       have y0 : w6.cell? ⟨w.heap.size, 0, none⟩ = some (.int .i64 0) := k6.cell 0
       have y1 : w6.cell? ⟨w.heap.size, 1, none⟩ = some (.int .i64 0) := k6.cell 1
       have y2 : w6.cell? ⟨w.heap.size, 2, none⟩ = some (.int .i64 0) := k6.cell 2
       have y3 : w6.cell? ⟨w.heap.size, 3, none⟩ = some (.int .i64 0) := k6.cell 3
       have p0 : w6.frozen? ⟨w.heap.size, 0, none⟩ = false := k6.frozen 0
       have p1 : w6.frozen? ⟨w.heap.size, 1, none⟩ = false := k6.frozen 1
       have p2 : w6.frozen? ⟨w.heap.size, 2, none⟩ = false := k6.frozen 2
       have p3 : w6.frozen? ⟨w.heap.size, 3, none⟩ = false := k6.frozen 3
       have K7 := hide k6
       have s7 : w4.heap.size ≠ w.heap.size := by omega
       clear kb6 k6
       go_wp2
       have hkf := hide (Blk.set_ (Blk.set_ (Blk.set_ (Blk.set_ (Blk.far_ (Blk.far_ (Blk.far_ (Blk.far_ (unhide K7) (p := ⟨w4.heap.size, 0, none⟩) (by simp only []; omega) (.int .i64 1)) (p := ⟨w4.heap.size, 1, none⟩) (by simp only []; omega) (.int .i64 0)) (p := ⟨w4.heap.size, 2, none⟩) (by simp only []; omega) (.int .i64 1)) (p := ⟨w4.heap.size, 3, none⟩) (by simp only []; omega) (.int .i64 0)) 0 (.int .i64 1)) 1 (.int .i64 0)) 2 (.int .i64 1)) 3 (.int .i64 0))
       have hch := (Chg.setCell (Chg.setCell (Chg.setCell (Chg.setCell (Chg.setCell (Chg.setCell (Chg.setCell (Chg.setCell q6 (p := ⟨w4.heap.size, 0, none⟩) (.inr (by simp only []; omega)) (.int .i64 1)) (p := ⟨w4.heap.size, 1, none⟩) (.inr (by simp only []; omega)) (.int .i64 0)) (p := ⟨w4.heap.size, 2, none⟩) (.inr (by simp only []; omega)) (.int .i64 1)) (p := ⟨w4.heap.size, 3, none⟩) (.inr (by simp only []; omega)) (.int .i64 0)) (p := ⟨w.heap.size, 0, none⟩) (.inr (Nat.le_refl _)) (.int .i64 1)) (p := ⟨w.heap.size, 1, none⟩) (.inr (Nat.le_refl _)) (.int .i64 0)) (p := ⟨w.heap.size, 2, none⟩) (.inr (Nat.le_refl _)) (.int .i64 1)) (p := ⟨w.heap.size, 3, none⟩) (.inr (Nat.le_refl _)) (.int .i64 0))
       have hrd := (h6.chg (Chg.setCell (Chg.setCell (Chg.setCell (Chg.setCell (Chg.setCell (Chg.setCell (Chg.setCell (Chg.setCell (Chg.refl (fun k => k = w.heap.size ∨ k = w4.heap.size) _) (p := ⟨w4.heap.size, 0, none⟩) (by simp) (.int .i64 1)) (p := ⟨w4.heap.size, 1, none⟩) (by simp) (.int .i64 0)) (p := ⟨w4.heap.size, 2, none⟩) (by simp) (.int .i64 1)) (p := ⟨w4.heap.size, 3, none⟩) (by simp) (.int .i64 0)) (p := ⟨w.heap.size, 0, none⟩) (by simp) (.int .i64 1)) (p := ⟨w.heap.size, 1, none⟩) (by simp) (.int .i64 0)) (p := ⟨w.heap.size, 2, none⟩) (by simp) (.int .i64 1)) (p := ⟨w.heap.size, 3, none⟩) (by simp) (.int .i64 0)) (fun k hk hS => by omega))
       generalize hF : World.setCell _ _ _ = wF at hch hrd ⊢
       have kf : Blk wF w.heap.size 56 #[.int .i64 1, .int .i64 0, .int .i64 1, .int .i64 0] := by rw [← hF]; exact unhide hkf
       clear hkf hF
       have c0 : wF.cell? ⟨w.heap.size, 0, none⟩ = some (.int .i64 1) := kf.cell 0
       have c1 : wF.cell? ⟨w.heap.size, 1, none⟩ = some (.int .i64 0) := kf.cell 1
       have c2 : wF.cell? ⟨w.heap.size, 2, none⟩ = some (.int .i64 1) := kf.cell 2
       have c3 : wF.cell? ⟨w.heap.size, 3, none⟩ = some (.int .i64 0) := kf.cell 3
       refine bodyPost_ret (v := .agg #[.int .i64 1, .int .i64 0, .int .i64 1, .int .i64 0]) (by simp [results, Tryz.results133, go_sem, c0, c1, c2, c3]) rfl ?_
       exact ⟨⟨1, 0, 1, 0⟩, ⟨by simp only []; omega, by simp only []; omega, by simp only []; omega, by simp only []; omega⟩, rfl, hrd.more (by omega), hch⟩
end Go.Proofs.YtihlhejencninaaGreat
namespace Go.Proofs.YtihlhejencninaaGreat
open Go.RowKit
set_option linter.unusedVariables false
set_option linter.unusedSimpArgs false

theorem el_actD : El Tryz.prog 30 56 4 32 := El.mk_ Tryz.underlying30 info_act rfl (by omega)
theorem one_actsD (es : List Act) : ∀ u ∈ es.flatMap encA, u.oneCell' = true := by
 intro u hu
 obtain ⟨e, _, h⟩ := List.mem_flatMap.1 hu
 simp [encA] at h
 rcases h with rfl | rfl | rfl | rfl <;> rfl
theorem snoc_actsD (gs : List Act) (x : Act) : gs.flatMap encA ++ encA x = (gs ++ [x]).flatMap encA := by simp
set_option maxHeartbeats 4000000 in
theorem l20Actions_any (g N : Nat) (n : Int) (w : World) (h : Rdr w g N) (hN : N ≤ 900000) (hn : 0 ≤ n) (hn2 : n ≤ 1000000) :
   Calls Tryz.prog 79 #[.pointer (some ⟨g, 0, none⟩), .int .i64 n] w fun e w' => ∃ A c, ∃ xs : List Act, xs.length ≤ 11 ∧ e = .returned (.slice A xs.length c) ∧ w'.ownsRow w.heap.size 56 4 (.slice A xs.length c) xs.length (xs.flatMap encA) ∧ Rdr w' g (N + 200) ∧ Chg (fun k => k = g) w w' := by
 have hg := h.lt
 go_enter Tryz.func79, Tryz.ntmps79
 go_wp2_with fail
 refine (pick_any g N 7 _ (h.alloc _) (by omega) (by omega) (by omega)).mono ?_
 rintro e w1 ⟨v1, hv1, rfl, h1, ch1⟩
 have o1 := own_reader (own_made (base := w.heap.size) (e := 56) (size := 4) w #[] 0 (Nat.le_refl _) (by simp [maxLen]) rfl) ch1 hg
 have q1 := ((Chg.refl (fun k => k = g) w).alloc _).trans ch1
 go_wp2
 go_loopw [5, 6] (fun v i wr => ∃ (j : Nat) (A : Option Addr) (c : Nat) (xs : List Act), j ≤ 6 ∧ xs.length ≤ 6 - j ∧ i = .int .i64 j ∧ v = .slice A xs.length c ∧ wr.ownsRow w.heap.size 56 4 (.slice A xs.length c) xs.length (xs.flatMap encA) ∧ Rdr wr g (N + 1 + 20 * (6 - j)) ∧ Chg (fun k => k = g) w wr) (fun _ i _ => (intOf i).toNat)
 case atStart => exact ⟨v1, _, _, [], by omega, by simp, rfl, rfl, o1, h1.more (by omega), q1⟩
 case round =>
   clear o1 q1 h1
   obtain ⟨j, A, c, xs, hj, hxl, rfl, rfl, hown, hrd, hchg⟩ := hrel
   by_cases hlt : 0 < j
   · have hlt' : (0 : Int) < (j : Int) := by omega
     go_wp2_with fail
     refine (l20Action_any g _ 0 wr hrd (by omega) (by omega) (by omega)).mono ?_
     rintro e w2 ⟨x, -, rfl, h2, ch2⟩
     have o2 := own_reader hown ch2 hg
     have q2 := hchg.trans ch2
     clear hown hrd hchg ch2
     go_wp2_with (at_builtin; refine wpList_app rfl (.tmp 14) (.tmp 17) 30 rfl el_actD rfl (own_alloc o2 _) rfl (rd_lit w2 [.int .i64 x.kind, .int .i64 x.src, .int .i64 x.dst, .int .i64 x.amt] _) rfl (one_actsD [x]) (by simp only [maxLen]; omega) (by omega) (by have := q2.size; simp; omega) ?_; intro A7 c7 w7 o7 ch7 d7 _)
     go_roundw
     case rel => exact ⟨j - 1, A7, c7, xs ++ [x], by omega, by simp; omega, by go_num, by simp, by rw [← snoc_actsD]; simpa [encA] using o7, ((h2.alloc _).chg ch7 (fun k hk hA => by have := own_block o2 k (by rw [hA]; rfl); omega)).more (by omega), chg_g (q2.alloc _) (own_alloc o2 _) ch7 (Nat.le_refl _)⟩
     case measure => simp [intOf]; omega
   · have hj0 : (j : Int) ≤ 0 := by omega
     go_wp2_with fail
     refine (odd_any g _ n wr hrd (by omega) hn hn2).mono ?_
     rintro e w2 ⟨b, rfl, _, h2, ch2⟩
     have o2 := own_reader hown ch2 hg
     have q2 := hchg.trans ch2
     clear hown hrd hchg ch2
     cases b
     · go_wp2
       go_ret
       exact ⟨A, c, xs, by omega, rfl, o2, h2.more (by omega), q2⟩
     · go_wp2_with fail
       refine (pick_any g _ 2 w2 h2 (by omega) (by omega) (by omega)).mono ?_
       rintro e w3 ⟨v3, hv3, rfl, h3, ch3⟩
       have o3 := own_reader o2 ch3 hg
       have q3 := q2.trans ch3
       clear o2 q2 h2 ch3
       have hv : v3 = 0 ∨ v3 = 1 := by omega
       clear hv3
       rcases hv with rfl | rfl
       · go_wp2_with fail
         refine (l20Action_any g _ 1 w3 h3 (by omega) (by omega) (by omega)).mono ?_
         rintro e w4 ⟨x, -, rfl, h4, ch4⟩
         have o4 := own_reader o3 ch4 hg
         have q4 := q3.trans ch4
         clear o3 q3 h3 ch4
         go_wp2_with (at_builtin; refine wpList_app rfl (.tmp 25) (.tmp 28) 30 rfl el_actD rfl (own_alloc o4 _) rfl (rd_lit w4 [.int .i64 x.kind, .int .i64 x.src, .int .i64 x.dst, .int .i64 x.amt] _) rfl (one_actsD [x]) (by simp only [maxLen]; omega) (by omega) (by have := q4.size; simp; omega) ?_; intro A7 c7 w7 o7 ch7 d7 _)
         go_ret
         exact ⟨A7, c7, xs ++ [x], by simp; omega, by simp, by rw [← snoc_actsD]; simpa [encA] using o7, ((h4.alloc _).chg ch7 (fun k hk hA => by have := own_block o4 k (by rw [hA]; rfl); omega)).more (by omega), chg_g (q4.alloc _) (own_alloc o4 _) ch7 (Nat.le_refl _)⟩
       · go_wp2
         go_loopw [5] (fun v wr => ∃ (A : Option Addr) (c : Nat) (xs : List Act), xs.length ≤ 11 ∧ v = .slice A xs.length c ∧ wr.ownsRow w.heap.size 56 4 (.slice A xs.length c) xs.length (xs.flatMap encA) ∧ Rdr wr g (N + 190) ∧ Chg (fun k => k = g) w wr) (fun v _ => match v with | .slice _ n _ => 11 - n | _ => 0)
         case atStart => exact ⟨A, c, xs, by omega, rfl, o3, h3.more (by omega), q3⟩
         case round =>
           clear o3 q3 h3
           obtain ⟨A, c, xs, hxl, rfl, o4, h4, q4⟩ := hrel
           by_cases hl : xs.length ≤ 10
           · have hl' : (xs.length : Int) ≤ 10 := by omega
             go_wp2_with (at_builtin; refine wpList_app rfl (.tmp 33) (.tmp 35) 30 rfl el_actD rfl (own_alloc o4 _) rfl (rd_lit wr [.int .i64 1, .int .i64 0, .int .i64 0, .int .i64 0] _) rfl (one_actsD [⟨1, 0, 0, 0⟩]) (by simp only [maxLen]; omega) (by omega) (by have := q4.size; simp; omega) ?_; intro A7 c7 w7 o7 ch7 d7 _)
             go_roundw
             case rel => exact ⟨A7, c7, xs ++ [⟨1, 0, 0, 0⟩], by simp; omega, by simp, by rw [← snoc_actsD]; simpa [encA] using o7, (h4.alloc _).chg ch7 (fun k hk hA => by have := own_block o4 k (by rw [hA]; rfl); omega), chg_g (q4.alloc _) (own_alloc o4 _) ch7 (Nat.le_refl _)⟩
             case measure => simp; omega
           · have hl' : ¬ (xs.length : Int) ≤ 10 := by omega
             go_wp2
             go_ret
             exact ⟨A, c, xs, hxl, rfl, o4, h4.more (by omega), q4⟩
end Go.Proofs.YtihlhejencninaaGreat
