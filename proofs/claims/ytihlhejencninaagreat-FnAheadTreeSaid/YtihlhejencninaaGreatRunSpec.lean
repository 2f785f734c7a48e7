/- Serial runs of the reference. Printed by gen_runspec.py. -/
import Derived.Test.YtihlhejencninaaGreatL6
import Derived.Test.YtihlhejencninaaGreatGeff
import Derived.Test.YtihlhejencninaaGreatGrun
namespace Go.Proofs.YtihlhejencninaaGreat
open Go.RowKit
set_option linter.unusedVariables false
set_option linter.unusedSimpArgs false
attribute [local go_sem ↓] Go.wp_at_zero Go.wp_at_succ

theorem atV_vals {s : List Ent} (h : storeB s = true) {k : Int} (hk : 0 ≤ k ∧ k ≤ 31) : atV (valsL s) k = atL s k := by
 obtain ⟨p, rfl⟩ := Int.eq_ofNat_of_zero_le hk.1
 rw [atV_nat, vals_get (show evOk 1 (-1) s = true from h) (by omega) p (by omega)]
set_option maxRecDepth 100000 in
set_option maxHeartbeats 4000000 in
theorem runAction_spec (A : Option Addr) (ca : Nat) (s : List Ent) (a : Act) (w : World) (ha : Rd w A (s.flatMap encE)) (hla : s.length ≤ 4611686018427387904) (hsa : storeB s = true) (hact : actB a = true) :
   Calls Tryz.prog 178 #[.slice A s.length ca, .agg #[.int .i64 a.kind, .int .i64 a.src, .int .i64 a.dst, .int .i64 a.amt]] w fun e w' => L6End w (runV (valsL s) a) e w' := by
 have HE := hide (show runV (valsL s) a = actEff a (atL s a.src) (atL s a.dst) by
   have h := actB_bd hact
   unfold runV; rw [atV_vals hsa h.1, atV_vals hsa h.2.1])
 have HX := hide (show 0 ≤ atL s a.src ∧ atL s a.src ≤ 1000000 by
   rw [← atV_vals hsa (actB_bd hact).1]; exact atV_bd (valOk_vals (show evOk 1 (-1) s = true from hsa) (by omega)) _)
 have HY := hide (show 0 ≤ atL s a.dst ∧ atL s a.dst ≤ 1000000 by
   rw [← atV_vals hsa (actB_bd hact).2.1]; exact atV_bd (valOk_vals (show evOk 1 (-1) s = true from hsa) (by omega)) _)
 have HACT := hide hact
 have hW : ∃ W : World, W = ((w.alloc (.cells #[.int .i64 a.kind, .int .i64 a.src, .int .i64 a.dst, .int .i64 a.amt] 56)).alloc (.cells #[.bool false, .slice none 0 0, .slice none 0 0] 107)) ∧ Blk W w.heap.size 56 #[.int .i64 a.kind, .int .i64 a.src, .int .i64 a.dst, .int .i64 a.amt] ∧ Blk W (w.heap.size + 1) 107 #[.bool false, .slice none 0 0, .slice none 0 0] ∧ Below w.heap.size w W := by
   refine ⟨_, rfl, (Blk.new _ _ _).alloc _, ?_, ((Below.refl _ _).alloc (Nat.le_refl _) _).alloc (by simp) _⟩
   have := Blk.new (w.alloc (.cells #[.int .i64 a.kind, .int .i64 a.src, .int .i64 a.dst, .int .i64 a.amt] 56)) 107 #[.bool false, .slice none 0 0, .slice none 0 0]
   simpa using this
 obtain ⟨W, hWe, kA, kR, hB⟩ := hW
 clear hact
 go_enter Tryz.func178, Tryz.ntmps178
 go_wp2_with fail
 rw [← hWe]
 clear hWe
 refine (storeB_store_spec A ca s W (ha.new hB) hla).mono ?_
 rintro e w1 ⟨rfl, m1, rfl⟩
 rw [hsa]
 have b1 : Below W.heap.size W (W.drewN m1) := below_drewN (Below.refl _ _) m1
 replace kA := kA.new_ b1
 replace kR := kR.new_ b1
 replace hB := bthen hB b1
 clear b1
 generalize W.drewN m1 = w1 at *
 have x0 : w1.cell? ⟨w.heap.size, 0, none⟩ = some (.int .i64 a.kind) := kA.cell 0
 have x1 : w1.cell? ⟨w.heap.size, 1, none⟩ = some (.int .i64 a.src) := kA.cell 1
 have x2 : w1.cell? ⟨w.heap.size, 2, none⟩ = some (.int .i64 a.dst) := kA.cell 2
 have x3 : w1.cell? ⟨w.heap.size, 3, none⟩ = some (.int .i64 a.amt) := kA.cell 3
 go_wp2_with fail
 refine (actionValid_spec a _).mono ?_
 rintro e w2 ⟨rfl, b2⟩
 rw [unhide HACT]
 clear x0 x1 x2 x3
 replace kA := kA.new_ b2
 replace kR := kR.new_ b2
 replace hB := bthen hB b2
 clear b2
 go_wp2_with fail
 have hgA := kA.lt
 have hgR := kR.lt
 have x0 : w2.cell? ⟨w.heap.size, 0, none⟩ = some (.int .i64 a.kind) := kA.cell 0
 have x1 : w2.cell? ⟨w.heap.size, 1, none⟩ = some (.int .i64 a.src) := kA.cell 1
 have x2 : w2.cell? ⟨w.heap.size, 2, none⟩ = some (.int .i64 a.dst) := kA.cell 2
 have x3 : w2.cell? ⟨w.heap.size, 3, none⟩ = some (.int .i64 a.amt) := kA.cell 3
 have hF : StBL [bV (.agg #[.int .i64 a.kind, .int .i64 a.src, .int .i64 a.dst, .int .i64 a.amt]), bV (.slice A s.length ca), bV (.pointer (some ⟨w.heap.size, 1, none⟩)), bV (.int .i64 a.src), bV (.int .i64 (atL s a.src)), bV (.slice A s.length ca), bV (.pointer (some ⟨w.heap.size, 2, none⟩)), bV (.int .i64 a.dst), bV (.int .i64 (atL s a.dst))] := ⟨sb_V _, sb_V _, sb_V _, sb_V _, sb_V _, sb_V _, sb_V _, sb_V _, sb_V _, trivial⟩
 have hrdA := ha.new hB
 refine wp_region_loc (by kernel_rfl) [(0, some 14), (1, some 15), (2, some 16), (3, some 17), (4, some 18), (5, some 19), (6, some 20), (7, some 21), (8, some 22)] [[], [], [], [(2, some 16)], [(1, some 15), (3, some 17)], [], [], [(6, some 20)], [(5, some 19), (7, some 21)]] (by kernel_rfl)
   (locB [bV (.agg #[.int .i64 a.kind, .int .i64 a.src, .int .i64 a.dst, .int .i64 a.amt]), bV (.slice A s.length ca), bV (.pointer (some ⟨w.heap.size, 1, none⟩)), bV (.int .i64 a.src), bV (.int .i64 (atL s a.src)), bV (.slice A s.length ca), bV (.pointer (some ⟨w.heap.size, 2, none⟩)), bV (.int .i64 a.dst), bV (.int .i64 (atL s a.dst))]) (fun a b => Below a.heap.size a b) noR [0, 0, 0, 0, 0, 0, 0, 0, 0] 0 (by kernel_rfl) (fun _ => Below.refl _ _) (fun _ _ _ => bthen) (locB_st hF _) trivial ?_ ?_
 · refine steps_cons ?s0 (steps_cons ?s1 (steps_cons ?s2 (steps_cons ?s3 (steps_cons ?s4 (steps_cons ?s5 (steps_cons ?s6 (steps_cons ?s7 (steps_cons ?s8 (steps_nil)))))))))
   case s0 =>
     intro w' m hE hR  Q hQ
     have y0 := ((below_undrew hE).cell (p := ⟨w.heap.size, 0, none⟩) hgA).trans x0
     have y1 := ((below_undrew hE).cell (p := ⟨w.heap.size, 1, none⟩) hgA).trans x1
     have y2 := ((below_undrew hE).cell (p := ⟨w.heap.size, 2, none⟩) hgA).trans x2
     have y3 := ((below_undrew hE).cell (p := ⟨w.heap.size, 3, none⟩) hgA).trans x3
     go_wp2
     exact hQ _ _ _ rfl rfl (Below.refl _ _) trivial
   case s1 | s2 | s5 | s6 =>
     intro w' m hE hR  Q hQ
     go_wp2
     exact hQ _ _ _ rfl rfl (Below.refl _ _) trivial
   case s3 =>
     intro w' m hE hR v2 h2 Q hQ
     obtain rfl : v2 = _ := h2
     have y1 := ((below_undrew hE).cell (p := ⟨w.heap.size, 1, none⟩) hgA).trans x1
     go_wp2
     exact hQ _ _ _ rfl rfl (Below.refl _ _) trivial
   case s4 =>
     intro w' m hE hR v1 h1 v3 h3 Q hQ
     obtain rfl : v1 = _ := h1
     obtain rfl : v3 = _ := h3
     have hrA := hrdA.new (below_undrew hE)
     go_wp2_with fail
     refine (l2At_any A ca s a.src _ hrA hla).mono ?_
     rintro e w9 ⟨rfl, rfl⟩
     go_wp2
     exact hQ _ _ _ rfl rfl (Below.refl _ _) trivial
   case s7 =>
     intro w' m hE hR v6 h6 Q hQ
     obtain rfl : v6 = _ := h6
     have y2 := ((below_undrew hE).cell (p := ⟨w.heap.size, 2, none⟩) hgA).trans x2
     go_wp2
     exact hQ _ _ _ rfl rfl (Below.refl _ _) trivial
   case s8 =>
     intro w' m hE hR v5 h5 v7 h7 Q hQ
     obtain rfl : v5 = _ := h5
     obtain rfl : v7 = _ := h7
     have hrA := hrdA.new (below_undrew hE)
     go_wp2_with fail
     refine (l2At_any A ca s a.dst _ hrA hla).mono ?_
     rintro e w9 ⟨rfl, rfl⟩
     go_wp2
     exact hQ _ _ _ rfl rfl (Below.refl _ _) trivial
 intro w3 hE _
 rintro v0 h0 v1 h1 v2 h2 v3 h3 v4 h4 v5 h5 v6 h6 v7 h7 v8 h8
 obtain rfl : v0 = _ := h0
 obtain rfl : v4 = _ := h4
 obtain rfl : v8 = _ := h8
 have b3 := below_undrew hE
 replace kA := kA.new_ b3
 replace kR := kR.new_ b3
 replace hB := bthen hB b3
 clear b3 hE x0 x1 x2 x3 hF h1 h2 h3 h5 h6 h7
 change wpList _ _ _ [_, _] _ _
 simp only [Go.Act.put, List.setIfInBounds_toArray, List.set_cons_succ, List.set_cons_zero]
 go_wp2_with fail
 refine (l6Run_any a (atL s a.src) (atL s a.dst) w3 (unhide HACT) (unhide HX) (unhide HY)).mono ?_
 rintro e w4 ⟨A1, c1, A2, c2, rfl, or, ow, hap, b4⟩
 rw [← unhide HE] at or ow ⊢
 have hs3 := hB.size
 have hg3 := kR.lt
 replace hB := bthen hB b4
 replace kR := kR.new_ b4
 have hs4 := b4.size
 have HG := hide (show ∀ (E : Eff) (v : Value) (wz : World), E = runV (valsL s) a → L6End w E (.returned v) wz → L6End w (runV (valsL s) a) (.returned v) wz from fun E v wz h hh => h ▸ hh)
 generalize hEE : runV (valsL s) a = E at or ow ⊢
 have HEE := hide hEE.symm
 clear hEE
 clear kA
 have hl := kR.lt
 have f0 : w4.frozen? ⟨w.heap.size + 1, 0, none⟩ = false := kR.frozen 0
 have f1 : w4.frozen? ⟨w.heap.size + 1, 1, none⟩ = false := kR.frozen 1
 have f2 : w4.frozen? ⟨w.heap.size + 1, 2, none⟩ = false := kR.frozen 2
 have e0 : w4.cell? ⟨w.heap.size + 1, 0, none⟩ = some (.bool false) := kR.cell 0
 have e1 : w4.cell? ⟨w.heap.size + 1, 1, none⟩ = some (.slice none 0 0) := kR.cell 1
 have e2 : w4.cell? ⟨w.heap.size + 1, 2, none⟩ = some (.slice none 0 0) := kR.cell 2
 go_wp2
 have kb := ((kR.set_ 0 (.bool E.done)).set_ 1 (.slice A1 E.reads.length c1)).set_ 2 (.slice A2 E.writes.length c2)
 have hc := (((Chg.refl (fun q => q = w.heap.size + 1) w4).setCell (p := ⟨w.heap.size + 1, 0, none⟩) (.inl rfl) (.bool E.done)).setCell (p := ⟨w.heap.size + 1, 1, none⟩) (.inl rfl) (.slice A1 E.reads.length c1)).setCell (p := ⟨w.heap.size + 1, 2, none⟩) (.inl rfl) (.slice A2 E.writes.length c2)
 refine bodyPost_ret (v := .agg #[.bool E.done, .slice A1 E.reads.length c1, .slice A2 E.writes.length c2]) (results_cell_row rfl _ _ (w.heap.size + 1) 107 #[.bool E.done, .slice A1 E.reads.length c1, .slice A2 E.writes.length c2] (0, 0) _ rfl kb Tryz.underlying107 rfl info_valEffect) rfl ?_
 refine unhide HG E _ _ (unhide HEE) ?_
 exact ⟨A1, c1, A2, c2, rfl, own_base (own_chg or hc (fun g hA e => by have := own_rng or g hA; omega)) hs3, own_base (own_chg ow hc (fun g hA e => by have := own_rng ow g hA; omega)) hs3, hap, hB.trans (hc.below (fun q hq e => by omega) hB.size)⟩
end Go.Proofs.YtihlhejencninaaGreat
