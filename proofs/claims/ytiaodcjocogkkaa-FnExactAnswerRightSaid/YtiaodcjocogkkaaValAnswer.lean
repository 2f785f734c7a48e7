/- Answer by value, in the laws: to, sz, eq. Printed by gen_val.py. -/
import Derived.Test.YtiaodcjocogkkaaBlk
namespace Go.Proofs.Ytiaodcjocogkkaa
open Go.RowKit
set_option linter.unusedVariables false
set_option linter.unusedSimpArgs false

theorem info_valAnswer : (Try.prog.info? 55).map (·.size) = some 3 := by kernel_rfl
set_option maxRecDepth 100000 in
set_option maxHeartbeats 1000000 in
theorem toAnswer_any (x : Ans) (A2 : Option Addr) (c2 : Nat) (w : World) (h2 : Rd w A2 (x.proof.map (.int .i64))) (hb2 : x.proof.length ≤ 1048576) :
    Calls Try.prog 32 #[.agg #[.int .i64 x.key, .int .i64 x.value, .slice A2 x.proof.length c2]] w fun e w' => ∃ B2 d2, e = .returned (.agg #[.int .i64 x.key, .int .i64 x.value, .slice B2 x.proof.length d2]) ∧ w'.ownsRow w.heap.size 3 1 (.slice B2 x.proof.length d2) x.proof.length (x.proof.map (.int .i64)) ∧ Below w.heap.size w w' := by
  have k0 := ((Blk.new w 48 #[.int .i64 x.key, .int .i64 x.value, .slice A2 x.proof.length c2]).alloc (.cells #[.int .i64 0, .int .i64 0, .slice none 0 0] 55)).alloc (.cells #[.int .i64 x.key, .int .i64 x.value, .slice none 0 0] 55)
  have k1 := (Blk.new (w.alloc (.cells #[.int .i64 x.key, .int .i64 x.value, .slice A2 x.proof.length c2] 48)) 55 #[.int .i64 0, .int .i64 0, .slice none 0 0]).alloc (.cells #[.int .i64 x.key, .int .i64 x.value, .slice none 0 0] 55)
  have k2 := Blk.new ((w.alloc (.cells #[.int .i64 x.key, .int .i64 x.value, .slice A2 x.proof.length c2] 48)).alloc (.cells #[.int .i64 0, .int .i64 0, .slice none 0 0] 55)) 55 #[.int .i64 x.key, .int .i64 x.value, .slice none 0 0]
  have hB : Below w.heap.size w (((w.alloc (.cells #[.int .i64 x.key, .int .i64 x.value, .slice A2 x.proof.length c2] 48)).alloc (.cells #[.int .i64 0, .int .i64 0, .slice none 0 0] 55)).alloc (.cells #[.int .i64 x.key, .int .i64 x.value, .slice none 0 0] 55)) := (((Below.refl _ _).alloc (Nat.le_refl _) _).alloc (by simp) _).alloc (by simp; omega) _
  have hN := hB.size
  simp only [World.size_alloc] at k1 k2
  go_enter Try.func32, Try.ntmps32
  go_wp2_with fail
  refine (toIntS_any A2 c2 x.proof _ hb2 (h2.new hB)).mono ?_
  rintro e v2 ⟨B2, d2, rfl, o2, b2⟩
  have hs2 := b2.size
  have HL2 := hide (own_rng o2)
  replace o2 := own_base o2 hB.size
  replace hB := bthen hB b2
  replace k0 := k0.new_ b2
  replace k1 := k1.new_ b2
  replace k2 := k2.new_ b2
  have hn2 := k2.lt
  have z0 : v2.cell? ⟨w.heap.size, 0, none⟩ = some _ := k0.cell 0
  have z1 : v2.cell? ⟨w.heap.size, 1, none⟩ = some _ := k0.cell 1
  have z2 : v2.cell? ⟨w.heap.size, 2, none⟩ = some _ := k0.cell 2
  have v0_ : v2.cell? ⟨w.heap.size + 1 + 1, 0, none⟩ = some _ := k2.cell 0
  have q0 : v2.frozen? ⟨w.heap.size + 1 + 1, 0, none⟩ = false := k2.frozen 0
  have v1_ : v2.cell? ⟨w.heap.size + 1 + 1, 1, none⟩ = some _ := k2.cell 1
  have q1 : v2.frozen? ⟨w.heap.size + 1 + 1, 1, none⟩ = false := k2.frozen 1
  have v2_ : v2.cell? ⟨w.heap.size + 1 + 1, 2, none⟩ = some _ := k2.cell 2
  have q2 : v2.frozen? ⟨w.heap.size + 1 + 1, 2, none⟩ = false := k2.frozen 2
  have y0 : v2.cell? ⟨w.heap.size + 1, 0, none⟩ = some _ := k1.cell 0
  have p0 : v2.frozen? ⟨w.heap.size + 1, 0, none⟩ = false := k1.frozen 0
  have y1 : v2.cell? ⟨w.heap.size + 1, 1, none⟩ = some _ := k1.cell 1
  have p1 : v2.frozen? ⟨w.heap.size + 1, 1, none⟩ = false := k1.frozen 1
  have y2 : v2.cell? ⟨w.heap.size + 1, 2, none⟩ = some _ := k1.cell 2
  have p2 : v2.frozen? ⟨w.heap.size + 1, 2, none⟩ = false := k1.frozen 2
  clear k0 k2
  have K1 := hide k1
  clear k1
  go_wp2
  have kb := Blk.set_ (Blk.set_ (Blk.set_ (Blk.far_ (unhide K1) (p := ⟨w.heap.size + 1 + 1, 2, none⟩) (by simp only []; omega) (.slice B2 x.proof.length d2)) 0 (.int .i64 x.key)) 1 (.int .i64 x.value)) 2 (.slice B2 x.proof.length d2)
  refine bodyPost_ret (v := .agg #[.int .i64 x.key, .int .i64 x.value, .slice B2 x.proof.length d2]) (results_cell_row rfl _ _ (w.heap.size + 1) 55 #[.int .i64 x.key, .int .i64 x.value, .slice B2 x.proof.length d2] (0, 0) _ rfl kb Try.underlying55 rfl info_valAnswer) rfl ⟨B2, d2, rfl, ?_⟩
  have hc := ((((Chg.refl (fun k => k = w.heap.size + 1 + 1 ∨ k = w.heap.size + 1) v2).setCell (S := fun k => k = w.heap.size + 1 + 1 ∨ k = w.heap.size + 1) (p := ⟨w.heap.size + 1 + 1, 2, none⟩) (by simp) (.slice B2 x.proof.length d2)).setCell (S := fun k => k = w.heap.size + 1 + 1 ∨ k = w.heap.size + 1) (p := ⟨w.heap.size + 1, 0, none⟩) (by simp) (.int .i64 x.key)).setCell (S := fun k => k = w.heap.size + 1 + 1 ∨ k = w.heap.size + 1) (p := ⟨w.heap.size + 1, 1, none⟩) (by simp) (.int .i64 x.value)).setCell (S := fun k => k = w.heap.size + 1 + 1 ∨ k = w.heap.size + 1) (p := ⟨w.heap.size + 1, 2, none⟩) (by simp) (.slice B2 x.proof.length d2)
  exact ⟨own_chg o2 hc (fun g hA hg => by have := unhide HL2 g hA; simp at this; omega), hB.trans (hc.below (fun k hk e => by omega) hB.size)⟩
set_option maxHeartbeats 1000000 in
theorem szAnswer_any (x : Ans) (A2 : Option Addr) (c2 : Nat) (l : Int) (w : World) (hn2 : x.proof.length ≤ 9223372036854775807) (h0 : 0 ≤ l) (h1 : l ≤ 1048576) :
    Calls Try.prog 29 #[.agg #[.int .i64 x.key, .int .i64 x.value, .slice A2 x.proof.length c2], .int .i64 l] w fun e w' => e = .returned (.int .i64 (if (x.proof.length : Int) ≤ l then l - ((x.proof.length : Int)) else -1)) ∧ Below w.heap.size w w' := by
  by_cases g2 : (x.proof.length : Int) ≤ l
  rotate_left
  · skip
    go_enter Try.func29, Try.ntmps29
    go_wp2_with fail
    refine (szIntS_any A2 x.proof.length c2 (l) _ hn2 (by omega) (by omega)).mono ?_
    rintro e w' ⟨rfl, rfl⟩
    rw [if_neg (by omega)]
    go_wp2
    go_ret
    exact ⟨by first | rfl | exact reti (by omega) | exact reti (by rw [if_neg (by omega)]; omega) | exact reti (by rw [if_neg (by omega)]), (Below.refl _ _).alloc (Nat.le_refl _) _⟩
  go_enter Try.func29, Try.ntmps29
  go_wp2_with fail
  refine (szIntS_any A2 x.proof.length c2 (l) _ hn2 (by omega) (by omega)).mono ?_
  rintro e w' ⟨rfl, rfl⟩
  rw [if_pos (by omega)]
  have hh0 : ¬ (l - (x.proof.length : Int)) < 0 := by omega
  go_wp2
  go_ret
  exact ⟨by first | rfl | exact reti (by omega) | exact reti (by rw [if_pos (by omega)]; omega) | exact reti (by rw [if_pos (by omega)]), (Below.refl _ _).alloc (Nat.le_refl _) _⟩
set_option maxHeartbeats 1000000 in
theorem eqAnswer_any (x y : Ans) (A2 : Option Addr) (c2 : Nat) (B2 : Option Addr) (d2 : Nat) (w : World) (h2 : Rd w A2 (x.proof.map (.int .i64))) (k2 : Rd w B2 (y.proof.map (.int .i64))) (hb2 : x.proof.length ≤ 4611686018427387904) :
    Calls Try.prog 35 #[.agg #[.int .i64 x.key, .int .i64 x.value, .slice A2 x.proof.length c2], .agg #[.int .i64 y.key, .int .i64 y.value, .slice B2 y.proof.length d2]] w fun e w' => e = .returned (.bool (decide (x = y))) ∧ Below w.heap.size w w' := by
  have hB : Below w.heap.size w ((w.alloc (.cells #[.int .i64 x.key, .int .i64 x.value, .slice A2 x.proof.length c2] 55)).alloc (.cells #[.int .i64 y.key, .int .i64 y.value, .slice B2 y.proof.length d2] 55)) := ((Below.refl _ _).alloc (Nat.le_refl _) _).alloc (by simp) _
  have K0 := (Blk.new w 55 #[.int .i64 x.key, .int .i64 x.value, .slice A2 x.proof.length c2]).alloc (.cells #[.int .i64 y.key, .int .i64 y.value, .slice B2 y.proof.length d2] 55)
  have K1 := Blk.new (w.alloc (.cells #[.int .i64 x.key, .int .i64 x.value, .slice A2 x.proof.length c2] 55)) 55 #[.int .i64 y.key, .int .i64 y.value, .slice B2 y.proof.length d2]
  simp only [World.size_alloc] at K1
  by_cases e0 : x.key = y.key
  rotate_left
  · have HE := hide (show ¬ x = y from fun h => e0 (by rw [h]))
    have H0 := hide e0
    have g0 : (x.key != y.key) = true := by simpa using e0
    clear e0
    go_enter Try.func35, Try.ntmps35
    go_wp2
    go_ret
    exact ⟨retb (by rw [decide_eq_false (unhide HE)]), hB⟩
  have H0 := hide e0
  have g0 : (x.key != y.key) = false := by simpa using e0
  clear e0
  by_cases e1 : x.value = y.value
  rotate_left
  · have HE := hide (show ¬ x = y from fun h => e1 (by rw [h]))
    have H1 := hide e1
    have g1 : (x.value != y.value) = true := by simpa using e1
    clear e1
    go_enter Try.func35, Try.ntmps35
    go_wp2
    go_ret
    exact ⟨retb (by rw [decide_eq_false (unhide HE)]), hB⟩
  have H1 := hide e1
  have g1 : (x.value != y.value) = false := by simpa using e1
  clear e1
  by_cases e2 : x.proof = y.proof
  rotate_left
  · have HE := hide (show ¬ x = y from fun h => e2 (by rw [h]))
    have H2 := hide e2
    clear e2
    go_enter Try.func35, Try.ntmps35
    go_wp2_with fail
    refine (eqIntS_any A2 B2 c2 d2 _ _ _ (h2.new hB) (k2.new hB) hb2).mono ?_
    rintro e u2 ⟨rfl, m2, rfl⟩
    replace hB := below_drewN hB m2
    replace K0 := K0.drewN m2
    replace K1 := K1.drewN m2
    rw [decide_eq_false (unhide H2)]
    go_wp2
    go_ret
    exact ⟨retb (by rw [decide_eq_false (unhide HE)]), hB⟩
  have H2 := hide e2
  clear e2
  have HE := hide (show x = y by have e0 := unhide H0; have e1 := unhide H1; have e2 := unhide H2; cases x; cases y; simp_all)
  go_enter Try.func35, Try.ntmps35
  go_wp2_with fail
  refine (eqIntS_any A2 B2 c2 d2 _ _ _ (h2.new hB) (k2.new hB) hb2).mono ?_
  rintro e u2 ⟨rfl, m2, rfl⟩
  replace hB := below_drewN hB m2
  replace K0 := K0.drewN m2
  replace K1 := K1.drewN m2
  rw [decide_eq_true (unhide H2)]
  go_wp2
  go_ret
  exact ⟨retb (by rw [decide_eq_true (unhide HE)]), hB⟩
end Go.Proofs.Ytiaodcjocogkkaa
