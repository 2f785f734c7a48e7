/- Block by value, in the laws: to, sz, eq. Printed by gen_val.py. -/
import Derived.Test.YtmpdopjailomlaaGreatBlk
namespace Go.Proofs.YtmpdopjailomlaaGreat
open Go.RowKit
set_option linter.unusedVariables false
set_option linter.unusedSimpArgs false

theorem info_valBlock : (Tryz.prog.info? 69).map (·.size) = some 6 := by kernel_rfl
set_option maxRecDepth 100000 in
set_option maxHeartbeats 1000000 in
theorem toBlock_any (x : Bk) (A3 : Option Addr) (c3 : Nat) (w : World) (h3 : Rd w A3 (x.list.flatMap encA)) (hb3 : x.list.length ≤ 1048576) :
    Calls Tryz.prog 78 #[.agg #[.int .i64 x.before, .int .i64 x.height, .int .i64 x.view, .slice A3 x.list.length c3, .int .i64 x.root, .int .i64 x.eff]] w fun e w' => ∃ B3 d3, e = .returned (.agg #[.int .i64 x.before, .int .i64 x.height, .int .i64 x.view, .slice B3 x.list.length d3, .int .i64 x.root, .int .i64 x.eff]) ∧ w'.ownsRow w.heap.size 134 4 (.slice B3 x.list.length d3) x.list.length (x.list.flatMap encA) ∧ Below w.heap.size w w' := by
  have k0 := ((Blk.new w 105 #[.int .i64 x.before, .int .i64 x.height, .int .i64 x.view, .slice A3 x.list.length c3, .int .i64 x.root, .int .i64 x.eff]).alloc (.cells #[.int .i64 0, .int .i64 0, .int .i64 0, .slice none 0 0, .int .i64 0, .int .i64 0] 69)).alloc (.cells #[.int .i64 x.before, .int .i64 x.height, .int .i64 x.view, .slice none 0 0, .int .i64 0, .int .i64 0] 69)
  have k1 := (Blk.new (w.alloc (.cells #[.int .i64 x.before, .int .i64 x.height, .int .i64 x.view, .slice A3 x.list.length c3, .int .i64 x.root, .int .i64 x.eff] 105)) 69 #[.int .i64 0, .int .i64 0, .int .i64 0, .slice none 0 0, .int .i64 0, .int .i64 0]).alloc (.cells #[.int .i64 x.before, .int .i64 x.height, .int .i64 x.view, .slice none 0 0, .int .i64 0, .int .i64 0] 69)
  have k2 := Blk.new ((w.alloc (.cells #[.int .i64 x.before, .int .i64 x.height, .int .i64 x.view, .slice A3 x.list.length c3, .int .i64 x.root, .int .i64 x.eff] 105)).alloc (.cells #[.int .i64 0, .int .i64 0, .int .i64 0, .slice none 0 0, .int .i64 0, .int .i64 0] 69)) 69 #[.int .i64 x.before, .int .i64 x.height, .int .i64 x.view, .slice none 0 0, .int .i64 0, .int .i64 0]
  have hB : Below w.heap.size w (((w.alloc (.cells #[.int .i64 x.before, .int .i64 x.height, .int .i64 x.view, .slice A3 x.list.length c3, .int .i64 x.root, .int .i64 x.eff] 105)).alloc (.cells #[.int .i64 0, .int .i64 0, .int .i64 0, .slice none 0 0, .int .i64 0, .int .i64 0] 69)).alloc (.cells #[.int .i64 x.before, .int .i64 x.height, .int .i64 x.view, .slice none 0 0, .int .i64 0, .int .i64 0] 69)) := (((Below.refl _ _).alloc (Nat.le_refl _) _).alloc (by simp) _).alloc (by simp; omega) _
  have hN := hB.size
  simp only [World.size_alloc] at k1 k2
  go_enter Tryz.func78, Tryz.ntmps78
  go_wp2_with fail
  refine (toActionS_any A3 c3 x.list _ hb3 (h3.new hB)).mono ?_
  rintro e v3 ⟨B3, d3, rfl, o3, b3⟩
  have hs3 := b3.size
  have HL3 := hide (own_rng o3)
  replace o3 := own_base o3 hB.size
  replace hB := bthen hB b3
  replace k0 := k0.new_ b3
  replace k1 := k1.new_ b3
  replace k2 := k2.new_ b3
  have hn3 := k2.lt
  have z0 : v3.cell? ⟨w.heap.size, 0, none⟩ = some _ := k0.cell 0
  have z1 : v3.cell? ⟨w.heap.size, 1, none⟩ = some _ := k0.cell 1
  have z2 : v3.cell? ⟨w.heap.size, 2, none⟩ = some _ := k0.cell 2
  have z3 : v3.cell? ⟨w.heap.size, 3, none⟩ = some _ := k0.cell 3
  have z4 : v3.cell? ⟨w.heap.size, 4, none⟩ = some _ := k0.cell 4
  have z5 : v3.cell? ⟨w.heap.size, 5, none⟩ = some _ := k0.cell 5
  have v0_ : v3.cell? ⟨w.heap.size + 1 + 1, 0, none⟩ = some _ := k2.cell 0
  have q0 : v3.frozen? ⟨w.heap.size + 1 + 1, 0, none⟩ = false := k2.frozen 0
  have v1_ : v3.cell? ⟨w.heap.size + 1 + 1, 1, none⟩ = some _ := k2.cell 1
  have q1 : v3.frozen? ⟨w.heap.size + 1 + 1, 1, none⟩ = false := k2.frozen 1
  have v2_ : v3.cell? ⟨w.heap.size + 1 + 1, 2, none⟩ = some _ := k2.cell 2
  have q2 : v3.frozen? ⟨w.heap.size + 1 + 1, 2, none⟩ = false := k2.frozen 2
  have v3_ : v3.cell? ⟨w.heap.size + 1 + 1, 3, none⟩ = some _ := k2.cell 3
  have q3 : v3.frozen? ⟨w.heap.size + 1 + 1, 3, none⟩ = false := k2.frozen 3
  have v4_ : v3.cell? ⟨w.heap.size + 1 + 1, 4, none⟩ = some _ := k2.cell 4
  have q4 : v3.frozen? ⟨w.heap.size + 1 + 1, 4, none⟩ = false := k2.frozen 4
  have v5_ : v3.cell? ⟨w.heap.size + 1 + 1, 5, none⟩ = some _ := k2.cell 5
  have q5 : v3.frozen? ⟨w.heap.size + 1 + 1, 5, none⟩ = false := k2.frozen 5
  have y0 : v3.cell? ⟨w.heap.size + 1, 0, none⟩ = some _ := k1.cell 0
  have p0 : v3.frozen? ⟨w.heap.size + 1, 0, none⟩ = false := k1.frozen 0
  have y1 : v3.cell? ⟨w.heap.size + 1, 1, none⟩ = some _ := k1.cell 1
  have p1 : v3.frozen? ⟨w.heap.size + 1, 1, none⟩ = false := k1.frozen 1
  have y2 : v3.cell? ⟨w.heap.size + 1, 2, none⟩ = some _ := k1.cell 2
  have p2 : v3.frozen? ⟨w.heap.size + 1, 2, none⟩ = false := k1.frozen 2
  have y3 : v3.cell? ⟨w.heap.size + 1, 3, none⟩ = some _ := k1.cell 3
  have p3 : v3.frozen? ⟨w.heap.size + 1, 3, none⟩ = false := k1.frozen 3
  have y4 : v3.cell? ⟨w.heap.size + 1, 4, none⟩ = some _ := k1.cell 4
  have p4 : v3.frozen? ⟨w.heap.size + 1, 4, none⟩ = false := k1.frozen 4
  have y5 : v3.cell? ⟨w.heap.size + 1, 5, none⟩ = some _ := k1.cell 5
  have p5 : v3.frozen? ⟨w.heap.size + 1, 5, none⟩ = false := k1.frozen 5
  clear k0 k2
  have K1 := hide k1
  clear k1
  go_wp2
  have kb := Blk.set_ (Blk.set_ (Blk.set_ (Blk.set_ (Blk.set_ (Blk.set_ (Blk.far_ (Blk.far_ (Blk.far_ (unhide K1) (p := ⟨w.heap.size + 1 + 1, 3, none⟩) (by simp only []; omega) (.slice B3 x.list.length d3)) (p := ⟨w.heap.size + 1 + 1, 4, none⟩) (by simp only []; omega) (.int .i64 x.root)) (p := ⟨w.heap.size + 1 + 1, 5, none⟩) (by simp only []; omega) (.int .i64 x.eff)) 0 (.int .i64 x.before)) 1 (.int .i64 x.height)) 2 (.int .i64 x.view)) 3 (.slice B3 x.list.length d3)) 4 (.int .i64 x.root)) 5 (.int .i64 x.eff)
  refine bodyPost_ret (v := .agg #[.int .i64 x.before, .int .i64 x.height, .int .i64 x.view, .slice B3 x.list.length d3, .int .i64 x.root, .int .i64 x.eff]) (results_cell_row rfl _ _ (w.heap.size + 1) 69 #[.int .i64 x.before, .int .i64 x.height, .int .i64 x.view, .slice B3 x.list.length d3, .int .i64 x.root, .int .i64 x.eff] (0, 0) _ rfl kb Tryz.underlying69 rfl info_valBlock) rfl ⟨B3, d3, rfl, ?_⟩
  have hc := (((((((((Chg.refl (fun k => k = w.heap.size + 1 + 1 ∨ k = w.heap.size + 1) v3).setCell (S := fun k => k = w.heap.size + 1 + 1 ∨ k = w.heap.size + 1) (p := ⟨w.heap.size + 1 + 1, 3, none⟩) (by simp) (.slice B3 x.list.length d3)).setCell (S := fun k => k = w.heap.size + 1 + 1 ∨ k = w.heap.size + 1) (p := ⟨w.heap.size + 1 + 1, 4, none⟩) (by simp) (.int .i64 x.root)).setCell (S := fun k => k = w.heap.size + 1 + 1 ∨ k = w.heap.size + 1) (p := ⟨w.heap.size + 1 + 1, 5, none⟩) (by simp) (.int .i64 x.eff)).setCell (S := fun k => k = w.heap.size + 1 + 1 ∨ k = w.heap.size + 1) (p := ⟨w.heap.size + 1, 0, none⟩) (by simp) (.int .i64 x.before)).setCell (S := fun k => k = w.heap.size + 1 + 1 ∨ k = w.heap.size + 1) (p := ⟨w.heap.size + 1, 1, none⟩) (by simp) (.int .i64 x.height)).setCell (S := fun k => k = w.heap.size + 1 + 1 ∨ k = w.heap.size + 1) (p := ⟨w.heap.size + 1, 2, none⟩) (by simp) (.int .i64 x.view)).setCell (S := fun k => k = w.heap.size + 1 + 1 ∨ k = w.heap.size + 1) (p := ⟨w.heap.size + 1, 3, none⟩) (by simp) (.slice B3 x.list.length d3)).setCell (S := fun k => k = w.heap.size + 1 + 1 ∨ k = w.heap.size + 1) (p := ⟨w.heap.size + 1, 4, none⟩) (by simp) (.int .i64 x.root)).setCell (S := fun k => k = w.heap.size + 1 + 1 ∨ k = w.heap.size + 1) (p := ⟨w.heap.size + 1, 5, none⟩) (by simp) (.int .i64 x.eff)
  exact ⟨own_chg o3 hc (fun g hA hg => by have := unhide HL3 g hA; simp at this; omega), hB.trans (hc.below (fun k hk e => by omega) hB.size)⟩
set_option maxHeartbeats 1000000 in
theorem szBlock_any (x : Bk) (A3 : Option Addr) (c3 : Nat) (l : Int) (w : World) (hn3 : x.list.length ≤ 9223372036854775807) (h0 : 0 ≤ l) (h1 : l ≤ 1048576) :
    Calls Tryz.prog 69 #[.agg #[.int .i64 x.before, .int .i64 x.height, .int .i64 x.view, .slice A3 x.list.length c3, .int .i64 x.root, .int .i64 x.eff], .int .i64 l] w fun e w' => e = .returned (.int .i64 (if (x.list.length : Int) ≤ l then l - ((x.list.length : Int)) else -1)) ∧ Below w.heap.size w w' := by
  by_cases g3 : (x.list.length : Int) ≤ l
  rotate_left
  · skip
    go_enter Tryz.func69, Tryz.ntmps69
    go_wp2_with fail
    refine (szActionS_any A3 x.list.length c3 (l) _ hn3 (by omega) (by omega)).mono ?_
    rintro e w' ⟨rfl, rfl⟩
    rw [if_neg (by omega)]
    go_wp2
    go_ret
    exact ⟨by first | rfl | exact reti (by omega) | exact reti (by rw [if_neg (by omega)]; omega) | exact reti (by rw [if_neg (by omega)]), (Below.refl _ _).alloc (Nat.le_refl _) _⟩
  go_enter Tryz.func69, Tryz.ntmps69
  go_wp2_with fail
  refine (szActionS_any A3 x.list.length c3 (l) _ hn3 (by omega) (by omega)).mono ?_
  rintro e w' ⟨rfl, rfl⟩
  rw [if_pos (by omega)]
  have hh0 : ¬ (l - (x.list.length : Int)) < 0 := by omega
  go_wp2
  go_ret
  exact ⟨by first | rfl | exact reti (by omega) | exact reti (by rw [if_pos (by omega)]; omega) | exact reti (by rw [if_pos (by omega)]), (Below.refl _ _).alloc (Nat.le_refl _) _⟩
set_option maxHeartbeats 1000000 in
theorem eqBlock_any (x y : Bk) (A3 : Option Addr) (c3 : Nat) (B3 : Option Addr) (d3 : Nat) (w : World) (h3 : Rd w A3 (x.list.flatMap encA)) (k3 : Rd w B3 (y.list.flatMap encA)) (hb3 : x.list.length ≤ 4611686018427387904) :
    Calls Tryz.prog 89 #[.agg #[.int .i64 x.before, .int .i64 x.height, .int .i64 x.view, .slice A3 x.list.length c3, .int .i64 x.root, .int .i64 x.eff], .agg #[.int .i64 y.before, .int .i64 y.height, .int .i64 y.view, .slice B3 y.list.length d3, .int .i64 y.root, .int .i64 y.eff]] w fun e w' => e = .returned (.bool (decide (x = y))) ∧ Below w.heap.size w w' := by
  have hB : Below w.heap.size w ((w.alloc (.cells #[.int .i64 x.before, .int .i64 x.height, .int .i64 x.view, .slice A3 x.list.length c3, .int .i64 x.root, .int .i64 x.eff] 69)).alloc (.cells #[.int .i64 y.before, .int .i64 y.height, .int .i64 y.view, .slice B3 y.list.length d3, .int .i64 y.root, .int .i64 y.eff] 69)) := ((Below.refl _ _).alloc (Nat.le_refl _) _).alloc (by simp) _
  have K0 := (Blk.new w 69 #[.int .i64 x.before, .int .i64 x.height, .int .i64 x.view, .slice A3 x.list.length c3, .int .i64 x.root, .int .i64 x.eff]).alloc (.cells #[.int .i64 y.before, .int .i64 y.height, .int .i64 y.view, .slice B3 y.list.length d3, .int .i64 y.root, .int .i64 y.eff] 69)
  have K1 := Blk.new (w.alloc (.cells #[.int .i64 x.before, .int .i64 x.height, .int .i64 x.view, .slice A3 x.list.length c3, .int .i64 x.root, .int .i64 x.eff] 69)) 69 #[.int .i64 y.before, .int .i64 y.height, .int .i64 y.view, .slice B3 y.list.length d3, .int .i64 y.root, .int .i64 y.eff]
  simp only [World.size_alloc] at K1
  by_cases e0 : x.before = y.before
  rotate_left
  · have HE := hide (show ¬ x = y from fun h => e0 (by rw [h]))
    have H0 := hide e0
    have g0 : (x.before != y.before) = true := by simpa using e0
    clear e0
    go_enter Tryz.func89, Tryz.ntmps89
    go_wp2
    go_ret
    exact ⟨retb (by rw [decide_eq_false (unhide HE)]), hB⟩
  have H0 := hide e0
  have g0 : (x.before != y.before) = false := by simpa using e0
  clear e0
  by_cases e1 : x.height = y.height
  rotate_left
  · have HE := hide (show ¬ x = y from fun h => e1 (by rw [h]))
    have H1 := hide e1
    have g1 : (x.height != y.height) = true := by simpa using e1
    clear e1
    go_enter Tryz.func89, Tryz.ntmps89
    go_wp2
    go_ret
    exact ⟨retb (by rw [decide_eq_false (unhide HE)]), hB⟩
  have H1 := hide e1
  have g1 : (x.height != y.height) = false := by simpa using e1
  clear e1
  by_cases e2 : x.view = y.view
  rotate_left
  · have HE := hide (show ¬ x = y from fun h => e2 (by rw [h]))
    have H2 := hide e2
    have g2 : (x.view != y.view) = true := by simpa using e2
    clear e2
    go_enter Tryz.func89, Tryz.ntmps89
    go_wp2
    go_ret
    exact ⟨retb (by rw [decide_eq_false (unhide HE)]), hB⟩
  have H2 := hide e2
  have g2 : (x.view != y.view) = false := by simpa using e2
  clear e2
  by_cases e3 : x.list = y.list
  rotate_left
  · have HE := hide (show ¬ x = y from fun h => e3 (by rw [h]))
    have H3 := hide e3
    clear e3
    go_enter Tryz.func89, Tryz.ntmps89
    go_wp2_with fail
    refine (eqActionS_any A3 B3 c3 d3 _ _ _ (h3.new hB) (k3.new hB) hb3).mono ?_
    rintro e u3 ⟨rfl, b3⟩
    replace hB := bthen hB b3
    replace K0 := K0.new_ b3
    replace K1 := K1.new_ b3
    rw [decide_eq_false (unhide H3)]
    go_wp2
    go_ret
    exact ⟨retb (by rw [decide_eq_false (unhide HE)]), hB⟩
  have H3 := hide e3
  clear e3
  by_cases e4 : x.root = y.root
  rotate_left
  · have HE := hide (show ¬ x = y from fun h => e4 (by rw [h]))
    have H4 := hide e4
    have g4 : (x.root != y.root) = true := by simpa using e4
    clear e4
    go_enter Tryz.func89, Tryz.ntmps89
    go_wp2_with fail
    refine (eqActionS_any A3 B3 c3 d3 _ _ _ (h3.new hB) (k3.new hB) hb3).mono ?_
    rintro e u3 ⟨rfl, b3⟩
    replace hB := bthen hB b3
    replace K0 := K0.new_ b3
    replace K1 := K1.new_ b3
    rw [decide_eq_true (unhide H3)]
    have y3_4 : u3.cell? ⟨w.heap.size, 4, none⟩ = some _ := K0.cell 4
    have x3_4 : u3.cell? ⟨w.heap.size + 1, 4, none⟩ = some _ := K1.cell 4
    have y3_5 : u3.cell? ⟨w.heap.size, 5, none⟩ = some _ := K0.cell 5
    have x3_5 : u3.cell? ⟨w.heap.size + 1, 5, none⟩ = some _ := K1.cell 5
    go_wp2
    go_ret
    exact ⟨retb (by rw [decide_eq_false (unhide HE)]), hB⟩
  have H4 := hide e4
  have g4 : (x.root != y.root) = false := by simpa using e4
  clear e4
  by_cases e5 : x.eff = y.eff
  rotate_left
  · have HE := hide (show ¬ x = y from fun h => e5 (by rw [h]))
    have H5 := hide e5
    have g5 : (x.eff != y.eff) = true := by simpa using e5
    clear e5
    go_enter Tryz.func89, Tryz.ntmps89
    go_wp2_with fail
    refine (eqActionS_any A3 B3 c3 d3 _ _ _ (h3.new hB) (k3.new hB) hb3).mono ?_
    rintro e u3 ⟨rfl, b3⟩
    replace hB := bthen hB b3
    replace K0 := K0.new_ b3
    replace K1 := K1.new_ b3
    rw [decide_eq_true (unhide H3)]
    have y3_4 : u3.cell? ⟨w.heap.size, 4, none⟩ = some _ := K0.cell 4
    have x3_4 : u3.cell? ⟨w.heap.size + 1, 4, none⟩ = some _ := K1.cell 4
    have y3_5 : u3.cell? ⟨w.heap.size, 5, none⟩ = some _ := K0.cell 5
    have x3_5 : u3.cell? ⟨w.heap.size + 1, 5, none⟩ = some _ := K1.cell 5
    go_wp2
    go_ret
    exact ⟨retb (by rw [decide_eq_false (unhide HE)]), hB⟩
  have H5 := hide e5
  have g5 : (x.eff != y.eff) = false := by simpa using e5
  clear e5
  have HE := hide (show x = y by have e0 := unhide H0; have e1 := unhide H1; have e2 := unhide H2; have e3 := unhide H3; have e4 := unhide H4; have e5 := unhide H5; cases x; cases y; simp_all)
  go_enter Tryz.func89, Tryz.ntmps89
  go_wp2_with fail
  refine (eqActionS_any A3 B3 c3 d3 _ _ _ (h3.new hB) (k3.new hB) hb3).mono ?_
  rintro e u3 ⟨rfl, b3⟩
  replace hB := bthen hB b3
  replace K0 := K0.new_ b3
  replace K1 := K1.new_ b3
  rw [decide_eq_true (unhide H3)]
  have y3_4 : u3.cell? ⟨w.heap.size, 4, none⟩ = some _ := K0.cell 4
  have x3_4 : u3.cell? ⟨w.heap.size + 1, 4, none⟩ = some _ := K1.cell 4
  have y3_5 : u3.cell? ⟨w.heap.size, 5, none⟩ = some _ := K0.cell 5
  have x3_5 : u3.cell? ⟨w.heap.size + 1, 5, none⟩ = some _ := K1.cell 5
  go_wp2
  go_ret
  exact ⟨retb (by rw [decide_eq_true (unhide HE)]), hB⟩
end Go.Proofs.YtmpdopjailomlaaGreat
