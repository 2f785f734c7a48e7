/- The law FnExactAnswerRight. -/
import Derived.Test.YtiaodcjocogkkaaProof
import Derived.Test.YtiaodcjocogkkaaValBlock
import Derived.Test.YtiaodcjocogkkaaValAnswer
import Derived.Test.YtiaodcjocogkkaaLocB
namespace Go.Proofs.Ytiaodcjocogkkaa
open Go.RowKit
set_option linter.unusedVariables false
set_option linter.unusedSimpArgs false
attribute [local go_sem ↓] Go.wp_at_zero Go.wp_at_succ

theorem info_lBlock : (Try.prog.info? 45).map (·.size) = some 6 := by kernel_rfl
theorem info_lAnswer : (Try.prog.info? 48).map (·.size) = some 3 := by kernel_rfl
/-- a block by value whose actions are read -/
def kBk (x : Bk) (v : Value) (w : World) : Prop := ∃ A c, v = .agg #[.int .i64 x.before, .int .i64 x.height, .int .i64 x.view, .slice A x.list.length c, .int .i64 x.root, .int .i64 x.eff] ∧ Rd w A (x.list.flatMap encA)
theorem sb_Bk (x : Bk) : StB (kBk x) := fun _ _ _ hb ⟨A, c, h1, h2⟩ => ⟨A, c, h1, h2.new hb⟩
def kAns (x : Ans) (v : Value) (w : World) : Prop := ∃ A c, v = .agg #[.int .i64 x.key, .int .i64 x.value, .slice A x.proof.length c] ∧ Rd w A (x.proof.map (.int .i64))
theorem sb_Ans (x : Ans) : StB (kAns x) := fun _ _ _ hb ⟨A, c, h1, h2⟩ => ⟨A, c, h1, h2.new hb⟩
set_option maxRecDepth 100000 in
set_option maxHeartbeats 4000000 in
theorem law_FnExactAnswerRight (x : Bk) (A : Option Addr) (c : Nat) (a : Ans) (B : Option Addr) (d : Nat) (w : World) (h : Rd w A (x.list.flatMap encA)) (hm : x.list.length ≤ maxLen) (k : Rd w B (a.proof.map (.int .i64))) (km : a.proof.length ≤ maxLen) :
    Calls Try.prog 6 #[.agg #[.int .i64 x.before, .int .i64 x.height, .int .i64 x.view, .slice A x.list.length c, .int .i64 x.root, .int .i64 x.eff], .agg #[.int .i64 a.key, .int .i64 a.value, .slice B a.proof.length d]] w fun e w' => e = .returned (.bool true) ∧ Below w.heap.size w w' := by
  simp only [maxLen] at hm km
  have hb1 : Below w.heap.size w ((w.alloc (.cells #[.int .i64 x.before, .int .i64 x.height, .int .i64 x.view, .slice A x.list.length c, .int .i64 x.root, .int .i64 x.eff] 45)).alloc (.cells #[.int .i64 a.key, .int .i64 a.value, .slice B a.proof.length d] 48)) := ((Below.refl _ _).alloc (Nat.le_refl _) _).alloc (by simp) _
  have k0 := (Blk.new w 45 #[.int .i64 x.before, .int .i64 x.height, .int .i64 x.view, .slice A x.list.length c, .int .i64 x.root, .int .i64 x.eff]).alloc (.cells #[.int .i64 a.key, .int .i64 a.value, .slice B a.proof.length d] 48)
  have k1 := Blk.new (w.alloc (.cells #[.int .i64 x.before, .int .i64 x.height, .int .i64 x.view, .slice A x.list.length c, .int .i64 x.root, .int .i64 x.eff] 45)) 48 #[.int .i64 a.key, .int .i64 a.value, .slice B a.proof.length d]
  simp only [World.size_alloc] at k1
  by_cases g1 : (x.list.length : Int) ≤ 1048576
  rotate_left
  · go_enter Try.func6, Try.ntmps6
    go_wp2_with fail
    refine (szBlock_any x A c 1048576 _ (by omega) (by omega) (by omega)).mono ?_
    rintro e w1 ⟨rfl, b1⟩
    rw [if_neg (by omega)]
    go_wp2
    go_ret
    exact ⟨rfl, bthen hb1 b1⟩
  by_cases g2 : (a.proof.length : Int) ≤ 1048576 - (x.list.length : Int)
  rotate_left
  · have i1 : ¬ 1048576 - (x.list.length : Int) < 0 := by omega
    go_enter Try.func6, Try.ntmps6
    go_wp2_with fail
    refine (szBlock_any x A c 1048576 _ (by omega) (by omega) (by omega)).mono ?_
    rintro e w1 ⟨rfl, b1⟩
    rw [if_pos g1]
    replace k1 := k1.new_ b1
    have z0 : w1.cell? ⟨w.heap.size + 1, 0, none⟩ = some (.int .i64 a.key) := k1.cell 0
    have z1 : w1.cell? ⟨w.heap.size + 1, 1, none⟩ = some (.int .i64 a.value) := k1.cell 1
    have z2 : w1.cell? ⟨w.heap.size + 1, 2, none⟩ = some (.slice B a.proof.length d) := k1.cell 2
    go_wp2_with fail
    refine (szAnswer_any a B d (1048576 - (x.list.length : Int)) _ (by omega) (by omega) (by omega)).mono ?_
    rintro e w2 ⟨rfl, b2⟩
    rw [if_neg (by omega)]
    go_wp2
    go_ret
    exact ⟨rfl, bthen (bthen hb1 b1) b2⟩
  have i1 : ¬ 1048576 - (x.list.length : Int) < 0 := by omega
  have i2 : ¬ 1048576 - (x.list.length : Int) - (a.proof.length : Int) < 0 := by omega
  have l1 : x.list.length ≤ 1048576 := by omega
  have l2 : a.proof.length ≤ 1048576 := by omega
  go_enter Try.func6, Try.ntmps6
  go_wp2_with fail
  refine (szBlock_any x A c 1048576 _ (by omega) (by omega) (by omega)).mono ?_
  rintro e w1 ⟨rfl, b1⟩
  rw [if_pos g1]
  replace k0 := k0.new_ b1
  replace k1 := k1.new_ b1
  have z0 : w1.cell? ⟨w.heap.size + 1, 0, none⟩ = some (.int .i64 a.key) := k1.cell 0
  have z1 : w1.cell? ⟨w.heap.size + 1, 1, none⟩ = some (.int .i64 a.value) := k1.cell 1
  have z2 : w1.cell? ⟨w.heap.size + 1, 2, none⟩ = some (.slice B a.proof.length d) := k1.cell 2
  go_wp2_with fail
  refine (szAnswer_any a B d (1048576 - (x.list.length : Int)) _ (by omega) (by omega) (by omega)).mono ?_
  rintro e w2 ⟨rfl, b2⟩
  rw [if_pos g2]
  replace k0 := k0.new_ b2
  replace k1 := k1.new_ b2
  have hB := bthen (bthen hb1 b1) b2
  clear b1 b2 hb1 z0 z1 z2
  have r0 := h.new hB
  have r1 := k.new hB
  have hF : StBL [kBk x, kBk x, bV (.agg #[.int .i64 a.key, .int .i64 a.value, .slice B a.proof.length d])] := ⟨sb_Bk x, sb_Bk x, sb_V _, trivial⟩
  go_wp2
  refine wp_region_loc (by kernel_rfl) [(0, some 20), (1, some 21), (2, some 22)] [[], [(0, some 20)], []] (by kernel_rfl)
    (locB [kBk x, kBk x, bV (.agg #[.int .i64 a.key, .int .i64 a.value, .slice B a.proof.length d])]) (fun a b => Below a.heap.size a b) noR [0, 0, 0] 0 (by kernel_rfl) (fun _ => Below.refl _ _) (fun _ _ _ => bthen) (locB_st hF _) trivial ?_ ?_
  · refine steps_cons ?s0 (steps_cons ?s1 (steps_cons ?s2 steps_nil))
    case s0 =>
      intro w' m hE hR Q hQ
      have kk := k0.new_ (below_undrew hE)
      refine wpList_load_row rfl 45 (.tmp 2) rfl w.heap.size rfl 45 _ (0, 0) _ kk Try.underlying45 rfl info_lBlock ?_
      go_wp2
      exact hQ _ _ _ rfl ⟨A, c, rfl, r0.new (below_undrew hE)⟩ (Below.refl _ _) trivial
    case s1 =>
      intro w' m hE hR
      rintro v1 ⟨A1, c1, rfl, ra⟩ Q hQ
      go_wp2_with fail
      refine (toBlock_any x A1 c1 w' ra l1).mono ?_
      rintro e w3 ⟨A3, c3, rfl, o3, b3⟩
      go_wp2
      exact hQ _ _ _ rfl ⟨A3, c3, rfl, own_rd o3⟩ b3 trivial
    case s2 =>
      intro w' m hE hR Q hQ
      have kk := k1.new_ (below_undrew hE)
      refine wpList_load_row rfl 48 (.tmp 3) rfl (w.heap.size + 1) rfl 48 _ (0, 0) _ kk Try.underlying48 rfl info_lAnswer ?_
      go_wp2
      exact hQ _ _ _ rfl rfl (Below.refl _ _) trivial
  intro w3 hE _
  rintro v0 - v1 ⟨A1, c1, rfl, ra⟩ v2 hv2
  obtain rfl : v2 = _ := hv2
  have b3 := below_undrew hE
  replace k0 := k0.new_ b3
  replace k1 := k1.new_ b3
  replace hB := bthen hB b3
  replace r0 := r0.new b3
  replace r1 := r1.new b3
  clear b3 hE
  change wpList _ _ _ [_, _, _] _ _
  simp only [Act.put, List.setIfInBounds_toArray, List.set_cons_succ, List.set_cons_zero]
  go_wp2_with fail
  refine (toAnswer_any a B d w3 r1 l2).mono ?_
  rintro e w4 ⟨B4, d4, rfl, o4, b4⟩
  have ra4 := own_rd o4
  replace hB := bthen hB b4
  replace ra := ra.new b4
  replace r0 := r0.new b4
  replace r1 := r1.new b4
  replace k0 := k0.new_ b4
  replace k1 := k1.new_ b4
  clear o4 b4
  go_wp2_with fail
  refine (answerRight_spec x a A1 c1 B4 d4 w4 ra (by omega) ra4 (by omega)).mono ?_
  rintro e w5 ⟨rfl, b5⟩
  replace hB := bthen hB b5
  replace r0 := r0.new b5
  replace r1 := r1.new b5
  replace k0 := k0.new_ b5
  replace k1 := k1.new_ b5
  clear ra4 ra b5
  have zK := k0
  have z0 : w5.cell? ⟨w.heap.size, 0, none⟩ = some (.int .i64 x.before) := zK.cell 0
  have z1 : w5.cell? ⟨w.heap.size, 1, none⟩ = some (.int .i64 x.height) := zK.cell 1
  have z2 : w5.cell? ⟨w.heap.size, 2, none⟩ = some (.int .i64 x.view) := zK.cell 2
  have z3 : w5.cell? ⟨w.heap.size, 3, none⟩ = some (.slice A x.list.length c) := zK.cell 3
  have z4 : w5.cell? ⟨w.heap.size, 4, none⟩ = some (.int .i64 x.root) := zK.cell 4
  have z5 : w5.cell? ⟨w.heap.size, 5, none⟩ = some (.int .i64 x.eff) := zK.cell 5
  go_wp2_with fail
  refine (toBlock_any x A c w5 r0 l1).mono ?_
  rintro e w6 ⟨A6, c6, rfl, o6, b6⟩
  have r6 := own_rd o6
  replace hB := bthen hB b6
  replace r0 := r0.new b6
  replace r1 := r1.new b6
  replace k0 := k0.new_ b6
  replace k1 := k1.new_ b6
  clear zK z0 z1 z2 z3 z4 z5 o6 b6
  have hl1 := k1.lt
  have y0 : w6.cell? ⟨w.heap.size + 1, 0, none⟩ = some (.int .i64 a.key) := k1.cell 0
  have y1 : w6.cell? ⟨w.heap.size + 1, 1, none⟩ = some (.int .i64 a.value) := k1.cell 1
  have y2 : w6.cell? ⟨w.heap.size + 1, 2, none⟩ = some (.slice B a.proof.length d) := k1.cell 2
  have kx := Blk.new w6 53 #[.int .i64 x.before, .int .i64 x.height, .int .i64 x.view, .slice A6 x.list.length c6, .int .i64 x.root, .int .i64 x.eff]
  have hbx : Below w6.heap.size w6 (w6.alloc (.cells #[.int .i64 x.before, .int .i64 x.height, .int .i64 x.view, .slice A6 x.list.length c6, .int .i64 x.root, .int .i64 x.eff] 53)) := (Below.refl _ _).alloc (Nat.le_refl _) _
  have hs6 := hB.size
  go_wp2_with fail
  replace hB := bthen hB hbx
  replace r0 := r0.new hbx
  replace r1 := r1.new hbx
  replace k0 := k0.new_ hbx
  replace k1 := k1.new_ hbx
  replace r6 := r6.new hbx
  clear y0 y1 y2 hl1 hbx
  refine (toAnswer_any a B d _ r1 l2).mono ?_
  rintro e w7 ⟨B7, d7, rfl, o7, b7⟩
  have r7 := own_rd o7
  have hl7 := b7.size
  simp only [World.size_alloc] at hl7
  replace hB := bthen hB b7
  replace r0 := r0.new b7
  replace r1 := r1.new b7
  replace r6 := r6.new b7
  replace k0 := k0.new_ b7
  replace k1 := k1.new_ b7
  replace kx := kx.new_ b7
  clear o7 b7
  have y0 : w7.cell? ⟨w6.heap.size, 0, none⟩ = some (.int .i64 x.before) := kx.cell 0
  have y1 : w7.cell? ⟨w6.heap.size, 1, none⟩ = some (.int .i64 x.height) := kx.cell 1
  have y2 : w7.cell? ⟨w6.heap.size, 2, none⟩ = some (.int .i64 x.view) := kx.cell 2
  have y3 : w7.cell? ⟨w6.heap.size, 3, none⟩ = some (.slice A6 x.list.length c6) := kx.cell 3
  have y4 : w7.cell? ⟨w6.heap.size, 4, none⟩ = some (.int .i64 x.root) := kx.cell 4
  have y5 : w7.cell? ⟨w6.heap.size, 5, none⟩ = some (.int .i64 x.eff) := kx.cell 5
  have hlx := kx.lt
  have ky := Blk.new w7 55 #[.int .i64 a.key, .int .i64 a.value, .slice B7 a.proof.length d7]
  have hby : Below w7.heap.size w7 (w7.alloc (.cells #[.int .i64 a.key, .int .i64 a.value, .slice B7 a.proof.length d7] 55)) := (Below.refl _ _).alloc (Nat.le_refl _) _
  go_wp2_with fail
  replace hB := bthen hB hby
  replace r0 := r0.new hby
  replace r1 := r1.new hby
  replace k0 := k0.new_ hby
  replace k1 := k1.new_ hby
  replace kx := kx.new_ hby
  replace r6 := r6.new hby
  replace r7 := r7.new hby
  clear y0 y1 y2 y3 y4 y5 hby
  refine (answerRight_impl x a A6 c6 B7 d7 _ r6 (by omega) r7 (by omega)).mono ?_
  rintro e w8 ⟨rfl, b8⟩
  replace hB := bthen hB b8
  replace r0 := r0.new b8
  replace r1 := r1.new b8
  replace r6 := r6.new b8
  replace r7 := r7.new b8
  replace k0 := k0.new_ b8
  replace k1 := k1.new_ b8
  replace kx := kx.new_ b8
  replace ky := ky.new_ b8
  have hbn : (answerB x a != answerB x a) = false := by simp
  generalize answerB x a = ab at *
  have hF2 : StBL [bV (.agg #[.int .i64 x.before, .int .i64 x.height, .int .i64 x.view, .slice A6 x.list.length c6, .int .i64 x.root, .int .i64 x.eff]), bV (.agg #[.int .i64 x.before, .int .i64 x.height, .int .i64 x.view, .slice A x.list.length c, .int .i64 x.root, .int .i64 x.eff]), kBk x] := ⟨sb_V _, sb_V _, sb_Bk x, trivial⟩
  have hF3 : StBL [bV (.agg #[.int .i64 a.key, .int .i64 a.value, .slice B7 a.proof.length d7]), bV (.agg #[.int .i64 a.key, .int .i64 a.value, .slice B a.proof.length d]), kAns a] := ⟨sb_V _, sb_V _, sb_Ans a, trivial⟩
  cases ab
  all_goals
    go_wp2
    refine wp_region_loc (by kernel_rfl) [(0, some 35), (1, some 36), (2, some 37)] [[], [], [(1, some 36)]] (by kernel_rfl)
      (locB [bV (.agg #[.int .i64 x.before, .int .i64 x.height, .int .i64 x.view, .slice A6 x.list.length c6, .int .i64 x.root, .int .i64 x.eff]), bV (.agg #[.int .i64 x.before, .int .i64 x.height, .int .i64 x.view, .slice A x.list.length c, .int .i64 x.root, .int .i64 x.eff]), kBk x]) (fun a b => Below a.heap.size a b) noR [0, 0, 0] 0 (by kernel_rfl) (fun _ => Below.refl _ _) (fun _ _ _ => bthen) (locB_st hF2 _) trivial ?_ ?_
    · refine steps_cons ?s0 (steps_cons ?s1 (steps_cons ?s2 steps_nil))
      case s0 =>
        intro w' m hE hR Q hQ
        refine wpList_load_row rfl 53 (.tmp 7) rfl w6.heap.size rfl 53 _ (0, 0) _ (kx.new_ (below_undrew hE)) Try.underlying53 rfl info_valBlock ?_
        go_wp2
        exact hQ _ _ _ rfl rfl (Below.refl _ _) trivial
      case s1 =>
        intro w' m hE hR Q hQ
        refine wpList_load_row rfl 45 (.tmp 2) rfl w.heap.size rfl 45 _ (0, 0) _ (k0.new_ (below_undrew hE)) Try.underlying45 rfl info_lBlock ?_
        go_wp2
        exact hQ _ _ _ rfl rfl (Below.refl _ _) trivial
      case s2 =>
        intro w' m hE hR
        intro v1 hv1 Q hQ
        obtain rfl : v1 = _ := hv1
        go_wp2_with fail
        refine (toBlock_any x A c w' (r0.new (below_undrew hE)) l1).mono ?_
        rintro e w3 ⟨A3, c3, rfl, o3, b3⟩
        go_wp2
        exact hQ _ _ _ rfl ⟨A3, c3, rfl, own_rd o3⟩ b3 trivial
    intro w9 hE _
    rintro v0 hv0 v1 - v2 ⟨A9, c9, rfl, r9⟩
    obtain rfl : v0 = _ := hv0
    have b9 := below_undrew hE
    replace hB := bthen hB b9
    replace r0 := r0.new b9
    replace r1 := r1.new b9
    replace r6 := r6.new b9
    replace r7 := r7.new b9
    replace k0 := k0.new_ b9
    replace k1 := k1.new_ b9
    replace kx := kx.new_ b9
    replace ky := ky.new_ b9
    clear b9 hE
    change wpList _ _ _ [_, _] _ _
    simp only [Act.put, List.setIfInBounds_toArray, List.set_cons_succ, List.set_cons_zero]
    go_wp2_with fail
    refine (eqBlock_any x x A6 c6 A9 c9 w9 r6 r9 (by omega)).mono ?_
    rintro e w10 ⟨rfl, b10⟩
    rw [decide_eq_true rfl]
    replace hB := bthen hB b10
    replace r1 := r1.new b10
    replace r7 := r7.new b10
    replace k1 := k1.new_ b10
    replace ky := ky.new_ b10
    clear b10 kx k0 r0 r6 r9
    go_wp2
    refine wp_region_loc (by kernel_rfl) [(0, some 40), (1, some 41), (2, some 42)] [[], [], [(1, some 41)]] (by kernel_rfl)
      (locB [bV (.agg #[.int .i64 a.key, .int .i64 a.value, .slice B7 a.proof.length d7]), bV (.agg #[.int .i64 a.key, .int .i64 a.value, .slice B a.proof.length d]), kAns a]) (fun a b => Below a.heap.size a b) noR [0, 0, 0] 0 (by kernel_rfl) (fun _ => Below.refl _ _) (fun _ _ _ => bthen) (locB_st hF3 _) trivial ?_ ?_
    · refine steps_cons ?t0 (steps_cons ?t1 (steps_cons ?t2 steps_nil))
      case t0 =>
        intro w' m hE hR Q hQ
        refine wpList_load_row rfl 55 (.tmp 8) rfl w7.heap.size rfl 55 _ (0, 0) _ (ky.new_ (below_undrew hE)) Try.underlying55 rfl info_valAnswer ?_
        go_wp2
        exact hQ _ _ _ rfl rfl (Below.refl _ _) trivial
      case t1 =>
        intro w' m hE hR Q hQ
        refine wpList_load_row rfl 48 (.tmp 3) rfl (w.heap.size + 1) rfl 48 _ (0, 0) _ (k1.new_ (below_undrew hE)) Try.underlying48 rfl info_lAnswer ?_
        go_wp2
        exact hQ _ _ _ rfl rfl (Below.refl _ _) trivial
      case t2 =>
        intro w' m hE hR
        intro v1 hv1 Q hQ
        obtain rfl : v1 = _ := hv1
        go_wp2_with fail
        refine (toAnswer_any a B d w' (r1.new (below_undrew hE)) l2).mono ?_
        rintro e w3 ⟨A3, c3, rfl, o3, b3⟩
        go_wp2
        exact hQ _ _ _ rfl ⟨A3, c3, rfl, own_rd o3⟩ b3 trivial
    intro w11 hE _
    rintro v0 hv0 v1 - v2 ⟨A11, c11, rfl, r11⟩
    obtain rfl : v0 = _ := hv0
    have b11 := below_undrew hE
    replace hB := bthen hB b11
    replace r7 := r7.new b11
    change wpList _ _ _ [_, _] _ _
    simp only [Act.put, List.setIfInBounds_toArray, List.set_cons_succ, List.set_cons_zero]
    go_wp2_with fail
    refine (eqAnswer_any a a B7 d7 A11 c11 w11 r7 r11 (by omega)).mono ?_
    rintro e w12 ⟨rfl, b12⟩
    rw [decide_eq_true rfl]
    go_wp2
    go_ret
    exact ⟨rfl, bthen hB b12⟩
end Go.Proofs.Ytiaodcjocogkkaa
