/- The law FnExactAheadBlock (printed by gen_in.py from xlawexahead.in). -/
import Derived.Test.YtihlhejencninaaGreatAheadC
import Derived.Test.YtihlhejencninaaGreatGtree
import Derived.Test.YtihlhejencninaaGreatGint
import Derived.Test.YtihlhejencninaaGreatGloc
import Derived.Test.YtihlhejencninaaGreatOpenEntry
import Derived.Deep.Cut
namespace Go.Proofs.YtihlhejencninaaGreat
open Go.RowKit
set_option linter.unusedVariables false
set_option linter.unusedSimpArgs false

/-- a block by value whose actions are read -/
def kBkA (x : Bk) (v : Value) (w : World) : Prop := ∃ A c, v = .agg #[.int .i64 x.before, .int .i64 x.height, .int .i64 x.view, .slice A x.list.length c, .int .i64 x.root, .int .i64 x.eff] ∧ Rd w A (x.list.flatMap encA)
theorem sb_BkA (x : Bk) : StB (kBkA x) := fun _ _ _ hb ⟨A, c, h1, h2⟩ => ⟨A, c, h1, h2.new hb⟩
set_option maxRecDepth 100000 in
set_option maxHeartbeats 8000000 in
theorem law_FnExactAheadBlock (x : Bk) (A : Option Addr) (c : Nat) (B : Option Addr) (cs : Nat) (s : List Ent) (M : Option Addr) (cm : Nat) (ms : List Int) (w : World) (h : Rd w A (x.list.flatMap encA)) (hm : x.list.length ≤ maxLen) (h1 : Rd w B (s.flatMap encE)) (hw1 : ∀ n ∈ s, n.wf) (hm1 : s.length ≤ maxLen) (h2 : Rd w M (ms.map (.int .i64))) (hw2 : ∀ n ∈ ms, -9223372036854775808 ≤ n ∧ n ≤ 9223372036854775807) (hm2 : ms.length ≤ maxLen) :
    Calls Tryz.prog 3 #[.agg #[.int .i64 x.before, .int .i64 x.height, .int .i64 x.view, .slice A x.list.length c, .int .i64 x.root, .int .i64 x.eff], .slice B s.length cs, .slice M ms.length cm] w fun e w' => e = .returned (.bool true) ∧ Below w.heap.size w w' := by
  clear hw1 hw2
  simp only [maxLen] at hm hm1 hm2
  obtain ⟨W, hW⟩ : ∃ W : World, W = w.alloc (.cells #[.int .i64 x.before, .int .i64 x.height, .int .i64 x.view, .slice A x.list.length c, .int .i64 x.root, .int .i64 x.eff] 24) := ⟨_, rfl⟩
  have hb0 : Below w.heap.size w W := by rw [hW]; exact (Below.refl _ _).alloc (Nat.le_refl _) _
  have k0 : Blk W w.heap.size 24 #[.int .i64 x.before, .int .i64 x.height, .int .i64 x.view, .slice A x.list.length c, .int .i64 x.root, .int .i64 x.eff] := by rw [hW]; exact Blk.new _ _ _
  have HK0 := hide (fun (w' : World) (hb : Below W.heap.size W w') => show w'.cell? ⟨w.heap.size, 0, none⟩ = some (.int .i64 x.before) ∧ w'.cell? ⟨w.heap.size, 1, none⟩ = some (.int .i64 x.height) ∧ w'.cell? ⟨w.heap.size, 2, none⟩ = some (.int .i64 x.view) ∧ w'.cell? ⟨w.heap.size, 3, none⟩ = some (.slice A x.list.length c) ∧ w'.cell? ⟨w.heap.size, 4, none⟩ = some (.int .i64 x.root) ∧ w'.cell? ⟨w.heap.size, 5, none⟩ = some (.int .i64 x.eff) from ⟨(k0.new_ hb).cell 0, (k0.new_ hb).cell 1, (k0.new_ hb).cell 2, (k0.new_ hb).cell 3, (k0.new_ hb).cell 4, (k0.new_ hb).cell 5⟩)
  have HR0 := hide (fun (w' : World) (hb : Below W.heap.size W w') => (Rd.new (Rd.new h hb0) hb : Rd w' A (x.list.flatMap encA)))
  have HR1 := hide (fun (w' : World) (hb : Below W.heap.size W w') => (Rd.new (Rd.new h1 hb0) hb : Rd w' B (s.flatMap encE)))
  have HR2 := hide (fun (w' : World) (hb : Below W.heap.size W w') => (Rd.new (Rd.new h2 hb0) hb : Rd w' M (ms.map (.int .i64))))
  obtain ⟨z0, z1, z2, z3, z4, z5⟩ := unhide HK0 W (Below.refl _ _)
  have hWl := k0.lt
  clear h h1 h2 k0
  by_cases hl2 : (1048576 : Int) < (ms.length : Int)
  · go_enter Tryz.func3, Tryz.ntmps3
    go_upto_region 1 with fail
    rw [← hW]
    clear hW
    go_wp2
    go_ret
    exact ⟨rfl, hb0⟩
  replace hl2 : ms.length ≤ 1048576 := by omega
  by_cases g1 : (x.list.length : Int) ≤ 1048576
  rotate_left
  · go_enter Tryz.func3, Tryz.ntmps3
    go_upto_region 1 with fail
    rw [← hW]
    clear hW
    go_wp2_with fail
    refine (szBlock_any x A c 1048576 _ (by omega) (by omega) (by omega)).mono ?_
    rintro e w1 ⟨rfl, b1⟩
    rw [if_neg (by omega)]
    go_wp2
    go_ret
    exact ⟨rfl, bthen hb0 b1⟩
  have i1 : ¬ 1048576 - (x.list.length : Int) < 0 := by omega
  have l1 : x.list.length ≤ 1048576 := by omega
  by_cases g2 : (s.length : Int) ≤ 1048576 - (x.list.length : Int)
  rotate_left
  · go_enter Tryz.func3, Tryz.ntmps3
    go_upto_region 1 with fail
    rw [← hW]
    clear hW
    go_wp2_with fail
    refine (szBlock_any x A c 1048576 _ (by omega) (by omega) (by omega)).mono ?_
    rintro e w1 ⟨rfl, b1⟩
    rw [if_pos g1]
    go_wp2_with fail
    refine (szEntryS_any B s.length cs (1048576 - (x.list.length : Int)) _ (by omega) (by omega) (by omega)).mono ?_
    rintro e w' ⟨rfl, rfl⟩
    rw [if_neg (by omega)]
    go_wp2
    go_ret
    exact ⟨rfl, bthen hb0 b1⟩
  have i2 : ¬ 1048576 - (x.list.length : Int) - (s.length : Int) < 0 := by omega
  have l2 : s.length ≤ 1048576 := by omega
  have hbn : (aheadB x s ms != aheadB x s ms) = false := by simp
  go_enter Tryz.func3, Tryz.ntmps3
  go_upto_region 1 with fail
  rw [← hW]
  clear hW
  go_wp2_with fail
  refine (szBlock_any x A c 1048576 _ (by omega) (by omega) (by omega)).mono ?_
  rintro e w1 ⟨rfl, b1⟩
  rw [if_pos g1]
  clear z0 z1 z2 z3 z4 z5
  obtain ⟨z0, z1, z2, z3, z4, z5⟩ := unhide HK0 w1 b1
  go_wp2_with fail
  refine (szEntryS_any B s.length cs (1048576 - (x.list.length : Int)) _ (by omega) (by omega) (by omega)).mono ?_
  rintro e w' ⟨rfl, rfl⟩
  rw [if_pos g2]
  go_wp2_with fail
  refine (toBlock_any x A c w1 (unhide HR0 w1 b1) l1).mono ?_
  rintro e w2 ⟨A2, c2, rfl, o2, b2⟩
  have q2 := own_rd o2
  replace b2 := bthen b1 b2
  clear o2 b1 z0 z1 z2 z3 z4 z5
  go_wp2_with fail
  refine (toEntryS_any B cs s w2 l2 (unhide HR1 w2 b2)).mono ?_
  rintro e w3 ⟨A3, c3, rfl, o3, b3⟩
  have q3 := own_rd o3
  replace q2 := q2.new b3
  replace b3 := bthen b2 b3
  clear o3 b2
  go_wp2_with fail
  refine (toIntS_any M cm ms w3 hl2 (unhide HR2 w3 b3)).mono ?_
  rintro e w4 ⟨A4, c4, rfl, o4, b4⟩
  have q4 := own_rd o4
  replace q2 := q2.new b4
  replace q3 := q3.new b4
  replace b4 := bthen b3 b4
  clear o4 b3
  go_wp2_with fail
  refine (aheadBlock_spec x A2 c2 A3 c3 s A4 c4 ms w4 q2 (by omega) q3 (by omega) q4 (by omega)).mono ?_
  rintro e w5 ⟨rfl, b5⟩
  replace b5 := bthen b4 b5
  clear q2 q3 q4 b4
  obtain ⟨z0, z1, z2, z3, z4, z5⟩ := unhide HK0 w5 b5
  go_wp2_with fail
  refine (toBlock_any x A c w5 (unhide HR0 w5 b5) l1).mono ?_
  rintro e w6 ⟨A6, c6, rfl, o6, b6⟩
  have q6 := own_rd o6
  replace b6 := bthen b5 b6
  clear o6 b5 z0 z1 z2 z3 z4 z5
  obtain ⟨V, hV⟩ : ∃ V : World, V = w6.alloc (.cells #[.int .i64 x.before, .int .i64 x.height, .int .i64 x.view, .slice A6 x.list.length c6, .int .i64 x.root, .int .i64 x.eff] 32) := ⟨_, rfl⟩
  obtain ⟨g, hg⟩ : ∃ g, g = w6.heap.size := ⟨_, rfl⟩
  have b6V : Below w6.heap.size w6 V := by rw [hV]; exact (Below.refl _ _).alloc (Nat.le_refl _) _
  have kx : Blk V g 32 #[.int .i64 x.before, .int .i64 x.height, .int .i64 x.view, .slice A6 x.list.length c6, .int .i64 x.root, .int .i64 x.eff] := by rw [hV, hg]; exact Blk.new _ _ _
  have HKX := hide (fun (w' : World) (hb : Below V.heap.size V w') => show w'.cell? ⟨g, 0, none⟩ = some (.int .i64 x.before) ∧ w'.cell? ⟨g, 1, none⟩ = some (.int .i64 x.height) ∧ w'.cell? ⟨g, 2, none⟩ = some (.int .i64 x.view) ∧ w'.cell? ⟨g, 3, none⟩ = some (.slice A6 x.list.length c6) ∧ w'.cell? ⟨g, 4, none⟩ = some (.int .i64 x.root) ∧ w'.cell? ⟨g, 5, none⟩ = some (.int .i64 x.eff) from ⟨(kx.new_ hb).cell 0, (kx.new_ hb).cell 1, (kx.new_ hb).cell 2, (kx.new_ hb).cell 3, (kx.new_ hb).cell 4, (kx.new_ hb).cell 5⟩)
  have HR6 := hide (fun (w' : World) (hb : Below V.heap.size V w') => (Rd.new (Rd.new q6 b6V) hb : Rd w' A6 (x.list.flatMap encA)))
  have bQ := bthen b6 b6V
  have HV := hide hV
  have HG := hide hg
  clear hV hg q6 b6 b6V kx
  go_upto_region 12 with fail
  rw [← unhide HV, ← unhide HG]
  go_wp2_with fail
  refine (toEntryS_any B cs s V l2 (unhide HR1 V bQ)).mono ?_
  rintro e w7 ⟨A7, c7, rfl, o7, b7⟩
  have q7 := own_rd o7
  have d7 := bthen bQ b7
  clear o7
  go_wp2_with fail
  refine (toIntS_any M cm ms w7 hl2 (unhide HR2 w7 d7)).mono ?_
  rintro e w8 ⟨A8, c8, rfl, o8, b8⟩
  have q8 := own_rd o8
  replace q7 := q7.new b8
  have d8 := bthen d7 b8
  have v8 := bthen b7 b8
  clear o8 b7 b8 d7
  obtain ⟨y0, y1, y2, y3, y4, y5⟩ := unhide HKX w8 v8
  go_wp2_with fail
  refine (aheadBlock_impl x A6 c6 A7 c7 s A8 c8 ms w8 (unhide HR6 w8 v8) (by omega) q7 (by omega) q8 (by omega)).mono ?_
  rintro e w9 ⟨rfl, b9⟩
  have d9 := bthen d8 b9
  have v9 := bthen v8 b9
  have HQ7 := hide (fun (w' : World) (hb : Below w9.heap.size w9 w') => (Rd.new (Rd.new q7 b9) hb : Rd w' A7 (s.flatMap encE)))
  have HQ8 := hide (fun (w' : World) (hb : Below w9.heap.size w9 w') => (Rd.new (Rd.new q8 b9) hb : Rd w' A8 (ms.map (.int .i64))))
  clear y0 y1 y2 y3 y4 y5 q7 q8 d8 v8 b9
  generalize aheadB x s ms = ab at *
  cases ab
  all_goals
    have hF : StBL [bV (.agg #[.int .i64 x.before, .int .i64 x.height, .int .i64 x.view, .slice A6 x.list.length c6, .int .i64 x.root, .int .i64 x.eff]), bV (.agg #[.int .i64 x.before, .int .i64 x.height, .int .i64 x.view, .slice A x.list.length c, .int .i64 x.root, .int .i64 x.eff]), kBkA x] :=
      ⟨sb_V _, sb_V _, sb_BkA _, trivial⟩
    go_upto_region 17 with fail
    refine wp_region_loc (by kernel_rfl) [(0, some 46), (1, some 47), (2, some 48)] [[], [], [(1, some 47)]] (by kernel_rfl)
      (locB _) (fun a b => Below a.heap.size a b) noR [0, 0, 0] 0 (by kernel_rfl) (fun _ => Below.refl _ _) (fun _ _ _ => bthen) (locB_st hF _) trivial ?_ ?_
    · refine steps_cons ?s0 ( steps_cons ?s1 ( steps_cons ?s2 steps_nil))
      case s0 =>
        intro w' m' hE hR
        intro Q hQ
        obtain ⟨y0, y1, y2, y3, y4, y5⟩ := unhide HKX w' (bthen v9 (below_undrew hE))
        go_wp2
        exact hQ _ _ _ rfl rfl (Below.refl _ _) trivial
      case s1 =>
        intro w' m' hE hR
        intro Q hQ
        obtain ⟨y0, y1, y2, y3, y4, y5⟩ := unhide HK0 w' (bthen d9 (below_undrew hE))
        go_wp2
        exact hQ _ _ _ rfl rfl (Below.refl _ _) trivial
      case s2 =>
        intro w' m' hE hR
        rintro _ rfl Q hQ
        have d' := bthen d9 (below_undrew hE)
        go_wp2_with fail
        refine (toBlock_any x A c w' (unhide HR0 w' d') l1).mono ?_
        rintro e w3 ⟨A3, c3, rfl, o3, b3⟩
        go_wp2
        exact hQ _ _ _ rfl ⟨A3, c3, rfl, own_rd o3⟩ b3 trivial
    intro w10 hE _
    rintro v0 hv0 v1 - v2 ⟨A10, c10, rfl, r10⟩
    obtain rfl : v0 = _ := hv0
    change wpList _ _ _ [_, _] _ _
    simp only [Act.put, List.setIfInBounds_toArray, List.set_cons_succ, List.set_cons_zero]
    have b10 := below_undrew hE
    have d10 := bthen d9 b10
    have v10 := bthen v9 b10
    clear hE hF
    go_wp2_with fail
    refine (eqBlock_any x x A6 c6 A10 c10 w10 (unhide HR6 w10 v10) r10 (by omega)).mono ?_
    rintro e w11 ⟨rfl, b11⟩
    rw [decide_eq_true rfl]
    have d11 := bthen d10 b11
    have e11 := bthen b10 b11
    clear r10 b11 d10 v10 b10
    go_wp2_with fail
    refine (toEntryS_any B cs s w11 l2 (unhide HR1 w11 d11)).mono ?_
    rintro e w12 ⟨A12, c12, rfl, o12, b12⟩
    have q12 := own_rd o12
    have d12 := bthen d11 b12
    have e12 := bthen e11 b12
    clear o12 b12 d11 e11
    go_wp2_with fail
    refine (eqEntryS_any A7 A12 c7 c12 _ _ w12 (unhide HQ7 w12 e12) q12 (by omega)).mono ?_
    rintro e w13 ⟨rfl, b13⟩
    have d13 := bthen d12 b13
    have e13 := bthen e12 b13
    clear q12 b13 d12 e12
    go_wp2_with fail
    refine (toIntS_any M cm ms w13 hl2 (unhide HR2 w13 d13)).mono ?_
    rintro e w14 ⟨A14, c14, rfl, o14, b14⟩
    have q14 := own_rd o14
    have d14 := bthen d13 b14
    have e14 := bthen e13 b14
    clear o14 b14 d13 e13
    go_wp2_with fail
    refine (eqIntS_any A8 A14 c8 c14 _ _ w14 (unhide HQ8 w14 e14) q14 (by omega)).mono ?_
    rintro e w' ⟨rfl, m15, rfl⟩
    have d15 := below_drewN d14 m15
    go_wp2
    go_ret
    exact ⟨rfl, bthen hb0 d15⟩
end Go.Proofs.YtihlhejencninaaGreat
