/- Versions that are valid, and the store that remains, of the program (printed by gen_in.py from xlastv.in). -/
import Derived.Test.YtihlhejencninaaGreatEngV
namespace Go.Proofs.YtihlhejencninaaGreat
open Go.RowKit
set_option linter.unusedVariables false
set_option linter.unusedSimpArgs false

theorem below_grow (w : World) (q : Nat) (os : Array Obj) : Below w.heap.size w (Go.Sort.grow (w.drewN q) os) := by
 refine ⟨rfl, rfl, rfl, ?_, fun k hk => ?_⟩
 · show w.heap.size ≤ (w.heap ++ os).size
   simp
 · show (w.heap ++ os)[k]? = _
   rw [Array.getElem?_append_left hk]
theorem cmpV_lt {a b : Ver} (h : ltV a b) : cmpV a b < 0 := by
 unfold ltV at h
 unfold cmpV
 split <;> omega
set_option maxRecDepth 100000 in
set_option maxHeartbeats 4000000 in
theorem versionsValid_impl (A : Option Addr) (c : Nat) (vs : List Ver) (w : World) (h : Rd w A (vs.flatMap encV)) (hb : vs.length ≤ 1000000) (hs : srtV vs) (hbd : ∀ x ∈ vs, (0 ≤ x.k ∧ x.k ≤ 31) ∧ (0 ≤ x.n ∧ x.n ≤ 9) ∧ 0 ≤ x.v ∧ x.v ≤ 1000000) :
   Calls Tryz.prog 171 #[.slice A vs.length c] w fun e w' => e = .returned (.bool true) ∧ Below w.heap.size w w' := by
 have HS := hide hs
 have HBD := hide hbd
 clear hs hbd
 go_enter Tryz.func171, Tryz.ntmps171
 go_wp2
 go_loopw [7] (fun i wr => ∃ (k : Nat), k ≤ vs.length ∧ i = .int .i64 k ∧ Below w.heap.size w wr) (fun i _ => vs.length - (intOf i).toNat)
 case atStart => exact ⟨0, Nat.zero_le _, rfl, Below.refl _ _⟩
 case round =>
   obtain ⟨k, hk, rfl, hB⟩ := hrel
   by_cases hlt : k < vs.length
   · have i1 : (k : Int) < (vs.length : Int) := by omega
     obtain ⟨b, off, hA, hbb, d0, d1, d2⟩ := (h.new hB).ver hlt
     have hx := unhide HBD vs[k] (List.getElem_mem hlt)
     have HPREV := hide (fun (p : Nat) (hp : p + 1 = k) => show ∃ y : Ver, (wr.cell? ⟨b, off + p * 3, none⟩ = some (.int .i64 y.k) ∧ wr.cell? ⟨b, off + p * 3 + 1, none⟩ = some (.int .i64 y.n) ∧ wr.cell? ⟨b, off + p * 3 + 2, none⟩ = some (.int .i64 y.v)) ∧ ltV y vs[k] ∧ ((0 ≤ y.k ∧ y.k ≤ 31) ∧ 0 ≤ y.n ∧ y.n ≤ 9) from by
       obtain ⟨b', off', hA', -, z0, z1, z2⟩ := (h.new hB).ver (show p < vs.length by omega)
       rw [hA] at hA'
       injection hA' with hA'
       injection hA' with h8 h9
       subst h8
       subst h9
       have hy := unhide HBD vs[p] (List.getElem_mem (by omega))
       exact ⟨vs[p], ⟨z0, z1, z2⟩, List.pairwise_iff_getElem.1 (unhide HS) p k (by omega) hlt (by omega), hy.1, hy.2.1⟩)
     generalize vs[k] = x at *
     have HA := hide hA
     clear hA
     rw [unhide HA]
     have t1 : inB x.k 0 31 = true := inB_true.2 hx.1
     have t2 : inB x.n 0 9 = true := inB_true.2 hx.2.1
     have t3 : inB x.v 0 1000000 = true := inB_true.2 hx.2.2
     obtain ⟨V, hV⟩ : ∃ V : World, V = wr.alloc (.cells #[.int .i64 x.k, .int .i64 x.n, .int .i64 x.v] 166) := ⟨_, rfl⟩
     have bV' : Below wr.heap.size wr V := by rw [hV]; exact (Below.refl _ _).alloc (Nat.le_refl _) _
     have KX : Blk V wr.heap.size 166 #[.int .i64 x.k, .int .i64 x.n, .int .i64 x.v] := by rw [hV]; exact Blk.new _ _ _
     have HX := hide (fun (w' : World) (hb : Below V.heap.size V w') => show w'.cell? ⟨wr.heap.size, 0, none⟩ = some (.int .i64 x.k) ∧ w'.cell? ⟨wr.heap.size, 1, none⟩ = some (.int .i64 x.n) ∧ w'.cell? ⟨wr.heap.size, 2, none⟩ = some (.int .i64 x.v) from ⟨(KX.new_ hb).cell 0, (KX.new_ hb).cell 1, (KX.new_ hb).cell 2⟩)
     have hVs := bV'.size
     clear KX
     by_cases hz : k = 0
     · have hz1 : decide (0 < k) = false := by simp [hz]
       have HZ := hide hz
       clear hz
       go_wp2_with fail
       rw [← hV]
       clear hV
       have hF : StBL [bV (.pointer (some ⟨wr.heap.size, 0, none⟩)), bV (.int .i64 x.k), bV (.bool true), bV (.bool false), bV (.bool false), bV (.pointer (some ⟨wr.heap.size, 1, none⟩)), bV (.int .i64 x.n), bV (.bool true), bV (.bool false), bV (.bool false), bV (.bool false), bV (.pointer (some ⟨wr.heap.size, 2, none⟩)), bV (.int .i64 x.v), bV (.bool true), bV (.bool false), bV (.bool false), bV (.bool false), bV (.int .i64 (k : Int)), bV (.bool false), bV (.bool false), (fun _ _ => True), (fun _ _ => True), (fun _ _ => True), (fun _ _ => True), (fun _ _ => True), (fun _ _ => True)] :=
         ⟨sb_V _, sb_V _, sb_V _, sb_V _, sb_V _, sb_V _, sb_V _, sb_V _, sb_V _, sb_V _, sb_V _, sb_V _, sb_V _, sb_V _, sb_V _, sb_V _, sb_V _, sb_V _, sb_V _, sb_V _, sb_True, sb_True, sb_True, sb_True, sb_True, sb_True, trivial⟩
       go_upto_region 4 with fail
       refine wp_region_loc (by kernel_rfl) [(0, some 12), (1, some 13), (2, some 14), (3, some 15), (4, some 16), (5, some 17), (6, some 18), (7, some 19), (8, some 20), (9, some 21), (10, some 22), (11, some 23), (12, some 24), (13, some 25), (14, some 26), (15, some 27), (16, some 28), (17, some 29), (18, some 30), (19, some 31), (20, some 32), (21, some 33), (22, some 34), (23, some 35), (24, some 36), (25, some 37)] [[], [(0, some 12)], [(1, some 13)], [(2, some 14)], [(3, some 15)], [(4, some 16)], [(4, some 16), (5, some 17)], [(4, some 16), (6, some 18)], [(4, some 16), (7, some 19)], [(4, some 16), (8, some 20)], [(9, some 21)], [(10, some 22)], [(10, some 22), (11, some 23)], [(10, some 22), (12, some 24)], [(10, some 22), (13, some 25)], [(10, some 22), (14, some 26)], [(15, some 27)], [(16, some 28)], [(16, some 28), (17, some 29)], [(16, some 28), (18, some 30)], [(19, some 31)], [(19, some 31)], [(19, some 31), (21, some 33)], [(19, some 31), (20, some 32), (22, some 34)], [(19, some 31), (23, some 35)], [(19, some 31)]] (by kernel_rfl)
         (locB _) (fun a b => Below a.heap.size a b) noR [0, 0, 0, 0, 0, 0, 0, 0, 0, 0, 0, 0, 0, 0, 0, 0, 0, 0, 0, 0, 0, 0, 0, 0, 0, 0] 0 (by kernel_rfl) (fun _ => Below.refl _ _) (fun _ _ _ => bthen) (locB_st hF _) trivial ?_ ?_
       · refine steps_cons ?s0 ( steps_cons ?s1 ( steps_cons ?s2 ( steps_cons ?s3 ( steps_cons ?s4 ( steps_cons ?s5 ( steps_cons ?s6 ( steps_cons ?s7 ( steps_cons ?s8 ( steps_cons ?s9 ( steps_cons ?s10 ( steps_cons ?s11 ( steps_cons ?s12 ( steps_cons ?s13 ( steps_cons ?s14 ( steps_cons ?s15 ( steps_cons ?s16 ( steps_cons ?s17 ( steps_cons ?s18 ( steps_cons ?s19 ( steps_cons ?s20 ( steps_cons ?s21 ( steps_cons ?s22 ( steps_cons ?s23 ( steps_cons ?s24 ( steps_cons ?s25 steps_nil)))))))))))))))))))))))))
         case s0 =>
           intro w' m' hE hR
           intro Q hQ
           go_wp2
           exact hQ _ _ _ rfl rfl (Below.refl _ _) trivial
         case s1 =>
           intro w' m' hE hR
           rintro _ rfl Q hQ
           have bb := below_undrew hE
           obtain ⟨y0, y1, y2⟩ := unhide HX w' bb
           go_wp2
           exact hQ _ _ _ rfl rfl (Below.refl _ _) trivial
         case s2 =>
           intro w' m' hE hR
           rintro _ rfl Q hQ
           go_wp2_with fail
           refine (isKey_any x.k _).mono ?_
           rintro e w2 ⟨rfl, rfl⟩
           rw [t1]
           go_wp2
           exact hQ _ _ _ rfl rfl (Below.refl _ _) trivial
         case s3 | s4 | s5 | s10 | s11 | s16 | s17 =>
           intro w' m' hE hR
           rintro _ rfl Q hQ
           go_wp2
           exact hQ _ _ _ rfl rfl (Below.refl _ _) trivial
         case s6 | s12 =>
           intro w' m' hE hR
           rintro _ rfl _ rfl Q hQ
           have bb := below_undrew hE
           obtain ⟨y0, y1, y2⟩ := unhide HX w' bb
           go_wp2
           exact hQ _ _ _ rfl rfl (Below.refl _ _) trivial
         case s7 =>
           intro w' m' hE hR
           rintro _ rfl _ rfl Q hQ
           go_wp2_with fail
           refine (in_any x.n 0 9 _).mono ?_
           rintro e w2 ⟨rfl, rfl⟩
           rw [t2]
           go_wp2
           exact hQ _ _ _ rfl rfl (Below.refl _ _) trivial
         case s8 | s9 | s14 | s15 | s18 | s19 =>
           intro w' m' hE hR
           rintro _ rfl _ rfl Q hQ
           go_wp2
           exact hQ _ _ _ rfl rfl (Below.refl _ _) trivial
         case s13 =>
           intro w' m' hE hR
           rintro _ rfl _ rfl Q hQ
           go_wp2_with fail
           refine (isValue_any x.v _).mono ?_
           rintro e w2 ⟨rfl, rfl⟩
           rw [t3]
           go_wp2
           exact hQ _ _ _ rfl rfl (Below.refl _ _) trivial
         case s20 | s21 | s25 =>
           intro w' m' hE hR
           rintro _ rfl Q hQ
           go_wp2_with fail
           exact hQ undef _ _ rfl trivial (Below.refl _ _) trivial
         case s22 | s24 =>
           intro w' m' hE hR
           rintro _ rfl _ - Q hQ
           go_wp2_with fail
           exact hQ undef _ _ rfl trivial (Below.refl _ _) trivial
         case s23 =>
           intro w' m' hE hR
           rintro _ rfl _ - _ - Q hQ
           go_wp2_with fail
           exact hQ undef _ _ rfl trivial (Below.refl _ _) trivial
       intro w9 hE _
       rintro v0 - v1 - v2 - v3 hv3 v4 hv4 v5 - v6 - v7 - v8 - v9 hv9 v10 hv10 v11 - v12 - v13 - v14 - v15 hv15 v16 hv16 v17 - v18 hv18 v19 hv19 v20 - v21 - v22 - v23 - v24 - v25 -
       obtain rfl : v3 = _ := hv3
       obtain rfl : v4 = _ := hv4
       obtain rfl : v9 = _ := hv9
       obtain rfl : v10 = _ := hv10
       obtain rfl : v15 = _ := hv15
       obtain rfl : v16 = _ := hv16
       obtain rfl : v18 = _ := hv18
       obtain rfl : v19 = _ := hv19
       change wpList _ _ _ [_, _, _, _] _ _
       simp only [Act.put, List.setIfInBounds_toArray, List.set_cons_succ, List.set_cons_zero]
       have b9 := below_undrew hE
       clear hE hF
       go_wp2
       go_roundw
       case rel => exact ⟨k + 1, by omega, by go_num, bthen hB (bthen bV' b9)⟩
       case measure => simp [intOf]; omega
     · have hz1 : decide (0 < k) = true := by simp; omega
       obtain ⟨p, rfl⟩ : ∃ p, k = p + 1 := ⟨k - 1, by omega⟩
       rw [show ((p + 1 : Nat) : Int) = (p : Int) + 1 by omega] at i1
       obtain ⟨y, ⟨z0, z1, z2⟩, hlt2, hy⟩ := unhide HPREV p rfl
       have c0 := (bV'.cell (p := ⟨b, off + p * 3, none⟩) hbb).trans z0
       have c1 := (bV'.cell (p := ⟨b, off + p * 3 + 1, none⟩) hbb).trans z1
       have c2 := (bV'.cell (p := ⟨b, off + p * 3 + 2, none⟩) hbb).trans z2
       have i2 : (p : Int) < (vs.length : Int) := by omega
       clear z0 z1 z2 hz
       go_wp2_with fail
       rw [← hV]
       clear hV
       have hF : StBL [bV (.pointer (some ⟨wr.heap.size, 0, none⟩)), bV (.int .i64 x.k), bV (.bool true), bV (.bool false), bV (.bool false), bV (.pointer (some ⟨wr.heap.size, 1, none⟩)), bV (.int .i64 x.n), bV (.bool true), bV (.bool false), bV (.bool false), bV (.bool false), bV (.pointer (some ⟨wr.heap.size, 2, none⟩)), bV (.int .i64 x.v), bV (.bool true), bV (.bool false), bV (.bool false), bV (.bool false), bV (.int .i64 ((p : Int) + 1)), bV (.bool true), bV (.bool true), bV (.slice (some ⟨b, off, none⟩) vs.length c), bV (.int .i64 ((p : Int) + 1)), bV (.int .i64 (p : Int)), bV (.pointer (some ⟨b, off + p * 3, none⟩)), bV (.agg #[.int .i64 y.k, .int .i64 y.n, .int .i64 y.v]), bV (.agg #[.int .i64 x.k, .int .i64 x.n, .int .i64 x.v])] :=
         ⟨sb_V _, sb_V _, sb_V _, sb_V _, sb_V _, sb_V _, sb_V _, sb_V _, sb_V _, sb_V _, sb_V _, sb_V _, sb_V _, sb_V _, sb_V _, sb_V _, sb_V _, sb_V _, sb_V _, sb_V _, sb_V _, sb_V _, sb_V _, sb_V _, sb_V _, sb_V _, trivial⟩
       go_upto_region 4 with fail
       refine wp_region_loc (by kernel_rfl) [(0, some 12), (1, some 13), (2, some 14), (3, some 15), (4, some 16), (5, some 17), (6, some 18), (7, some 19), (8, some 20), (9, some 21), (10, some 22), (11, some 23), (12, some 24), (13, some 25), (14, some 26), (15, some 27), (16, some 28), (17, some 29), (18, some 30), (19, some 31), (20, some 32), (21, some 33), (22, some 34), (23, some 35), (24, some 36), (25, some 37)] [[], [(0, some 12)], [(1, some 13)], [(2, some 14)], [(3, some 15)], [(4, some 16)], [(4, some 16), (5, some 17)], [(4, some 16), (6, some 18)], [(4, some 16), (7, some 19)], [(4, some 16), (8, some 20)], [(9, some 21)], [(10, some 22)], [(10, some 22), (11, some 23)], [(10, some 22), (12, some 24)], [(10, some 22), (13, some 25)], [(10, some 22), (14, some 26)], [(15, some 27)], [(16, some 28)], [(16, some 28), (17, some 29)], [(16, some 28), (18, some 30)], [(19, some 31)], [(19, some 31)], [(19, some 31), (21, some 33)], [(19, some 31), (20, some 32), (22, some 34)], [(19, some 31), (23, some 35)], [(19, some 31)]] (by kernel_rfl)
         (locB _) (fun a b => Below a.heap.size a b) noR [0, 0, 0, 0, 0, 0, 0, 0, 0, 0, 0, 0, 0, 0, 0, 0, 0, 0, 0, 0, 0, 0, 0, 0, 0, 0] 0 (by kernel_rfl) (fun _ => Below.refl _ _) (fun _ _ _ => bthen) (locB_st hF _) trivial ?_ ?_
       · refine steps_cons ?s0 ( steps_cons ?s1 ( steps_cons ?s2 ( steps_cons ?s3 ( steps_cons ?s4 ( steps_cons ?s5 ( steps_cons ?s6 ( steps_cons ?s7 ( steps_cons ?s8 ( steps_cons ?s9 ( steps_cons ?s10 ( steps_cons ?s11 ( steps_cons ?s12 ( steps_cons ?s13 ( steps_cons ?s14 ( steps_cons ?s15 ( steps_cons ?s16 ( steps_cons ?s17 ( steps_cons ?s18 ( steps_cons ?s19 ( steps_cons ?s20 ( steps_cons ?s21 ( steps_cons ?s22 ( steps_cons ?s23 ( steps_cons ?s24 ( steps_cons ?s25 steps_nil)))))))))))))))))))))))))
         case s0 =>
           intro w' m' hE hR
           intro Q hQ
           go_wp2
           exact hQ _ _ _ rfl rfl (Below.refl _ _) trivial
         case s1 | s25 =>
           intro w' m' hE hR
           rintro _ rfl Q hQ
           have bb := below_undrew hE
           obtain ⟨y0, y1, y2⟩ := unhide HX w' bb
           go_wp2
           exact hQ _ _ _ rfl rfl (Below.refl _ _) trivial
         case s2 =>
           intro w' m' hE hR
           rintro _ rfl Q hQ
           go_wp2_with fail
           refine (isKey_any x.k _).mono ?_
           rintro e w2 ⟨rfl, rfl⟩
           rw [t1]
           go_wp2
           exact hQ _ _ _ rfl rfl (Below.refl _ _) trivial
         case s3 | s4 | s5 | s10 | s11 | s16 | s17 | s20 | s21 =>
           intro w' m' hE hR
           rintro _ rfl Q hQ
           go_wp2
           exact hQ _ _ _ rfl rfl (Below.refl _ _) trivial
         case s6 | s12 =>
           intro w' m' hE hR
           rintro _ rfl _ rfl Q hQ
           have bb := below_undrew hE
           obtain ⟨y0, y1, y2⟩ := unhide HX w' bb
           go_wp2
           exact hQ _ _ _ rfl rfl (Below.refl _ _) trivial
         case s7 =>
           intro w' m' hE hR
           rintro _ rfl _ rfl Q hQ
           go_wp2_with fail
           refine (in_any x.n 0 9 _).mono ?_
           rintro e w2 ⟨rfl, rfl⟩
           rw [t2]
           go_wp2
           exact hQ _ _ _ rfl rfl (Below.refl _ _) trivial
         case s8 | s9 | s14 | s15 | s18 | s19 | s22 =>
           intro w' m' hE hR
           rintro _ rfl _ rfl Q hQ
           go_wp2
           exact hQ _ _ _ rfl rfl (Below.refl _ _) trivial
         case s13 =>
           intro w' m' hE hR
           rintro _ rfl _ rfl Q hQ
           go_wp2_with fail
           refine (isValue_any x.v _).mono ?_
           rintro e w2 ⟨rfl, rfl⟩
           rw [t3]
           go_wp2
           exact hQ _ _ _ rfl rfl (Below.refl _ _) trivial
         case s23 =>
           intro w' m' hE hR
           rintro _ rfl _ rfl _ rfl Q hQ
           go_wp2
           exact hQ _ _ _ rfl rfl (Below.refl _ _) trivial
         case s24 =>
           intro w' m' hE hR
           rintro _ rfl _ rfl Q hQ
           have bb := below_undrew hE
           have p0 := (bb.cell (p := ⟨b, off + p * 3, none⟩) (by simp only; omega)).trans c0
           have p1 := (bb.cell (p := ⟨b, off + p * 3 + 1, none⟩) (by simp only; omega)).trans c1
           have p2 := (bb.cell (p := ⟨b, off + p * 3 + 2, none⟩) (by simp only; omega)).trans c2
           go_wp2
           exact hQ _ _ _ rfl rfl (Below.refl _ _) trivial
       intro w9 hE _
       rintro v0 - v1 - v2 - v3 hv3 v4 hv4 v5 - v6 - v7 - v8 - v9 hv9 v10 hv10 v11 - v12 - v13 - v14 - v15 hv15 v16 hv16 v17 - v18 hv18 v19 hv19 v20 - v21 - v22 - v23 - v24 hv24 v25 hv25
       obtain rfl : v3 = _ := hv3
       obtain rfl : v4 = _ := hv4
       obtain rfl : v9 = _ := hv9
       obtain rfl : v10 = _ := hv10
       obtain rfl : v15 = _ := hv15
       obtain rfl : v16 = _ := hv16
       obtain rfl : v18 = _ := hv18
       obtain rfl : v19 = _ := hv19
       obtain rfl : v24 = _ := hv24
       obtain rfl : v25 = _ := hv25
       change wpList _ _ _ [_, _, _, _] _ _
       simp only [Act.put, List.setIfInBounds_toArray, List.set_cons_succ, List.set_cons_zero]
       have b9 := below_undrew hE
       clear hE hF
       go_wp2_with fail
       refine (order_any ⟨y, hy.1, hy.2.1, by omega⟩ ⟨x, hx.1, hx.2.1.1, by omega⟩ w9).mono ?_
       rintro e w10 ⟨rfl, q, os, hw10⟩
       have b10 : Below w9.heap.size w9 w10 := by rw [hw10]; exact below_grow _ _ _
       clear hw10
       have hc : decide (0 ≤ cmpV y x) = false := by have := cmpV_lt hlt2; simp; omega
       go_wp2
       go_roundw
       case rel => exact ⟨p + 1 + 1, by omega, by go_num, bthen hB (bthen bV' (bthen b9 b10))⟩
       case measure => simp [intOf]; omega
   · obtain rfl : k = vs.length := by omega
     go_wp2
     go_ret
     exact ⟨rfl, hB⟩
/-- the values, the first k of them read anew -/
def lastI (s : List Ent) (vs : List Ver) (k : Nat) : List Int := (List.range 32).map fun j : Nat => if j < k then (readV s vs (j : Int) 10).1 else (valsL s).getD j 0
theorem lastI_len (s : List Ent) (vs : List Ver) (k : Nat) : (lastI s vs k).length = 32 := by simp [lastI]
theorem lastI_zero (s : List Ent) (vs : List Ver) : lastI s vs 0 = valsL s := by
 refine List.ext_getElem (by rw [lastI_len, valsL_len]) fun j h1 h2 => ?_
 simp [lastI, List.getD_eq_getElem?_getD, List.getElem?_eq_getElem h2]
theorem lastI_all (s : List Ent) (vs : List Ver) : lastI s vs 32 = nowV s vs 10 := by
 unfold lastI nowV
 refine List.map_congr_left fun j hj => ?_
 rw [if_pos (List.mem_range.1 hj)]
theorem lastI_succ (s : List Ent) (vs : List Ver) (k : Nat) (hk : k < 32) : lastI s vs (k + 1) = (lastI s vs k).set k (readV s vs (k : Int) 10).1 := by
 refine List.ext_getElem (by rw [List.length_set, lastI_len, lastI_len]) fun j h1 h2 => ?_
 rw [List.getElem_set]
 simp only [lastI, List.getElem_map, List.getElem_range]
 by_cases h : k = j
 · subst h; simp
 · rw [if_neg h]
   by_cases hj : j < k
   · rw [if_pos hj, if_pos (by omega)]
   · rw [if_neg hj, if_neg (by omega)]
set_option maxRecDepth 100000 in
set_option maxHeartbeats 4000000 in
theorem lastVersions_impl (A : Option Addr) (c : Nat) (s : List Ent) (B : Option Addr) (d : Nat) (vs : List Ver) (w : World) (ha : Rd w A (s.flatMap encE)) (hsb : storeB s = true) (h : Rd w B (vs.flatMap encV)) (hb : vs.length ≤ 1000000) (hs : srtV vs) (hbd : ∀ x ∈ vs, (0 ≤ x.k ∧ x.k ≤ 31) ∧ (0 ≤ x.n ∧ x.n ≤ 9) ∧ 0 ≤ x.v ∧ x.v ≤ 1000000) :
   Calls Tryz.prog 129 #[.slice A s.length c, .slice B vs.length d] w fun e w' => ∃ A' c', e = .returned (.slice A' (storeL (nowV s vs 10)).length c') ∧ w'.ownsRow w.heap.size 79 2 (.slice A' (storeL (nowV s vs 10)).length c') (storeL (nowV s vs 10)).length ((storeL (nowV s vs 10)).flatMap encE) ∧ Below w.heap.size w w' := by
 have hsl := store_len hsb
 have KS := storeB_impl A c s w ha (by omega)
 rw [hsb] at KS
 have HK := hide (store_keys hsb)
 have HAT := hide (fun (k : Int) (hk : 0 ≤ k ∧ k ≤ 31) => atV_vals hsb hk)
 have HKV := hide (fun (w' : World) (hb : Below w.heap.size w w') => versionsValid_impl B d vs w' (h.new hb) (by omega) hs hbd)
 have HKO := hide (fun (w' : World) (hb : Below w.heap.size w w') => valuesOf_any A c s w' (ha.new hb) (by omega) (unhide HK))
 have HAL := hide (lastI_all s vs)
 clear hs hbd hsb ha
 go_enter Tryz.func129, Tryz.ntmps129
 go_wp2_with fail
 refine KS.mono ?_
 rintro x w1 ⟨rfl, b1⟩
 clear KS
 go_wp2_with fail
 refine (unhide HKV w1 b1).mono ?_
 rintro x w2 ⟨rfl, b2⟩
 have b12 := bthen b1 b2
 go_wp2_with fail
 refine (unhide HKO w2 b12).mono ?_
 rintro x w3 ⟨rfl, b3⟩
 have b13 := bthen b12 b3
 have hls : (vA (valsL s)).size = 32 := by rw [vA_size, valsL_len]
 obtain ⟨kz, kv, b4⟩ := one_vals w3 112 (valsL s)
 obtain ⟨g5, hg5⟩ : ∃ q, q = w3.heap.size := ⟨_, rfl⟩
 go_wp2_with (first
   | (refine wpList_store_row rfl 112 (.tmp 5) (.tmp 17) rfl w3.heap.size (vA (valsL s)) rfl rfl 112 zA kz (by rw [hls]; exact info_vals) (by rw [hls]; rfl) (vA_one _) ?_; refine at_world (C := fun W => wpList _ _ _ _ _ W) (F := fun W => Blk W w3.heap.size 112 (vA (valsL s)) ∧ Below w3.heap.size w3 W) ⟨kv, b4⟩ ?_; clear kz kv b4; rintro w4 ⟨kv, b4⟩; rw [← hg5] at kv ⊢; have HG5 := hide hg5; clear hg5; obtain ⟨kz6, kv6, b56⟩ := one_vals w4 112 (valsL s); have k56 := kv.new_ b56)
   | (refine wpList_load_row rfl 112 (.tmp 5) rfl g5 rfl 112 (vA (valsL s)) (0, 0) _ kv Tryz.underlying112 rfl (by rw [hls]; exact info_vals) ?_)
   | (refine wpList_store_row rfl 112 (.tmp 6) (.tmp 18) rfl w4.heap.size (vA (valsL s)) rfl rfl 112 zA kz6 (by rw [hls]; exact info_vals) (by rw [hls]; rfl) (vA_one _) ?_; refine at_world (C := fun W => wpList _ _ _ _ _ W) (F := fun W => Blk W g5 112 (vA (valsL s)) ∧ Blk W w4.heap.size 112 (vA (valsL s)) ∧ Below w4.heap.size w4 W) ⟨k56, kv6, b56⟩ ?_; have hl4 := kv.lt; clear kz6 kv6 k56 b56 kv; rintro w5 ⟨k5, k6, b5⟩; obtain ⟨g6, hg6⟩ : ∃ g, g = w4.heap.size := ⟨_, rfl⟩; rw [← hg6] at k6 ⊢; have HG6 := hide hg6; clear hg6))
 have b35 := bthen b4 b5
 have b05 := bthen b13 b35
 have hg56 : g5 < g6 := by have := unhide HG6; omega
 have HG6W := hide (show w3.heap.size ≤ g6 by have := unhide HG6; have := b4.size; omega)
 have hw3 := b13.size
 rw [← lastI_zero s vs] at k6
 clear b4 b5
 go_loopw [19] (fun i wr => ∃ k : Nat, k ≤ 32 ∧ i = .int .i64 k ∧ Blk wr g5 112 (vA (valsL s)) ∧ Blk wr g6 112 (vA (lastI s vs k)) ∧ Below w.heap.size w wr) (fun i _ => 32 - (intOf i).toNat)
 case atStart => exact ⟨0, Nat.zero_le _, rfl, k5, k6, b05⟩
 case round =>
   clear k5 k6 b05 b35
   obtain ⟨k, hk, rfl, k5, k6, hB⟩ := hrel
   have hl5 := k5.lt
   have hl6 := k6.lt
   by_cases hlt : k < 32
   · have i1 : (k : Int) < 32 := by omega
     have hr := h.new hB
     have hln := lastI_len s vs k
     have KR := read_impl s (valsL s) B d vs (k : Int) 10 wr (valsL_len s) (unhide HAT (k : Int) ⟨by omega, by omega⟩) ⟨by omega, by omega⟩ hr (by omega)
     have HSU := hide (lastI_succ s vs k hlt)
     have HK5 := hide (fun (w' : World) (hb : Below wr.heap.size wr w') => k5.new_ hb)
     have HK6 := hide (fun (w' : World) (hb : Below wr.heap.size wr w') => k6.new_ hb)
     generalize lastI s vs k = cur at *
     go_wp2_with (refine wpList_load_row rfl 112 (.tmp 5) rfl g5 rfl 112 (vA (valsL s)) (0, 0) _ k5 Tryz.underlying112 rfl (by rw [hls]; exact info_vals) ?_)
     refine KR.mono ?_
     rintro x w6 ⟨rfl, b6⟩
     clear KR
     have k56 := unhide HK5 w6 b6
     have k66 := unhide HK6 w6 b6
     have i3 : k < cur.length := by omega
     have cv := vA_get k66 i3
     have zv := k66.frozen k
     have hl66 := k66.lt
     have bch : Below w.heap.size w6 (w6.setCell ⟨g6, k, none⟩ (.int .i64 (readV s vs (k : Int) 10).1)) := ((Chg.refl (fun q => q = g6) w6).setCell (p := ⟨g6, k, none⟩) (.inl rfl) _).below (fun q hq e => by have := unhide HG6W; omega) (by have := b6.size; have := hB.size; omega)
     have kk5 := k56.chg ((Chg.refl (fun q => q = g6) w6).setCell (p := ⟨g6, k, none⟩) (.inl rfl) (.int .i64 (readV s vs (k : Int) 10).1)) (show g5 ≠ g6 by omega)
     have kk6 := vA_set k66 k (readV s vs (k : Int) 10).1
     have HF := hide (And.intro kk5 (And.intro kk6 ((bthen hB b6).trans bch)))
     clear kk5 kk6 bch k56 k66 k5 k6
     go_wp2
     go_roundw
     case rel => exact ⟨k + 1, by omega, by go_num, (unhide HF).1, by rw [unhide HSU]; exact (unhide HF).2.1, (unhide HF).2.2⟩
     case measure => simp [intOf]; omega
   · obtain rfl : k = 32 := by omega
     rw [unhide HAL] at k6
     have hln : (nowV s vs 10).length = 32 := nowV_len _ _ _
     have hlz : (vA (nowV s vs 10)).size = 32 := by rw [vA_size, hln]
     go_wp2_with (refine wpList_load_row rfl 112 (.tmp 6) rfl g6 rfl 112 (vA (nowV s vs 10)) (0, 0) _ k6 Tryz.underlying112 rfl (by rw [hlz]; exact info_vals) ?_)
     refine (store_any (nowV s vs 10) wr hln).mono ?_
     rintro x w6 ⟨A9, c9, rfl, o9, b9⟩
     go_wp2
     go_ret
     exact ⟨A9, c9, rfl, own_base o9 hB.size, bthen hB b9⟩
end Go.Proofs.YtihlhejencninaaGreat
