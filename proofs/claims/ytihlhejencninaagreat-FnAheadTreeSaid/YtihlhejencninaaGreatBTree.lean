/- Valid trees of blocks, of both sides (printed by gen_in.py from xbtree.in). -/
import Derived.Test.YtihlhejencninaaGreatGtree
import Derived.Deep.Cut
namespace Go.Proofs.YtihlhejencninaaGreat
open Go.RowKit
set_option linter.unusedVariables false
set_option linter.unusedSimpArgs false

def zB : Bk := ⟨0, 0, 0, [], 0, 0⟩
def bAt (t : Tr) (i : Nat) : Bk := t.blocks.getD i zB
def pAt (t : Tr) (i : Nat) : Int := t.before.getD i 0
def nodeOk (t : Tr) (i : Nat) : Bool := inB (pAt t i) 0 ((i : Int) - 1) && ((bAt t i).before == bsum (bAt t (pAt t i).toNat) && ((bAt t i).height == (bAt t (pAt t i).toNat).height + 1 && decide ((bAt t (pAt t i).toNat).view < (bAt t i).view)))
def sumOk (t : Tr) (i : Nat) : Bool := blkB (bAt t i) && !decide (bsum (bAt t i) ∈ (t.blocks.take i).map bsum)
def upTo (f : Nat → Bool) : Nat → Bool
 | 0 => true
 | n + 1 => upTo f n && f n
theorem upTo_get {f : Nat → Bool} {n : Nat} (h : upTo f n = true) : ∀ i, i < n → f i = true := by
 induction n with
 | zero => intro i hi; omega
 | succ n ih =>
   rw [upTo, Bool.and_eq_true] at h
   intro i hi
   rcases Nat.lt_or_ge i n with h1 | h1
   · exact ih h.1 i h1
   · obtain rfl : i = n := by omega
     exact h.2
theorem upTo_no {f : Nat → Bool} {n i : Nat} (hi : i < n) (h : f i = false) : upTo f n = false := by
 cases hu : upTo f n
 · rfl
 · rw [upTo_get hu i hi] at h; cases h
def nodeOk0 (t : Tr) (i : Nat) : Bool := i == 0 || nodeOk t i
def tree0 (t : Tr) : Bool := storeB t.base && (inB (t.blocks.length : Int) 1 14 && decide (t.before.length = t.blocks.length))
def tree1 (t : Tr) : Bool := decide (bAt t 0 = fstB t.base) && (pAt t 0 == -1)
/-- is it a tree? -/
def treeB (t : Tr) : Bool := tree0 t && (tree1 t && (upTo (sumOk t) t.blocks.length && upTo (nodeOk0 t) t.blocks.length))
theorem treeB_no0 {t : Tr} (h : tree0 t = false) : treeB t = false := by simp [treeB, h]
theorem treeB_no1 {t : Tr} (h : tree1 t = false) : treeB t = false := by simp [treeB, h]
theorem treeB_no2 {t : Tr} {i : Nat} (hi : i < t.blocks.length) (h : sumOk t i = false) : treeB t = false := by simp [treeB, upTo_no hi h]
theorem treeB_no3 {t : Tr} {i : Nat} (hi : i < t.blocks.length) (h0 : i ≠ 0) (h : nodeOk t i = false) : treeB t = false := by
 have : nodeOk0 t i = false := by simp [nodeOk0, h, h0]
 simp [treeB, upTo_no hi this]
theorem bAt_get (t : Tr) {i : Nat} (h : i < t.blocks.length) : bAt t i = t.blocks[i] := by simp [bAt, List.getD_eq_getElem?_getD, List.getElem?_eq_getElem h]
theorem pAt_get (t : Tr) {i : Nat} (h : i < t.before.length) : pAt t i = t.before[i] := by simp [pAt, List.getD_eq_getElem?_getD, List.getElem?_eq_getElem h]
theorem treeB_yes {t : Tr} (h : treeB t = true) : storeB t.base = true ∧ 1 ≤ t.blocks.length ∧ t.blocks.length ≤ 14 ∧ t.before.length = t.blocks.length ∧ bAt t 0 = fstB t.base ∧ pAt t 0 = -1 ∧ (∀ i, i < t.blocks.length → sumOk t i = true) ∧ (∀ i, 0 < i → i < t.blocks.length → nodeOk t i = true) := by
 simp only [treeB, tree0, tree1, Bool.and_eq_true, decide_eq_true_eq, beq_iff_eq] at h
 obtain ⟨⟨h1, h2, h3⟩, ⟨h4, h5⟩, h6, h7⟩ := h
 have h2 := inB_true.1 h2
 refine ⟨h1, by omega, by omega, h3, h4, h5, upTo_get h6, fun i h0 hi => ?_⟩
 have := upTo_get h7 i hi
 simp only [nodeOk0, Bool.or_eq_true, beq_iff_eq] at this
 rcases this with h | h
 · omega
 · exact h
theorem tree0_lens {t : Tr} (h : tree0 t = true) : storeB t.base = true ∧ 1 ≤ t.blocks.length ∧ t.blocks.length ≤ 14 ∧ t.before.length = t.blocks.length := by
 simp only [tree0, Bool.and_eq_true, decide_eq_true_eq] at h
 have := inB_true.1 h.2.1
 exact ⟨h.1, by omega, by omega, h.2.2⟩
set_option maxRecDepth 100000 in
set_option maxHeartbeats 8000000 in
theorem treeValid_impl0 (t : Tr) (A1 : Option Addr) (c1 : Nat) (A2 : Option Addr) (c2 : Nat) (A3 : Option Addr) (c3 : Nat) (w : World) (h : TrR w t A1 A2 A3) (hb1 : t.base.length ≤ 1099511627776) (hb2 : t.blocks.length ≤ 1099511627776) (hbs : ∀ x ∈ t.blocks, x.list.length ≤ 1099511627776) (hb3 : t.before.length ≤ 1099511627776) (ht0 : tree0 t = false) :
   Calls Tryz.prog 86 #[.agg (trA t A1 c1 A2 c2 A3 c3)] w fun e w' => e = .returned (.bool (treeB t)) ∧ Below w.heap.size w w' := by
 have HBS := hide hbs
 clear hbs
 obtain ⟨W, hW⟩ : ∃ W : World, W = w.alloc (.cells (trA t A1 c1 A2 c2 A3 c3) 69) := ⟨_, rfl⟩
 have hb0 : Below w.heap.size w W := by rw [hW]; exact (Below.refl _ _).alloc (Nat.le_refl _) _
 have K0 : Blk W w.heap.size 69 (trA t A1 c1 A2 c2 A3 c3) := by rw [hW]; exact Blk.new _ _ _
 replace h := h.new hb0
 simp only [trA] at K0 hW ⊢
 have BX := hide (fun w' (hb : Below W.heap.size W w') => (⟨(K0.new_ hb).cell 0, (K0.new_ hb).cell 1, (K0.new_ hb).cell 2⟩ : w'.cell? ⟨w.heap.size, 0, none⟩ = some (.slice A1 t.base.length c1) ∧ w'.cell? ⟨w.heap.size, 1, none⟩ = some (.slice A2 t.blocks.length c2) ∧ w'.cell? ⟨w.heap.size, 2, none⟩ = some (.slice A3 t.before.length c3)))
 cases hsa : storeB t.base
 · have HN := hide (treeB_no0 (t := t) (by simp [tree0, hsa]))
   go_enter Tryz.func86, Tryz.ntmps86
   go_wp2
   rw [← hW]
   have hF : StBL [bV (.pointer (some ⟨w.heap.size, 0, none⟩)), bV (.slice A1 t.base.length c1), bV (.bool false), bV (.bool true), bV (.bool true), bV (undef), bV (undef), bV (undef), bV (undef), bV (undef), bV (.bool true), bV (.bool true), bV (undef), bV (undef), bV (undef), bV (undef), bV (undef), bV (undef), bV (undef), bV (.bool true), bV (.bool true), bV (undef), bV (undef), bV (undef), bV (undef), bV (undef), bV (undef), bV (undef)] :=
     ⟨sb_V _, sb_V _, sb_V _, sb_V _, sb_V _, sb_V _, sb_V _, sb_V _, sb_V _, sb_V _, sb_V _, sb_V _, sb_V _, sb_V _, sb_V _, sb_V _, sb_V _, sb_V _, sb_V _, sb_V _, sb_V _, sb_V _, sb_V _, sb_V _, sb_V _, sb_V _, sb_V _, sb_V _, trivial⟩
   go_upto_region 1 with fail
   refine wp_region_loc (by kernel_rfl) [(0, some 8), (1, some 9), (2, some 10), (3, some 11), (4, some 12), (5, some 13), (6, some 14), (7, some 15), (8, some 16), (9, some 17), (10, some 18), (11, some 19), (12, some 20), (13, some 21), (14, some 22), (15, some 23), (16, some 24), (17, some 25), (18, some 26), (19, some 27), (20, some 28), (21, some 29), (22, some 30), (23, some 31), (24, some 32), (25, some 33), (26, some 34), (27, some 35)] [[], [(0, some 8)], [(1, some 9)], [(2, some 10)], [(3, some 11)], [(4, some 12)], [(4, some 12), (5, some 13)], [(4, some 12), (6, some 14)], [(4, some 12), (7, some 15)], [(4, some 12), (8, some 16)], [(4, some 12), (9, some 17)], [(10, some 18)], [(11, some 19)], [(11, some 19), (12, some 20)], [(11, some 19), (13, some 21)], [(11, some 19)], [(11, some 19), (15, some 23)], [(11, some 19), (16, some 24)], [(11, some 19), (14, some 22), (17, some 25)], [(11, some 19), (18, some 26)], [(19, some 27)], [(20, some 28)], [(20, some 28), (21, some 29)], [(20, some 28), (22, some 30)], [(20, some 28), (23, some 31)], [(20, some 28)], [(20, some 28), (25, some 33)], [(20, some 28), (26, some 34)]] (by kernel_rfl)
     (locB _) (fun a b => Below a.heap.size a b) noR [0, 0, 0, 0, 0, 0, 0, 0, 0, 0, 0, 0, 0, 0, 0, 0, 0, 0, 0, 0, 0, 0, 0, 0, 0, 0, 0, 0] 0 (by kernel_rfl) (fun _ => Below.refl _ _) (fun _ _ _ => bthen) (locB_st hF _) trivial ?_ ?_
   · refine steps_cons ?s0 ( steps_cons ?s1 ( steps_cons ?s2 ( steps_cons ?s3 ( steps_cons ?s4 ( steps_cons ?s5 ( steps_cons ?s6 ( steps_cons ?s7 ( steps_cons ?s8 ( steps_cons ?s9 ( steps_cons ?s10 ( steps_cons ?s11 ( steps_cons ?s12 ( steps_cons ?s13 ( steps_cons ?s14 ( steps_cons ?s15 ( steps_cons ?s16 ( steps_cons ?s17 ( steps_cons ?s18 ( steps_cons ?s19 ( steps_cons ?s20 ( steps_cons ?s21 ( steps_cons ?s22 ( steps_cons ?s23 ( steps_cons ?s24 ( steps_cons ?s25 ( steps_cons ?s26 ( steps_cons ?s27 steps_nil)))))))))))))))))))))))))))
     case s0 =>
       intro w' m' hE hR
       intro Q hQ
       go_wp2
       exact hQ _ _ _ rfl rfl (Below.refl _ _) trivial
     case s1 =>
       intro w' m' hE hR
       rintro _ rfl Q hQ
       obtain ⟨x1, x2, x3⟩ := unhide BX w' (below_undrew hE)
       go_wp2
       exact hQ _ _ _ rfl rfl (Below.refl _ _) trivial
     case s2 =>
       intro w' m' hE hR
       rintro _ rfl Q hQ
       have K := storeB_impl A1 c1 t.base w' (h.b1.new (below_undrew hE)) (by omega)
       rw [hsa] at K
       go_wp2_with fail
       refine K.mono ?_
       rintro e w1 ⟨rfl, b1⟩
       go_wp2
       exact hQ _ _ _ rfl rfl b1 trivial
     case s3 | s4 | s5 | s11 | s12 | s15 | s20 | s21 | s25 =>
       intro w' m' hE hR
       rintro _ rfl Q hQ
       go_wp2
       exact hQ _ _ _ rfl rfl (Below.refl _ _) trivial
     case s6 | s7 | s8 | s9 | s10 | s13 | s14 | s16 | s17 | s19 | s22 | s23 | s24 | s26 | s27 =>
       intro w' m' hE hR
       rintro _ rfl _ rfl Q hQ
       go_wp2
       exact hQ _ _ _ rfl rfl (Below.refl _ _) trivial
     case s18 =>
       intro w' m' hE hR
       rintro _ rfl _ rfl _ rfl Q hQ
       go_wp2
       exact hQ _ _ _ rfl rfl (Below.refl _ _) trivial
   intro w9 hE _
   rintro v0 - v1 - v2 - v3 - v4 - v5 - v6 - v7 - v8 - v9 - v10 - v11 - v12 - v13 - v14 - v15 - v16 - v17 - v18 - v19 - v20 hv20 v21 - v22 - v23 - v24 - v25 - v26 - v27 -
   obtain rfl : v20 = _ := hv20
   change wpList _ _ _ [_, _, _, _, _, _, _, _, _, _] _ _
   simp only [Act.put, List.setIfInBounds_toArray, List.set_cons_succ, List.set_cons_zero]
   have b9 := below_undrew hE
   go_wp2
   go_ret
   exact ⟨retb (unhide HN).symm, bthen hb0 b9⟩
 cases hin : inB (t.blocks.length : Int) 1 14
 · have HN := hide (treeB_no0 (t := t) (by simp [tree0, hin]))
   go_enter Tryz.func86, Tryz.ntmps86
   go_wp2
   rw [← hW]
   have hF : StBL [bV (.pointer (some ⟨w.heap.size, 0, none⟩)), bV (.slice A1 t.base.length c1), bV (.bool true), bV (.bool false), bV (.bool false), bV (.pointer (some ⟨w.heap.size, 1, none⟩)), bV (.slice A2 t.blocks.length c2), bV (.int .i64 (t.blocks.length : Int)), bV (.bool false), bV (.bool true), bV (.bool true), bV (.bool true), bV (undef), bV (undef), bV (undef), bV (undef), bV (undef), bV (undef), bV (undef), bV (.bool true), bV (.bool true), bV (undef), bV (undef), bV (undef), bV (undef), bV (undef), bV (undef), bV (undef)] :=
     ⟨sb_V _, sb_V _, sb_V _, sb_V _, sb_V _, sb_V _, sb_V _, sb_V _, sb_V _, sb_V _, sb_V _, sb_V _, sb_V _, sb_V _, sb_V _, sb_V _, sb_V _, sb_V _, sb_V _, sb_V _, sb_V _, sb_V _, sb_V _, sb_V _, sb_V _, sb_V _, sb_V _, sb_V _, trivial⟩
   go_upto_region 1 with fail
   refine wp_region_loc (by kernel_rfl) [(0, some 8), (1, some 9), (2, some 10), (3, some 11), (4, some 12), (5, some 13), (6, some 14), (7, some 15), (8, some 16), (9, some 17), (10, some 18), (11, some 19), (12, some 20), (13, some 21), (14, some 22), (15, some 23), (16, some 24), (17, some 25), (18, some 26), (19, some 27), (20, some 28), (21, some 29), (22, some 30), (23, some 31), (24, some 32), (25, some 33), (26, some 34), (27, some 35)] [[], [(0, some 8)], [(1, some 9)], [(2, some 10)], [(3, some 11)], [(4, some 12)], [(4, some 12), (5, some 13)], [(4, some 12), (6, some 14)], [(4, some 12), (7, some 15)], [(4, some 12), (8, some 16)], [(4, some 12), (9, some 17)], [(10, some 18)], [(11, some 19)], [(11, some 19), (12, some 20)], [(11, some 19), (13, some 21)], [(11, some 19)], [(11, some 19), (15, some 23)], [(11, some 19), (16, some 24)], [(11, some 19), (14, some 22), (17, some 25)], [(11, some 19), (18, some 26)], [(19, some 27)], [(20, some 28)], [(20, some 28), (21, some 29)], [(20, some 28), (22, some 30)], [(20, some 28), (23, some 31)], [(20, some 28)], [(20, some 28), (25, some 33)], [(20, some 28), (26, some 34)]] (by kernel_rfl)
     (locB _) (fun a b => Below a.heap.size a b) noR [0, 0, 0, 0, 0, 0, 0, 0, 0, 0, 0, 0, 0, 0, 0, 0, 0, 0, 0, 0, 0, 0, 0, 0, 0, 0, 0, 0] 0 (by kernel_rfl) (fun _ => Below.refl _ _) (fun _ _ _ => bthen) (locB_st hF _) trivial ?_ ?_
   · refine steps_cons ?s0 ( steps_cons ?s1 ( steps_cons ?s2 ( steps_cons ?s3 ( steps_cons ?s4 ( steps_cons ?s5 ( steps_cons ?s6 ( steps_cons ?s7 ( steps_cons ?s8 ( steps_cons ?s9 ( steps_cons ?s10 ( steps_cons ?s11 ( steps_cons ?s12 ( steps_cons ?s13 ( steps_cons ?s14 ( steps_cons ?s15 ( steps_cons ?s16 ( steps_cons ?s17 ( steps_cons ?s18 ( steps_cons ?s19 ( steps_cons ?s20 ( steps_cons ?s21 ( steps_cons ?s22 ( steps_cons ?s23 ( steps_cons ?s24 ( steps_cons ?s25 ( steps_cons ?s26 ( steps_cons ?s27 steps_nil)))))))))))))))))))))))))))
     case s0 =>
       intro w' m' hE hR
       intro Q hQ
       go_wp2
       exact hQ _ _ _ rfl rfl (Below.refl _ _) trivial
     case s1 =>
       intro w' m' hE hR
       rintro _ rfl Q hQ
       obtain ⟨x1, x2, x3⟩ := unhide BX w' (below_undrew hE)
       go_wp2
       exact hQ _ _ _ rfl rfl (Below.refl _ _) trivial
     case s2 =>
       intro w' m' hE hR
       rintro _ rfl Q hQ
       have K := storeB_impl A1 c1 t.base w' (h.b1.new (below_undrew hE)) (by omega)
       rw [hsa] at K
       go_wp2_with fail
       refine K.mono ?_
       rintro e w1 ⟨rfl, b1⟩
       go_wp2
       exact hQ _ _ _ rfl rfl b1 trivial
     case s3 | s4 | s5 | s11 | s12 | s15 | s20 | s21 | s25 =>
       intro w' m' hE hR
       rintro _ rfl Q hQ
       go_wp2
       exact hQ _ _ _ rfl rfl (Below.refl _ _) trivial
     case s6 =>
       intro w' m' hE hR
       rintro _ rfl _ rfl Q hQ
       obtain ⟨x1, x2, x3⟩ := unhide BX w' (below_undrew hE)
       go_wp2
       exact hQ _ _ _ rfl rfl (Below.refl _ _) trivial
     case s7 | s9 | s10 | s13 | s14 | s16 | s17 | s19 | s22 | s23 | s24 | s26 | s27 =>
       intro w' m' hE hR
       rintro _ rfl _ rfl Q hQ
       go_wp2
       exact hQ _ _ _ rfl rfl (Below.refl _ _) trivial
     case s8 =>
       intro w' m' hE hR
       rintro _ rfl _ rfl Q hQ
       go_wp2_with fail
       refine (in_any _ 1 14 w').mono ?_
       rintro e w1 ⟨rfl, rfl⟩
       rw [hin]
       go_wp2
       exact hQ _ _ _ rfl rfl (Below.refl _ _) trivial
     case s18 =>
       intro w' m' hE hR
       rintro _ rfl _ rfl _ rfl Q hQ
       go_wp2
       exact hQ _ _ _ rfl rfl (Below.refl _ _) trivial
   intro w9 hE _
   rintro v0 - v1 - v2 - v3 - v4 - v5 - v6 - v7 - v8 - v9 - v10 - v11 - v12 - v13 - v14 - v15 - v16 - v17 - v18 - v19 - v20 hv20 v21 - v22 - v23 - v24 - v25 - v26 - v27 -
   obtain rfl : v20 = _ := hv20
   change wpList _ _ _ [_, _, _, _, _, _, _, _, _, _] _ _
   simp only [Act.put, List.setIfInBounds_toArray, List.set_cons_succ, List.set_cons_zero]
   have b9 := below_undrew hE
   go_wp2
   go_ret
   exact ⟨retb (unhide HN).symm, bthen hb0 b9⟩
 by_cases hln : t.before.length = t.blocks.length
 rotate_left
 · have HN := hide (treeB_no0 (t := t) (by simp [tree0, hln]))
   have hne : ((t.before.length : Int) != (t.blocks.length : Int)) = true := by simp; omega
   clear hln
   go_enter Tryz.func86, Tryz.ntmps86
   go_wp2
   rw [← hW]
   have hF : StBL [bV (.pointer (some ⟨w.heap.size, 0, none⟩)), bV (.slice A1 t.base.length c1), bV (.bool true), bV (.bool false), bV (.bool false), bV (.pointer (some ⟨w.heap.size, 1, none⟩)), bV (.slice A2 t.blocks.length c2), bV (.int .i64 (t.blocks.length : Int)), bV (.bool true), bV (.bool false), bV (.bool false), bV (.bool false), bV (.pointer (some ⟨w.heap.size, 2, none⟩)), bV (.slice A3 t.before.length c3), bV (.int .i64 (t.before.length : Int)), bV (.pointer (some ⟨w.heap.size, 1, none⟩)), bV (.slice A2 t.blocks.length c2), bV (.int .i64 (t.blocks.length : Int)), bV (.bool true), bV (.bool true), bV (.bool true), bV (undef), bV (undef), bV (undef), bV (undef), bV (undef), bV (undef), bV (undef)] :=
     ⟨sb_V _, sb_V _, sb_V _, sb_V _, sb_V _, sb_V _, sb_V _, sb_V _, sb_V _, sb_V _, sb_V _, sb_V _, sb_V _, sb_V _, sb_V _, sb_V _, sb_V _, sb_V _, sb_V _, sb_V _, sb_V _, sb_V _, sb_V _, sb_V _, sb_V _, sb_V _, sb_V _, sb_V _, trivial⟩
   go_upto_region 1 with fail
   refine wp_region_loc (by kernel_rfl) [(0, some 8), (1, some 9), (2, some 10), (3, some 11), (4, some 12), (5, some 13), (6, some 14), (7, some 15), (8, some 16), (9, some 17), (10, some 18), (11, some 19), (12, some 20), (13, some 21), (14, some 22), (15, some 23), (16, some 24), (17, some 25), (18, some 26), (19, some 27), (20, some 28), (21, some 29), (22, some 30), (23, some 31), (24, some 32), (25, some 33), (26, some 34), (27, some 35)] [[], [(0, some 8)], [(1, some 9)], [(2, some 10)], [(3, some 11)], [(4, some 12)], [(4, some 12), (5, some 13)], [(4, some 12), (6, some 14)], [(4, some 12), (7, some 15)], [(4, some 12), (8, some 16)], [(4, some 12), (9, some 17)], [(10, some 18)], [(11, some 19)], [(11, some 19), (12, some 20)], [(11, some 19), (13, some 21)], [(11, some 19)], [(11, some 19), (15, some 23)], [(11, some 19), (16, some 24)], [(11, some 19), (14, some 22), (17, some 25)], [(11, some 19), (18, some 26)], [(19, some 27)], [(20, some 28)], [(20, some 28), (21, some 29)], [(20, some 28), (22, some 30)], [(20, some 28), (23, some 31)], [(20, some 28)], [(20, some 28), (25, some 33)], [(20, some 28), (26, some 34)]] (by kernel_rfl)
     (locB _) (fun a b => Below a.heap.size a b) noR [0, 0, 0, 0, 0, 0, 0, 0, 0, 0, 0, 0, 0, 0, 0, 0, 0, 0, 0, 0, 0, 0, 0, 0, 0, 0, 0, 0] 0 (by kernel_rfl) (fun _ => Below.refl _ _) (fun _ _ _ => bthen) (locB_st hF _) trivial ?_ ?_
   · refine steps_cons ?s0 ( steps_cons ?s1 ( steps_cons ?s2 ( steps_cons ?s3 ( steps_cons ?s4 ( steps_cons ?s5 ( steps_cons ?s6 ( steps_cons ?s7 ( steps_cons ?s8 ( steps_cons ?s9 ( steps_cons ?s10 ( steps_cons ?s11 ( steps_cons ?s12 ( steps_cons ?s13 ( steps_cons ?s14 ( steps_cons ?s15 ( steps_cons ?s16 ( steps_cons ?s17 ( steps_cons ?s18 ( steps_cons ?s19 ( steps_cons ?s20 ( steps_cons ?s21 ( steps_cons ?s22 ( steps_cons ?s23 ( steps_cons ?s24 ( steps_cons ?s25 ( steps_cons ?s26 ( steps_cons ?s27 steps_nil)))))))))))))))))))))))))))
     case s0 =>
       intro w' m' hE hR
       intro Q hQ
       go_wp2
       exact hQ _ _ _ rfl rfl (Below.refl _ _) trivial
     case s1 =>
       intro w' m' hE hR
       rintro _ rfl Q hQ
       obtain ⟨x1, x2, x3⟩ := unhide BX w' (below_undrew hE)
       go_wp2
       exact hQ _ _ _ rfl rfl (Below.refl _ _) trivial
     case s2 =>
       intro w' m' hE hR
       rintro _ rfl Q hQ
       have K := storeB_impl A1 c1 t.base w' (h.b1.new (below_undrew hE)) (by omega)
       rw [hsa] at K
       go_wp2_with fail
       refine K.mono ?_
       rintro e w1 ⟨rfl, b1⟩
       go_wp2
       exact hQ _ _ _ rfl rfl b1 trivial
     case s3 | s4 | s5 | s11 | s12 | s15 | s20 | s21 | s25 =>
       intro w' m' hE hR
       rintro _ rfl Q hQ
       go_wp2
       exact hQ _ _ _ rfl rfl (Below.refl _ _) trivial
     case s6 | s13 | s16 =>
       intro w' m' hE hR
       rintro _ rfl _ rfl Q hQ
       obtain ⟨x1, x2, x3⟩ := unhide BX w' (below_undrew hE)
       go_wp2
       exact hQ _ _ _ rfl rfl (Below.refl _ _) trivial
     case s7 | s9 | s10 | s14 | s17 | s19 | s22 | s23 | s24 | s26 | s27 =>
       intro w' m' hE hR
       rintro _ rfl _ rfl Q hQ
       go_wp2
       exact hQ _ _ _ rfl rfl (Below.refl _ _) trivial
     case s8 =>
       intro w' m' hE hR
       rintro _ rfl _ rfl Q hQ
       go_wp2_with fail
       refine (in_any _ 1 14 w').mono ?_
       rintro e w1 ⟨rfl, rfl⟩
       rw [hin]
       go_wp2
       exact hQ _ _ _ rfl rfl (Below.refl _ _) trivial
     case s18 =>
       intro w' m' hE hR
       rintro _ rfl _ rfl _ rfl Q hQ
       go_wp2
       exact hQ _ _ _ rfl rfl (Below.refl _ _) trivial
   intro w9 hE _
   rintro v0 - v1 - v2 - v3 - v4 - v5 - v6 - v7 - v8 - v9 - v10 - v11 - v12 - v13 - v14 - v15 - v16 - v17 - v18 - v19 - v20 hv20 v21 - v22 - v23 - v24 - v25 - v26 - v27 -
   obtain rfl : v20 = _ := hv20
   change wpList _ _ _ [_, _, _, _, _, _, _, _, _, _] _ _
   simp only [Act.put, List.setIfInBounds_toArray, List.set_cons_succ, List.set_cons_zero]
   have b9 := below_undrew hE
   go_wp2
   go_ret
   exact ⟨retb (unhide HN).symm, bthen hb0 b9⟩
 exact absurd (show tree0 t = true by simp [tree0, hsa, hin, hln]) (by rw [ht0]; simp)
set_option maxRecDepth 100000 in
set_option maxHeartbeats 8000000 in
theorem treeValid_impl1 (t : Tr) (A1 : Option Addr) (c1 : Nat) (A2 : Option Addr) (c2 : Nat) (A3 : Option Addr) (c3 : Nat) (w : World) (h : TrR w t A1 A2 A3) (hb1 : t.base.length ≤ 1099511627776) (hb2 : t.blocks.length ≤ 1099511627776) (hbs : ∀ x ∈ t.blocks, x.list.length ≤ 1099511627776) (hb3 : t.before.length ≤ 1099511627776) (ht0 : tree0 t = true) :
   Calls Tryz.prog 86 #[.agg (trA t A1 c1 A2 c2 A3 c3)] w fun e w' => e = .returned (.bool (treeB t)) ∧ Below w.heap.size w w' := by
 have HBS := hide hbs
 clear hbs
 obtain ⟨W, hW⟩ : ∃ W : World, W = w.alloc (.cells (trA t A1 c1 A2 c2 A3 c3) 69) := ⟨_, rfl⟩
 have hb0 : Below w.heap.size w W := by rw [hW]; exact (Below.refl _ _).alloc (Nat.le_refl _) _
 have K0 : Blk W w.heap.size 69 (trA t A1 c1 A2 c2 A3 c3) := by rw [hW]; exact Blk.new _ _ _
 replace h := h.new hb0
 simp only [trA] at K0 hW ⊢
 have BX := hide (fun w' (hb : Below W.heap.size W w') => (⟨(K0.new_ hb).cell 0, (K0.new_ hb).cell 1, (K0.new_ hb).cell 2⟩ : w'.cell? ⟨w.heap.size, 0, none⟩ = some (.slice A1 t.base.length c1) ∧ w'.cell? ⟨w.heap.size, 1, none⟩ = some (.slice A2 t.blocks.length c2) ∧ w'.cell? ⟨w.heap.size, 2, none⟩ = some (.slice A3 t.before.length c3)))
 have HT0 := hide ht0
 have hsa : storeB t.base = true := (tree0_lens ht0).1
 have hin : inB (t.blocks.length : Int) 1 14 = true := inB_true.2 (by have := tree0_lens ht0; omega)
 have hln : t.before.length = t.blocks.length := (tree0_lens ht0).2.2.2
 clear ht0
 have hne : ((t.before.length : Int) != (t.blocks.length : Int)) = false := by simp [hln]
 have HLN := hide hln
 have hil := inB_true.1 hin
 have hl0 : 0 < t.blocks.length := by omega
 have hl00 : 0 < t.before.length := by omega
 have hl14 : t.blocks.length ≤ 14 := by omega
 have hp0 : (0 : Int) < (t.blocks.length : Int) := by omega
 have hp00 : (0 : Int) < (t.before.length : Int) := by omega
 clear hln hil
 have HB2 := hide h.b2
 have HB3 := hide h.b3
 have h1' := h.b1
 have HBG := hide (bAt_get t hl0)
 have HPG := hide (pAt_get t hl00)
 have HX0 := hide (unhide HBS t.blocks[0] (List.getElem_mem hl0))
 obtain ⟨b, off, L0, e0, rfl, hbP, hbb, d0, d1, d2, d3, d4, d5, hlc, q1⟩ := h.b2.bk hl0
 obtain ⟨b', off', rfl, hbb', p0⟩ := h.b3.int hl00
 simp only [Nat.zero_mul, Nat.add_zero] at d0 d1 d2 d3 d4 d5 p0
 generalize hx0 : t.blocks[0] = x0 at *
 generalize hy0 : t.before[0] = y0 at *
 have XD := hide (fun w' (hb : Below W.heap.size W w') => (⟨(hb.cell (p := ⟨b, off, none⟩) hbb).trans d0, (hb.cell (p := ⟨b, off + 1, none⟩) hbb).trans d1, (hb.cell (p := ⟨b, off + 2, none⟩) hbb).trans d2, (hb.cell (p := ⟨b, off + 3, none⟩) hbb).trans d3, (hb.cell (p := ⟨b, off + 4, none⟩) hbb).trans d4, (hb.cell (p := ⟨b, off + 5, none⟩) hbb).trans d5⟩ : _ ∧ _ ∧ _ ∧ _ ∧ _ ∧ _))
 have PD := hide (fun w' (hb : Below W.heap.size W w') => (hb.cell (p := ⟨b', off', none⟩) hbb').trans p0)
 have HQ1 := hide q1.rd
 have HFL := hide (show (fstB t.base).list = [] by unfold fstB; split <;> rfl)
 clear d0 d1 d2 d3 d4 d5 p0 hx0 hy0 q1
 go_enter Tryz.func86, Tryz.ntmps86
 go_wp2
 rw [← hW]
 have hF : StBL [bV (.pointer (some ⟨w.heap.size, 0, none⟩)), bV (.slice A1 t.base.length c1), bV (.bool true), bV (.bool false), bV (.bool false), bV (.pointer (some ⟨w.heap.size, 1, none⟩)), bV (.slice (some ⟨b, off, none⟩) t.blocks.length c2), bV (.int .i64 (t.blocks.length : Int)), bV (.bool true), bV (.bool false), bV (.bool false), bV (.bool false), bV (.pointer (some ⟨w.heap.size, 2, none⟩)), bV (.slice (some ⟨b', off', none⟩) t.before.length c3), bV (.int .i64 (t.before.length : Int)), bV (.pointer (some ⟨w.heap.size, 1, none⟩)), bV (.slice (some ⟨b, off, none⟩) t.blocks.length c2), bV (.int .i64 (t.blocks.length : Int)), bV (.bool false), bV (.bool false), bV (.bool false), bV (.pointer (some ⟨w.heap.size, 1, none⟩)), bV (.slice (some ⟨b, off, none⟩) t.blocks.length c2), bV (.pointer (some ⟨b, off, none⟩)), bV (.agg #[.int .i64 x0.before, .int .i64 x0.height, .int .i64 x0.view, .slice L0 x0.list.length e0, .int .i64 x0.root, .int .i64 x0.eff]), bV (.pointer (some ⟨w.heap.size, 0, none⟩)), bV (.slice A1 t.base.length c1), bV (.agg #[.int .i64 (fstB t.base).before, .int .i64 (fstB t.base).height, .int .i64 (fstB t.base).view, .slice none (fstB t.base).list.length 0, .int .i64 (fstB t.base).root, .int .i64 (fstB t.base).eff])] :=
   ⟨sb_V _, sb_V _, sb_V _, sb_V _, sb_V _, sb_V _, sb_V _, sb_V _, sb_V _, sb_V _, sb_V _, sb_V _, sb_V _, sb_V _, sb_V _, sb_V _, sb_V _, sb_V _, sb_V _, sb_V _, sb_V _, sb_V _, sb_V _, sb_V _, sb_V _, sb_V _, sb_V _, sb_V _, trivial⟩
 go_upto_region 1 with fail
 refine wp_region_loc (by kernel_rfl) [(0, some 8), (1, some 9), (2, some 10), (3, some 11), (4, some 12), (5, some 13), (6, some 14), (7, some 15), (8, some 16), (9, some 17), (10, some 18), (11, some 19), (12, some 20), (13, some 21), (14, some 22), (15, some 23), (16, some 24), (17, some 25), (18, some 26), (19, some 27), (20, some 28), (21, some 29), (22, some 30), (23, some 31), (24, some 32), (25, some 33), (26, some 34), (27, some 35)] [[], [(0, some 8)], [(1, some 9)], [(2, some 10)], [(3, some 11)], [(4, some 12)], [(4, some 12), (5, some 13)], [(4, some 12), (6, some 14)], [(4, some 12), (7, some 15)], [(4, some 12), (8, some 16)], [(4, some 12), (9, some 17)], [(10, some 18)], [(11, some 19)], [(11, some 19), (12, some 20)], [(11, some 19), (13, some 21)], [(11, some 19)], [(11, some 19), (15, some 23)], [(11, some 19), (16, some 24)], [(11, some 19), (14, some 22), (17, some 25)], [(11, some 19), (18, some 26)], [(19, some 27)], [(20, some 28)], [(20, some 28), (21, some 29)], [(20, some 28), (22, some 30)], [(20, some 28), (23, some 31)], [(20, some 28)], [(20, some 28), (25, some 33)], [(20, some 28), (26, some 34)]] (by kernel_rfl)
   (locB _) (fun a b => Below a.heap.size a b) noR [0, 0, 0, 0, 0, 0, 0, 0, 0, 0, 0, 0, 0, 0, 0, 0, 0, 0, 0, 0, 0, 0, 0, 0, 0, 0, 0, 0] 0 (by kernel_rfl) (fun _ => Below.refl _ _) (fun _ _ _ => bthen) (locB_st hF _) trivial ?_ ?_
 · refine steps_cons ?s0 ( steps_cons ?s1 ( steps_cons ?s2 ( steps_cons ?s3 ( steps_cons ?s4 ( steps_cons ?s5 ( steps_cons ?s6 ( steps_cons ?s7 ( steps_cons ?s8 ( steps_cons ?s9 ( steps_cons ?s10 ( steps_cons ?s11 ( steps_cons ?s12 ( steps_cons ?s13 ( steps_cons ?s14 ( steps_cons ?s15 ( steps_cons ?s16 ( steps_cons ?s17 ( steps_cons ?s18 ( steps_cons ?s19 ( steps_cons ?s20 ( steps_cons ?s21 ( steps_cons ?s22 ( steps_cons ?s23 ( steps_cons ?s24 ( steps_cons ?s25 ( steps_cons ?s26 ( steps_cons ?s27 steps_nil)))))))))))))))))))))))))))
   case s0 =>
     intro w' m' hE hR
     intro Q hQ
     go_wp2
     exact hQ _ _ _ rfl rfl (Below.refl _ _) trivial
   case s1 =>
     intro w' m' hE hR
     rintro _ rfl Q hQ
     obtain ⟨x1, x2, x3⟩ := unhide BX w' (below_undrew hE)
     go_wp2
     exact hQ _ _ _ rfl rfl (Below.refl _ _) trivial
   case s2 =>
     intro w' m' hE hR
     rintro _ rfl Q hQ
     have K := storeB_impl A1 c1 t.base w' (h.b1.new (below_undrew hE)) (by omega)
     rw [hsa] at K
     go_wp2_with fail
     refine K.mono ?_
     rintro e w1 ⟨rfl, b1⟩
     go_wp2
     exact hQ _ _ _ rfl rfl b1 trivial
   case s3 | s4 | s5 | s11 | s12 | s15 | s20 | s21 | s25 =>
     intro w' m' hE hR
     rintro _ rfl Q hQ
     go_wp2
     exact hQ _ _ _ rfl rfl (Below.refl _ _) trivial
   case s6 | s13 | s16 | s22 | s26 =>
     intro w' m' hE hR
     rintro _ rfl _ rfl Q hQ
     obtain ⟨x1, x2, x3⟩ := unhide BX w' (below_undrew hE)
     go_wp2
     exact hQ _ _ _ rfl rfl (Below.refl _ _) trivial
   case s7 | s9 | s10 | s14 | s17 | s19 | s23 =>
     intro w' m' hE hR
     rintro _ rfl _ rfl Q hQ
     go_wp2
     exact hQ _ _ _ rfl rfl (Below.refl _ _) trivial
   case s8 =>
     intro w' m' hE hR
     rintro _ rfl _ rfl Q hQ
     go_wp2_with fail
     refine (in_any _ 1 14 w').mono ?_
     rintro e w1 ⟨rfl, rfl⟩
     rw [hin]
     go_wp2
     exact hQ _ _ _ rfl rfl (Below.refl _ _) trivial
   case s18 =>
     intro w' m' hE hR
     rintro _ rfl _ rfl _ rfl Q hQ
     go_wp2
     exact hQ _ _ _ rfl rfl (Below.refl _ _) trivial
   case s24 =>
     intro w' m' hE hR
     rintro _ rfl _ rfl Q hQ
     obtain ⟨x1, x2, x3, x4, x5, x6⟩ := unhide XD w' (below_undrew hE)
     go_wp2
     exact hQ _ _ _ rfl rfl (Below.refl _ _) trivial
   case s27 =>
     intro w' m' hE hR
     rintro _ rfl _ rfl Q hQ
     go_wp2_with fail
     refine (firstBlock_impl A1 c1 t.base w' (h.b1.new (below_undrew hE)) (by omega)).mono ?_
     rintro e w1 ⟨rfl, b1⟩
     go_wp2
     exact hQ _ _ _ rfl rfl b1 trivial
 intro w9 hE _
 rintro v0 - v1 - v2 - v3 - v4 - v5 - v6 - v7 - v8 - v9 - v10 - v11 - v12 - v13 - v14 - v15 - v16 - v17 - v18 - v19 - v20 hv20 v21 - v22 - v23 - v24 hv24 v25 - v26 - v27 hv27
 obtain rfl : v20 = _ := hv20
 obtain rfl : v24 = _ := hv24
 obtain rfl : v27 = _ := hv27
 change wpList _ _ _ [_, _, _, _, _, _, _, _, _, _] _ _
 simp only [Act.put, List.setIfInBounds_toArray, List.set_cons_succ, List.set_cons_zero]
 have b9 := below_undrew hE
 have hB := bthen hb0 b9
 clear hE hF
 have hflb : (fstB t.base).list.length ≤ 4611686018427387904 := by rw [unhide HFL]; simp
 have K := hide (sameB_impl x0 (fstB t.base) L0 e0 none 0 w9 ((unhide HQ1).new b9) (by rw [unhide HFL]; exact Rd.nil _ _) (by have := unhide HX0; omega) hflb)
 clear hflb
 by_cases hs0 : x0 = fstB t.base
 rotate_left
 · have HN := hide (treeB_no1 (t := t) (by rw [tree1, unhide HBG, decide_eq_false hs0]; rfl))
   rw [decide_eq_false hs0] at K
   clear hs0
   go_wp2_with fail
   refine (unhide K).mono ?_
   rintro e w2 ⟨rfl, b2⟩
   go_wp2
   go_ret
   exact ⟨retb (unhide HN).symm, bthen hB b2⟩
 rw [decide_eq_true hs0] at K
 have HS0 := hide hs0
 clear hs0
 by_cases hy : y0 = -1
 rotate_left
 · have HN := hide (treeB_no1 (t := t) (by rw [tree1, unhide HPG, show (y0 == -1) = false by simpa using hy]; simp))
   have hy2 : (y0 != -1) = true := by simpa using hy
   clear hy
   go_wp2_with fail
   refine (unhide K).mono ?_
   rintro e w2 ⟨rfl, b2⟩
   obtain ⟨z0, z1, z2⟩ := unhide BX w2 (bthen b9 b2)
   have zp := unhide PD w2 (bthen b9 b2)
   go_wp2
   go_ret
   exact ⟨retb (unhide HN).symm, bthen hB b2⟩
 have HT1 := hide (show tree1 t = true by rw [tree1, unhide HBG, unhide HPG, decide_eq_true (unhide HS0), hy]; rfl)
 subst hy
 go_wp2_with fail
 refine (unhide K).mono ?_
 rintro e w2 ⟨rfl, b2⟩
 have b92 := bthen b9 b2
 have hB2 := bthen hB b2
 obtain ⟨z0, z1, z2⟩ := unhide BX w2 b92
 have zp := unhide PD w2 b92
 have r2 := (unhide HB2).new bk_good b92
 have r3 := (unhide HB3).new b92
 have BX2 := hide (fun w' (hb : Below w2.heap.size w2 w') => unhide BX w' (bthen b92 hb))
 clear K b2 b9 hB XD PD BX HQ1 HFL HB2 HB3 HX0 h1' K0 hbP hlc
 go_wp2
 go_loopw [3, 4, 5, 6, 7, 49] (fun sm _ _ _ _ i wr => ∃ (k : Nat) (A' : Option Addr) (c' : Nat), k ≤ t.blocks.length ∧ i = .int .i64 k ∧ sm = .slice A' k c' ∧ Hid (upTo (sumOk t) k = true ∧ upTo (nodeOk0 t) k = true) ∧ wr.ownsRow w2.heap.size 3 1 (.slice A' k c') k (((t.blocks.take k).map bsum).map (.int .i64)) ∧ Below w2.heap.size w2 wr) (fun _ _ _ _ _ i _ => t.blocks.length - (intOf i).toNat)
 case atStart => exact ⟨0, none, 0, Nat.zero_le _, rfl, rfl, hide ⟨rfl, rfl⟩, own_nil _ _ _ _, Below.refl _ _⟩
 case round =>
   obtain ⟨k, A', c', hk, rfl, rfl, HU, hown, hbel⟩ := hrel
   by_cases hlt : k < t.blocks.length
   · have i1 : (k : Int) < (t.blocks.length : Int) := by omega
     have hlp : k < t.before.length := by have := unhide HLN; omega
     have i1' : (k : Int) < (t.before.length : Int) := by omega
     obtain ⟨bq, offq, L1, e1, hbe, hbP, hbb1, d0, d1, d2, d3, d4, d5, hlc, q1⟩ := (r2.new bk_good hbel).bk hlt
     injection hbe with hbe
     injection hbe with qq1 qq2
     subst qq1
     subst qq2
     have hx1 := unhide HBS t.blocks[k] (List.getElem_mem hlt)
     have HBK := hide (bAt_get t hlt)
     have HTK := hide (show (t.blocks.take (k + 1)).map bsum = (t.blocks.take k).map bsum ++ [bsum t.blocks[k]] by rw [List.take_succ_eq_append_getElem hlt, List.map_append]; rfl)
     have HSO := hide (show sumOk t k = (blkB (bAt t k) && !decide (bsum (bAt t k) ∈ (t.blocks.take k).map bsum)) from rfl)
     have HN2 := hide (treeB_no2 (t := t) hlt)
     generalize t.blocks[k] = x at *
     have kx := Blk.new wr 32 #[.int .i64 x.before, .int .i64 x.height, .int .i64 x.view, .slice L1 x.list.length e1, .int .i64 x.root, .int .i64 x.eff]
     have hba : Below wr.heap.size wr (wr.alloc (.cells #[.int .i64 x.before, .int .i64 x.height, .int .i64 x.view, .slice L1 x.list.length e1, .int .i64 x.root, .int .i64 x.eff] 32)) := (Below.refl _ _).alloc (Nat.le_refl _) _
     go_wp2_with fail
     refine (blockSum_impl x L1 e1 _ (q1.rd.new hba) (by omega)).mono ?_
     rintro e w3 ⟨rfl, b3⟩
     replace kx := kx.new_ b3
     replace hba := bthen hba b3
     have o3 := own_new hown hba
     have hbel3 := bthen hbel hba
     clear b3 q1 hlc d0 d1 d2 d3 d4 d5 hbP
     cases hbk : blkB x
     · have HN := hide (unhide HN2 (by rw [unhide HSO, unhide HBK, hbk]; rfl))
       rw [bsum_no hbk]
       go_wp2
       go_ret
       exact ⟨retb (unhide HN).symm, bthen hB2 hbel3⟩
     have hnn := bsum_nn hbk
     have hnd := bsum_bd x
     have HBB := hide hbk
     have hnl : ¬ bsum x < 0 := by omega
     by_cases hmem : bsum x ∈ (t.blocks.take k).map bsum
     · have HN := hide (unhide HN2 (by rw [unhide HSO, unhide HBK, hbk, decide_eq_true hmem]; rfl))
       generalize bsum x = z at *
       have K2 := containsI_any A' c' ((t.blocks.take k).map bsum) z w3 (own_rd o3) (by simp; omega)
       rw [decide_eq_true hmem, show ((t.blocks.take k).map bsum).length = k by simp; omega] at K2
       clear hmem hbk
       go_wp2_with fail
       refine K2.mono ?_
       rintro e w' ⟨rfl, rfl⟩
       go_wp2
       go_ret
       exact ⟨retb (unhide HN).symm, bthen hB2 hbel3⟩
     have HSK := hide (show upTo (sumOk t) (k + 1) = true by rw [upTo, (unhide HU).1, unhide HSO, unhide HBK, hbk, decide_eq_false hmem]; rfl)
     have HZ := hide (show bsum (bAt t k) = bsum x by rw [unhide HBK])
     have K2 := containsI_any A' c' ((t.blocks.take k).map bsum) (bsum x) w3 (own_rd o3) (by simp; omega)
     rw [decide_eq_false hmem, show ((t.blocks.take k).map bsum).length = k by simp; omega] at K2
     have HBM := hide (show ∀ q (hq : q < k) (hq2 : q < t.blocks.length), (((t.blocks.take k).map bsum).map (Value.int .i64) ++ [Value.int .i64 (bsum x)])[q]? = some (.int .i64 (bsum t.blocks[q])) from fun q hq hq2 => by
       rw [List.getElem?_append_left (by simp; omega)]
       simp [List.getElem?_take, hq, hq2])
     generalize bsum x = z at *
     clear hmem hbk
     go_wp2_with fail
     refine K2.mono ?_
     rintro e w' ⟨rfl, rfl⟩
     have hbs3 := hbel3.size
     have hkr : ∀ g, A' = some ⟨g, 0, none⟩ → g ≠ wr.heap.size := fun g hg e => by have := own_rng hown g hg; omega
     by_cases h0 : k = 0
     · have HNK := hide (show upTo (nodeOk0 t) (k + 1) = true by rw [upTo, (unhide HU).2, nodeOk0, h0]; rfl)
       have hk0 : ((k : Int) == 0) = true := by simp [h0]
       clear h0
       go_wp2_with (at_builtin; refine wpList_app rfl (.tmp 63) (.tmp 65) 26 rfl el_int rfl (own_alloc o3 _) rfl (rd_lit w3 [.int .i64 z] _) rfl (one_ints [z]) (by simp only [maxLen]; omega) (by omega) (by simp; omega) ?_; intro A4 c4 w4 o4 ch4 _ _; have hbel4 : Below w2.heap.size w2 w4 := app_below hbel3 o3 ch4 (Nat.le_refl _); have kx4 := (kx.alloc (.cells #[.int .i64 z] 3)).chg ch4 (fun e => hkr _ e rfl); obtain ⟨z0, z1, z2⟩ := unhide BX2 w4 hbel4)
       go_roundw
       case rel => exact ⟨k + 1, A4, c4, by omega, by go_num, rfl, hide ⟨unhide HSK, unhide HNK⟩, by rw [unhide HTK, List.map_append]; exact o4, hbel4⟩
       case measure => simp [intOf]; omega
     have hk0 : ((k : Int) == 0) = false := by simpa using h0
     have HPK := hide (pAt_get t hlp)
     have hk1 : 0 < k := by omega
     have HN3 := hide (treeB_no3 (t := t) hlt h0)
     have HNE := hide (show upTo (nodeOk0 t) (k + 1) = nodeOk t k by rw [upTo, (unhide HU).2, nodeOk0, show (k == 0) = false by simpa using h0]; simp)
     have HNF := hide (show nodeOk t k = (inB (pAt t k) 0 ((k : Int) - 1) && ((bAt t k).before == bsum (bAt t (pAt t k).toNat) && ((bAt t k).height == (bAt t (pAt t k).toNat).height + 1 && decide ((bAt t (pAt t k).toNat).view < (bAt t k).view)))) from rfl)
     have HP3 := hide (fun (w' : World) (hb : Below w2.heap.size w2 w') => (r3.new hb).int hlp)
     clear h0
     generalize t.before[k] = p at *
     go_wp2_with (at_builtin; refine wpList_app rfl (.tmp 63) (.tmp 65) 26 rfl el_int rfl (own_alloc o3 _) rfl (rd_lit w3 [.int .i64 z] _) rfl (one_ints [z]) (by simp only [maxLen]; omega) (by omega) (by simp; omega) ?_; intro A4 c4 w4 o4 ch4 _ _; have hbel4 : Below w2.heap.size w2 w4 := app_below hbel3 o3 ch4 (Nat.le_refl _); have kx4 := (kx.alloc (.cells #[.int .i64 z] 3)).chg ch4 (fun e => hkr _ e rfl); obtain ⟨z0, z1, z2⟩ := unhide BX2 w4 hbel4; obtain ⟨bz, oz, hze, hzb, zp⟩ := unhide HP3 w4 hbel4; injection hze with hze; injection hze with e1 e2; subst e1; subst e2)
     have v0 : w4.cell? ⟨wr.heap.size, 0, none⟩ = some (.int .i64 x.before) := kx4.cell 0
     have v1 : w4.cell? ⟨wr.heap.size, 1, none⟩ = some (.int .i64 x.height) := kx4.cell 1
     have v2 : w4.cell? ⟨wr.heap.size, 2, none⟩ = some (.int .i64 x.view) := kx4.cell 2
     cases hip : inB p 0 ((k : Int) - 1)
     · have HN := hide (unhide HN3 (by rw [unhide HNF, unhide HPK, hip]; rfl))
       go_quiet ((go_at_call 98; first | exact quiet_left (in_any _ _ _ _) | exact quiet_add_left (in_any _ _ _ _)))
       go_wp2
       go_ret
       exact ⟨retb (unhide HN).symm, below_drewN (bthen hB2 hbel4) _⟩
     have hpb := inB_true.1 hip
     obtain ⟨q, rfl⟩ := Int.eq_ofNat_of_zero_le hpb.1
     have hqk : q < k := by omega
     have hqn : q < t.blocks.length := by omega
     have HVQ := hide (show blkB t.blocks[q] = true by
       have h1 := upTo_get (unhide HU).1 q hqk
       rw [sumOk, Bool.and_eq_true, bAt_get t hqn] at h1
       exact h1.1)
     have HF2 := hide (show nodeOk t k = ((x.before == bsum t.blocks[q]) && ((x.height == t.blocks[q].height + 1) && decide (t.blocks[q].view < x.view))) by
       rw [unhide HNF, unhide HPK, unhide HBK, hip, show ((q : Int)).toNat = q by simp, bAt_get t hqn, Bool.true_and])
     have hro := own_rd o4
     obtain ⟨g4, f4, rfl, hg4, hc4⟩ := hro (by simp)
     have sq := hc4 q _ (unhide HBM q hqk hqn)
     obtain ⟨bz, oz, Lz, ez, hze, -, hzb, y0, y1, y2, y3, y4, y5, -, -⟩ := (r2.new bk_good hbel4).bk hqn
     injection hze with hze
     injection hze with e1 e2
     subst e1
     subst e2
     have hvq := unhide HVQ
     have hhq : 0 ≤ t.blocks[q].height ∧ t.blocks[q].height ≤ 100 := by
       unfold blkB at hvq
       simp only [Bool.and_eq_true] at hvq
       exact inB_true.1 hvq.2.2.2.1
     clear hc4 hvq HBM HNF HPK
     generalize t.blocks[q] = xq at *
     have iq1 : (q : Int) < (t.blocks.length : Int) := by omega
     have iq2 : (q : Int) < ((k + 1 : Nat) : Int) := by omega
     have iq3 : (q : Int) < (k : Int) + 1 := by omega
     by_cases e0 : x.before = bsum xq
     rotate_left
     · have n0 : (x.before != bsum xq) = true := by simpa using e0
       have HN := hide (unhide HN3 (by rw [unhide HF2, show (x.before == bsum xq) = false by simpa using e0]; rfl))
       clear e0
       go_quiet ((go_at_call 98; first | exact quiet_left (in_any _ _ _ _) | exact quiet_add_left (in_any _ _ _ _)))
       go_wp2
       go_ret
       exact ⟨retb (unhide HN).symm, below_drewN (bthen hB2 hbel4) _⟩
     have n0 : (x.before != bsum xq) = false := by simpa using e0
     have E0 := hide e0
     clear e0
     by_cases e1 : x.height = xq.height + 1
     rotate_left
     · have n1 : (x.height != xq.height + 1) = true := by simpa using e1
       have HN := hide (unhide HN3 (by rw [unhide HF2, show (x.height == xq.height + 1) = false by simpa using e1]; simp))
       clear e1
       go_quiet ((go_at_call 98; first | exact quiet_left (in_any _ _ _ _) | exact quiet_add_left (in_any _ _ _ _)))
       go_wp2
       go_ret
       exact ⟨retb (unhide HN).symm, below_drewN (bthen hB2 hbel4) _⟩
     have n1 : (x.height != xq.height + 1) = false := by simpa using e1
     have E1 := hide e1
     clear e1
     by_cases e2 : xq.view < x.view
     rotate_left
     · have n2 : decide (x.view ≤ xq.view) = true := by simpa using e2
       have n3 : x.view ≤ xq.view := by omega
       have HN := hide (unhide HN3 (by rw [unhide HF2, decide_eq_false e2]; simp))
       clear e2
       go_quiet ((go_at_call 98; first | exact quiet_left (in_any _ _ _ _) | exact quiet_add_left (in_any _ _ _ _)))
       go_wp2
       go_ret
       exact ⟨retb (unhide HN).symm, below_drewN (bthen hB2 hbel4) _⟩
     have n2 : decide (x.view ≤ xq.view) = false := by simpa using e2
     have n3 : ¬ x.view ≤ xq.view := by omega
     have HNK := hide (show upTo (nodeOk0 t) (k + 1) = true by
       rw [unhide HNE, unhide HF2, show (x.before == bsum xq) = true by simpa using unhide E0, show (x.height == xq.height + 1) = true by simpa using unhide E1, decide_eq_true e2]
       rfl)
     clear e2
     go_quiet ((go_at_call 98; first | exact quiet_left (in_any _ _ _ _) | exact quiet_add_left (in_any _ _ _ _)))
     go_wp2
     go_roundw
     case rel => exact ⟨k + 1, _, c4, by omega, by go_num, rfl, hide ⟨unhide HSK, unhide HNK⟩, by rw [unhide HTK, List.map_append]; exact own_drewN o4 _, below_drewN hbel4 _⟩
     case measure => simp [intOf]; omega
   · obtain rfl : k = t.blocks.length := by omega
     have HN := hide (show treeB t = true by rw [treeB, unhide HT0, unhide HT1, (unhide HU).1, (unhide HU).2]; rfl)
     go_wp2
     go_ret
     exact ⟨retb (unhide HN).symm, bthen hB2 hbel⟩
theorem treeValid_impl (t : Tr) (A1 : Option Addr) (c1 : Nat) (A2 : Option Addr) (c2 : Nat) (A3 : Option Addr) (c3 : Nat) (w : World) (h : TrR w t A1 A2 A3) (hb1 : t.base.length ≤ 1099511627776) (hb2 : t.blocks.length ≤ 1099511627776) (hbs : ∀ x ∈ t.blocks, x.list.length ≤ 1099511627776) (hb3 : t.before.length ≤ 1099511627776) :
   Calls Tryz.prog 86 #[.agg (trA t A1 c1 A2 c2 A3 c3)] w fun e w' => e = .returned (.bool (treeB t)) ∧ Below w.heap.size w w' := by
 cases ht : tree0 t
 · exact treeValid_impl0 t A1 c1 A2 c2 A3 c3 w h hb1 hb2 hbs hb3 ht
 · exact treeValid_impl1 t A1 c1 A2 c2 A3 c3 w h hb1 hb2 hbs hb3 ht
end Go.Proofs.YtihlhejencninaaGreat
