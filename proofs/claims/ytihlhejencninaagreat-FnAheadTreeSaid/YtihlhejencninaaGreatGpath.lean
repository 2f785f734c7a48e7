/- Ways to a block, of both sides (printed by gen_in.py from xpath.in). Ways to a block, of the reference. The values and the store after a block (printed by gen_in.py from xstorei.in). The store after a block, of the reference (printed by gen_in.py from xstores.in). The answer to a question for a key after a block, of both sides (printed by gen_in.py from xask.in). Slices of answers, and the answers for all keys, of both sides (printed by gen_in.py from xaskall.in). Copies of trees, of the reference (printed by gen_in.py from xcopy.in). Slices of bools in memory; the laws' helpers over them. -/
import Derived.Test.YtihlhejencninaaGreatCopyE
import Derived.Test.YtihlhejencninaaGreatBTree
import Derived.Test.YtihlhejencninaaGreatGloc
import Derived.Test.YtihlhejencninaaGreatBTreeS
import Derived.Test.YtihlhejencninaaGreatGrun
import Derived.Test.YtihlhejencninaaGreatRunSer
import Derived.Test.YtihlhejencninaaGreatGval
import Derived.Test.YtihlhejencninaaGreatGtree
import Derived.Test.YtihlhejencninaaGreatValAnswer
import Derived.Test.YtihlhejencninaaGreatGeff
import Derived.Test.YtihlhejencninaaGreatCopyF
import Derived.Test.YtihlhejencninaaGreatGmem
import Derived.Test.YtihlhejencninaaGreatGint
namespace Go.Proofs.YtihlhejencninaaGreat
open Go.RowKit
set_option linter.unusedVariables false
set_option linter.unusedSimpArgs false

def wayT (t : Tr) : Nat → Int → List Int
 | 0, _ => []
 | f + 1, n => if inB n 0 ((t.blocks.length : Int) - 1) = true then wayT t f (pAt t n.toNat) ++ [n] else []
/-- the numbers of the blocks on the way to a block -/
def pathT (t : Tr) (n : Int) : List Int := wayT t 15 n
theorem pAt_lt {t : Tr} (h : treeB t = true) {k : Nat} (hk : k < t.blocks.length) : -1 ≤ pAt t k ∧ pAt t k < k := by
 obtain ⟨_, _, _, _, _, h0, _, h1⟩ := treeB_yes h
 rcases Nat.eq_zero_or_pos k with hz | hz
 · subst hz; omega
 · have := h1 k hz hk
   rw [nodeOk, Bool.and_eq_true] at this
   have := inB_true.1 this.1
   omega
theorem wayT_out (t : Tr) (f : Nat) {n : Int} (h : ¬ (0 ≤ n ∧ n < t.blocks.length)) : wayT t f n = [] := by
 cases f with
 | zero => rfl
 | succ f =>
   rw [wayT, if_neg]
   intro hi
   have := inB_true.1 hi
   omega
theorem wayT_fuel {t : Tr} (h : treeB t = true) : ∀ (f g : Nat) (n : Int), n < f → n < g → wayT t f n = wayT t g n
 | 0, g, n, h1, _ => by rw [wayT_out t 0 (by omega), wayT_out t g (by omega)]
 | f, 0, n, _, h2 => by rw [wayT_out t 0 (by omega), wayT_out t f (by omega)]
 | f + 1, g + 1, n, h1, h2 => by
   by_cases hr : 0 ≤ n ∧ n < t.blocks.length
   · have hi : inB n 0 ((t.blocks.length : Int) - 1) = true := inB_true.2 (by omega)
     have hp := pAt_lt h (k := n.toNat) (by omega)
     rw [wayT, wayT, if_pos hi, if_pos hi, wayT_fuel h f g _ (by omega) (by omega)]
   · rw [wayT_out t _ hr, wayT_out t _ hr]
theorem pathT_out (t : Tr) {n : Int} (h : ¬ (0 ≤ n ∧ n < t.blocks.length)) : pathT t n = [] := wayT_out t 15 h
theorem pathT_step {t : Tr} (h : treeB t = true) {n : Int} (h0 : 0 ≤ n) (h1 : n < t.blocks.length) : pathT t n = pathT t (pAt t n.toNat) ++ [n] := by
 obtain ⟨_, _, hl, _⟩ := treeB_yes h
 have hi : inB n 0 ((t.blocks.length : Int) - 1) = true := inB_true.2 (by omega)
 have hp := pAt_lt h (k := n.toNat) (by omega)
 unfold pathT
 rw [wayT, if_pos hi, wayT_fuel h 14 15 _ (by omega) (by omega)]
theorem wayT_len (t : Tr) : ∀ (f : Nat) (n : Int), (wayT t f n).length ≤ f
 | 0, _ => Nat.le_refl _
 | f + 1, n => by
   rw [wayT]
   split
   · have := wayT_len t f (pAt t n.toNat)
     simp
     omega
   · simp
theorem pathT_len (t : Tr) (n : Int) : (pathT t n).length ≤ 15 := wayT_len t 15 n
theorem wayT_mem {t : Tr} : ∀ (f : Nat) (n x : Int), x ∈ wayT t f n → 0 ≤ x ∧ x < t.blocks.length
 | 0, _, _, h => by cases h
 | f + 1, n, x, h => by
   rw [wayT] at h
   split at h
   · rename_i hi
     have := inB_true.1 hi
     rcases List.mem_append.1 h with h | h
     · exact wayT_mem f _ _ h
     · rw [List.mem_singleton] at h; subst h; omega
   · cases h
theorem pathT_mem {t : Tr} {n x : Int} (h : x ∈ pathT t n) : 0 ≤ x ∧ x < t.blocks.length := wayT_mem 15 n x h
theorem rev_ext {xs ys : List Int} (hl : ys.length = xs.length) (h : ∀ k (h1 : k < ys.length), ys[k] = xs[xs.length - 1 - k]'(by omega)) : ys = xs.reverse := by
 refine List.ext_getElem (by simpa using hl) fun k h1 h2 => ?_
 rw [h k h1, List.getElem_reverse]
/-- is half of a list the other way round? -/
def HalfRev (xs ys : List Int) (i : Nat) : Prop := ys.length = xs.length ∧ ∀ k, k < xs.length → ys.getD k 0 = if k < i ∨ xs.length - 1 - k < i then xs.getD (xs.length - 1 - k) 0 else xs.getD k 0
theorem halfRev_zero (xs : List Int) : HalfRev xs xs 0 := ⟨rfl, fun k hk => by simp⟩
theorem halfRev_step {xs ys : List Int} {i j : Nat} (h : HalfRev xs ys i) (hj : i + j + 1 = xs.length) (hij : i < j) : HalfRev xs ((ys.set i (ys.getD j 0)).set j (ys.getD i 0)) (i + 1) := by
 refine ⟨by simpa using h.1, fun k hk => ?_⟩
 have h1 := h.2 k hk
 have hi := h.2 i (by omega)
 have hj2 := h.2 j (by omega)
 have hl := h.1
 rw [if_neg (by omega)] at hi hj2
 by_cases hkj : k = j
 · subst hkj
   rw [if_pos (by omega)]
   simp only [List.getD_eq_getElem?_getD, List.getElem?_set] at *
   rw [show xs.length - 1 - k = i by omega]
   simp [show k < ys.length by omega]
   exact hi
 · by_cases hki : k = i
   · subst hki
     rw [if_pos (by omega)]
     simp only [List.getD_eq_getElem?_getD, List.getElem?_set] at *
     rw [show xs.length - 1 - k = j by omega]
     simp [show ¬ j = k by omega, show k < ys.length by omega]
     exact hj2
   · have : ((ys.set i (ys.getD j 0)).set j (ys.getD i 0)).getD k 0 = ys.getD k 0 := by
       simp only [List.getD_eq_getElem?_getD, List.getElem?_set, if_neg (Ne.symm hkj), if_neg (Ne.symm hki)]
     rw [this, h1]
     by_cases hc : k < i ∨ xs.length - 1 - k < i
     · rw [if_pos hc, if_pos (by omega)]
     · rw [if_neg hc, if_neg (by omega)]
theorem halfRev_done {xs ys : List Int} {i : Nat} (h : HalfRev xs ys i) (hi : xs.length ≤ 2 * i + 1) : ys = xs.reverse := by
 refine rev_ext h.1 fun k hk => ?_
 have h1 := h.2 k (by have := h.1; omega)
 have hl := h.1
 have e1 : ys.getD k 0 = ys[k] := by simp [List.getD_eq_getElem?_getD, hk]
 have e2 : xs.getD (xs.length - 1 - k) 0 = xs[xs.length - 1 - k]'(by omega) := by
   rw [List.getD_eq_getElem?_getD, List.getElem?_eq_getElem (by omega), Option.getD_some]
 rw [← e1, h1, ← e2]
 by_cases hc : k < i ∨ xs.length - 1 - k < i
 · rw [if_pos hc]
 · rw [if_neg hc]
   congr 1
   omega
set_option maxRecDepth 100000 in
set_option maxHeartbeats 4000000 in
theorem reverse_any (A : Option Addr) (c : Nat) (xs : List Int) (base : Nat) (w : World) (h : w.ownsRow base 3 1 (.slice A xs.length c) xs.length (xs.map (.int .i64))) (hb : xs.length ≤ 1000) :
   Calls Tryz.prog 180 #[.slice A xs.length c] w fun e w' => e = .returned (.tuple #[]) ∧ w'.ownsRow base 3 1 (.slice A xs.length c) xs.length (xs.reverse.map (.int .i64)) ∧ Chg (fun q => A = some ⟨q, 0, none⟩) w w' := by
 go_enter Tryz.func180, Tryz.ntmps180
 go_wp2
 go_loopw [2, 3] (fun i j wr => ∃ (k : Nat) (ys : List Int), k ≤ xs.length ∧ i = .int .i64 k ∧ j = .int .i64 ((xs.length : Int) - 1 - k) ∧ Hid (HalfRev xs ys k) ∧ wr.ownsRow base 3 1 (.slice A xs.length c) xs.length (ys.map (.int .i64)) ∧ Chg (fun q => A = some ⟨q, 0, none⟩) w wr) (fun i _ _ => xs.length - (intOf i).toNat)
 case atStart => exact ⟨0, xs, Nat.zero_le _, rfl, by go_num, hide (halfRev_zero xs), h, Chg.refl _ _⟩
 case round =>
   obtain ⟨k, ys, hk, rfl, rfl, HH, hown, hch⟩ := hrel
   by_cases hlt : 2 * k + 1 < xs.length
   · obtain ⟨j, hj⟩ : ∃ j : Nat, k + j + 1 = xs.length := ⟨xs.length - 1 - k, by omega⟩
     have hkj : k < j := by omega
     have hjn : (xs.length : Int) - 1 - (k : Int) = (j : Int) := by omega
     rw [hjn]
     have hyl : ys.length = xs.length := (unhide HH).1
     have HX := hide (halfRev_step (unhide HH) hj hkj)
     have HC := hide (fun (w' : World) (g : Nat) (ho : w'.ownsRow base 3 1 (.slice (some ⟨g, 0, none⟩) xs.length c) xs.length (ys.map (.int .i64))) => (⟨by rw [own_cell ho k (by simp; omega)]; simp [List.getD_eq_getElem?_getD, show k < ys.length by omega], by rw [own_cell ho j (by simp; omega)]; simp [List.getD_eq_getElem?_getD, show j < ys.length by omega]⟩ : w'.cell? ⟨g, k, none⟩ = some (.int .i64 (ys.getD k 0)) ∧ w'.cell? ⟨g, j, none⟩ = some (.int .i64 (ys.getD j 0))))
     have HJ := hide hj
     have i1 : (k : Int) < (xs.length : Int) := by omega
     have i2 : (j : Int) < (xs.length : Int) := by omega
     have i3 : (k : Int) < (j : Int) := by omega
     have i4 : j < xs.length := by omega
     have i5 : k < xs.length := by omega
     obtain ⟨g, rfl⟩ : ∃ g, A = some ⟨g, 0, none⟩ := by
       obtain ⟨g, off, e, _⟩ := own_rd hown (by simp; omega)
       rcases hown.2 with ⟨hv, hn⟩ | ⟨g', cap, cur, hv, _⟩
       · rw [e] at hv; cases hv
       · injection hv with hv
         exact ⟨g', hv⟩
     have HYL := hide hyl
     generalize ys.getD k 0 = yk at *
     generalize ys.getD j 0 = yj at *
     clear hj hyl hjn hlt
     go_wp2
     have hF : StVL [bV (.slice (some ⟨g, 0, none⟩) xs.length c), bV (.int .i64 (k : Int)), bV (.slice (some ⟨g, 0, none⟩) xs.length c), bV (.int .i64 (j : Int)), bV (.slice (some ⟨g, 0, none⟩) xs.length c), bV (.int .i64 (j : Int)), bV (.pointer (some ⟨g, j, none⟩)), bV (.int .i64 yj), bV (.slice (some ⟨g, 0, none⟩) xs.length c), bV (.int .i64 (k : Int)), bV (.pointer (some ⟨g, k, none⟩)), bV (.int .i64 yk), bV (.pointer (some ⟨g, k, none⟩)), fun _ _ => True] := ⟨fun _ _ _ h => h, fun _ _ _ h => h, fun _ _ _ h => h, fun _ _ _ h => h, fun _ _ _ h => h, fun _ _ _ h => h, fun _ _ _ h => h, fun _ _ _ h => h, fun _ _ _ h => h, fun _ _ _ h => h, fun _ _ _ h => h, fun _ _ _ h => h, fun _ _ _ h => h, fun _ _ _ h => h, trivial⟩
     go_upto_region 3 with fail
     refine wp_region_one (by kernel_rfl) [(0, some 14), (1, some 15), (2, some 16), (3, some 17), (4, some 18), (5, some 19), (6, some 20), (7, some 21), (8, some 22), (9, some 23), (10, some 24), (11, some 25), (12, some 26), (13, none)] [[], [], [], [], [], [], [(4, some 18), (5, some 19)], [(6, some 20)], [], [], [(8, some 22), (9, some 23)], [(10, some 24)], [(0, some 14), (1, some 15)], [(7, some 21), (12, some 26)]] (by kernel_rfl) 13 [7, 11] (by kernel_rfl)
       (locB [bV (.slice (some ⟨g, 0, none⟩) xs.length c), bV (.int .i64 (k : Int)), bV (.slice (some ⟨g, 0, none⟩) xs.length c), bV (.int .i64 (j : Int)), bV (.slice (some ⟨g, 0, none⟩) xs.length c), bV (.int .i64 (j : Int)), bV (.pointer (some ⟨g, j, none⟩)), bV (.int .i64 yj), bV (.slice (some ⟨g, 0, none⟩) xs.length c), bV (.int .i64 (k : Int)), bV (.pointer (some ⟨g, k, none⟩)), bV (.int .i64 yk), bV (.pointer (some ⟨g, k, none⟩)), fun _ _ => True]) (fun a b => Chg (fun q => q = g) a b) (fun b w => w.ownsRow base 3 1 (.slice (some ⟨g, 0, none⟩) xs.length c) xs.length ((if b = true then ys.set k yj else ys).map (.int .i64))) (fun _ => Chg.refl _ _) (fun _ _ _ h1 h2 => h1.trans h2) (locV_st hF _) hown ?_ ?_
     · refine steps_cons ?s0 ( steps_cons ?s1 ( steps_cons ?s2 ( steps_cons ?s3 ( steps_cons ?s4 ( steps_cons ?s5 ( steps_cons ?s6 ( steps_cons ?s7 ( steps_cons ?s8 ( steps_cons ?s9 ( steps_cons ?s10 ( steps_cons ?s11 ( steps_cons ?s12 ( steps_cons ?s13 steps_nil)))))))))))))
       case s0 | s1 | s2 | s3 | s4 | s5 | s8 | s9 =>
         intro w' b hE hbx hR
         clear hbx
         intro Q hQ
         go_wp2
         exact hQ _ _ _ rfl rfl (Chg.refl _ _) hR
       case s6 | s10 | s12 =>
         intro w' b hE hbx hR
         clear hbx
         rintro _ rfl _ rfl Q hQ
         go_wp2
         exact hQ _ _ _ rfl rfl (Chg.refl _ _) hR
       case s7 | s11 =>
         intro w' b hE hb hR
         obtain rfl := hb (by simp)
         rintro _ rfl Q hQ
         obtain ⟨z1, z2⟩ := unhide HC w' g hR
         go_wp2
         exact hQ _ _ _ rfl rfl (Chg.refl _ _) hR
       case s13 =>
         intro w' b hE hb hR
         obtain rfl := hb (by simp)
         rintro _ rfl _ rfl Q hQ
         obtain ⟨z1, z2⟩ := unhide HC w' g hR
         have z3 := own_frozen hR k
         go_wp2
         refine hQ undef _ _ rfl trivial (Chg.setCell (S := fun q => q = g) (p := ⟨g, k, none⟩) (Chg.refl (fun q => q = g) w') (.inl rfl) _) ?_
         show World.ownsRow _ _ _ _ _ _ (List.map _ (ys.set k yj))
         rw [List.map_set]
         exact own_set hR k _
     intro w9 hE hR
     change w9.ownsRow _ _ _ _ _ (List.map _ (ys.set k yj)) at hR
     rintro v0 - v1 - v2 hv2 v3 hv3 v4 - v5 - v6 - v7 - v8 - v9 - v10 - v11 hv11 v12 - v13 -
     obtain rfl : v2 = _ := hv2
     obtain rfl : v3 = _ := hv3
     obtain rfl : v11 = _ := hv11
     have z2 := own_cell hR j (by rw [List.length_map, List.length_set, unhide HYL]; exact i4)
     have z3 := own_frozen hR j
     change wpList _ _ _ [_, _] _ _
     simp only [Act.put, List.setIfInBounds_toArray, List.set_cons_succ, List.set_cons_zero]
     go_wp2
     go_roundw
     case rel =>
       have hj := unhide HJ
       refine ⟨k + 1, _, by omega, by go_num, by go_num, HX, ?_, ?_⟩
       · rw [List.map_set]
         exact own_set hR j _
       · exact hch.trans ((Chg.setCell (S := fun q => q = g) (p := ⟨g, j, none⟩) (chg_undrew hE) (.inl rfl) _).mono (fun q _ hq => by rw [hq]))
     case measure => simp [intOf]; omega
   · have HE := hide (halfRev_done (unhide HH) (by omega))
     have i3 : ¬ (k : Int) < (xs.length : Int) - 1 - (k : Int) := by omega
     rw [unhide HE] at hown
     go_wp2
     go_end0
     exact ⟨rfl, by simpa [List.map_reverse] using hown, hch⟩
theorem pAt_cell {w : World} {t : Tr} {A3 : Option Addr} (h : Rd w A3 (t.before.map (Value.int .i64))) {k : Nat} (hk : k < t.before.length) :
   ∃ b off, A3 = some ⟨b, off, none⟩ ∧ b < w.heap.size ∧ w.cell? ⟨b, off + k, none⟩ = some (.int .i64 (pAt t k)) := by
 rw [pAt_get t hk]
 exact h.int hk
set_option maxRecDepth 100000 in
set_option maxHeartbeats 4000000 in
theorem path_impl (t : Tr) (A1 : Option Addr) (c1 : Nat) (A2 : Option Addr) (c2 : Nat) (A3 : Option Addr) (c3 : Nat) (n : Int) (w : World) (h : TrR w t A1 A2 A3) (hv : treeB t = true) (hn0 : -1 ≤ n) (hn1 : n < t.blocks.length) :
   Calls Tryz.prog 147 #[.agg (trA t A1 c1 A2 c2 A3 c3), .int .i64 n] w fun e w' => ∃ A' c', e = .returned (.slice A' (pathT t n).length c') ∧ w'.ownsRow w.heap.size 3 1 (.slice A' (pathT t n).length c') (pathT t n).length ((pathT t n).map (.int .i64)) ∧ Below w.heap.size w w' := by
 obtain ⟨-, -, hl14, hln, -⟩ := treeB_yes hv
 have HV := hide hv
 have HLN := hide hln
 clear hv hln
 obtain ⟨W, hW⟩ : ∃ W : World, W = w.alloc (.cells (trA t A1 c1 A2 c2 A3 c3) 69) := ⟨_, rfl⟩
 have hb0 : Below w.heap.size w W := by rw [hW]; exact (Below.refl _ _).alloc (Nat.le_refl _) _
 have K0 : Blk W w.heap.size 69 (trA t A1 c1 A2 c2 A3 c3) := by rw [hW]; exact Blk.new _ _ _
 have r3 := h.b3.new hb0
 have hWs : w.heap.size < W.heap.size := K0.lt
 simp only [trA] at K0 hW ⊢
 have BX := hide (fun w' (hb : Below W.heap.size W w') => show w'.cell? ⟨w.heap.size, 2, none⟩ = some (.slice A3 t.before.length c3) from (K0.new_ hb).cell 2)
 clear h K0
 go_enter Tryz.func147, Tryz.ntmps147
 go_wp2
 rw [← hW]
 go_loopw [1, 5] (fun i s wr => ∃ (m : Int) (A' : Option Addr) (c' : Nat) (ys : List Int), -1 ≤ m ∧ m < t.blocks.length ∧ i = .int .i64 m ∧ s = .slice A' ys.length c' ∧ Hid (ys ++ (pathT t m).reverse = (pathT t n).reverse) ∧ wr.ownsRow W.heap.size 3 1 (.slice A' ys.length c') ys.length (ys.map (.int .i64)) ∧ Below W.heap.size W wr) (fun i _ _ => (intOf i + 1).toNat)
 case atStart => exact ⟨n, none, 0, [], hn0, hn1, rfl, rfl, hide (by simp), own_nil _ _ _ _, Below.refl _ _⟩
 case round =>
   obtain ⟨m, A', c', ys, hm0, hm1, rfl, rfl, HH, hown, hbel⟩ := hrel
   have hbsz := hbel.size
   by_cases hlt : 0 ≤ m
   · obtain ⟨q, rfl⟩ := Int.eq_ofNat_of_zero_le hlt
     have hlp : q < t.before.length := by have := unhide HLN; omega
     have i1' : (q : Int) < (t.before.length : Int) := by omega
     have HP := hide (pAt_lt (unhide HV) (k := q) (by omega))
     have hstep := pathT_step (unhide HV) hlt hm1
     rw [show ((q : Int)).toNat = q by simp] at hstep
     have HX := hide (show ys ++ [(q : Int)] ++ (pathT t (pAt t q)).reverse = (pathT t n).reverse by
       rw [← unhide HH, hstep]
       simp)
     have HYL := hide (show ys.length ≤ 15 by
       have h1 := congrArg List.length (unhide HH)
       have := pathT_len t n
       simp only [List.length_append, List.length_reverse] at h1
       omega)
     have hyl := unhide HYL
     have HC := hide (fun (w' : World) (hb : Below W.heap.size W w') => pAt_cell (r3.new hb) hlp)
     clear hstep
     go_wp2_with (at_builtin; refine wpList_app rfl (.tmp 13) (.tmp 15) 26 rfl el_int rfl (own_alloc hown _) rfl (rd_lit wr [.int .i64 (q : Int)] _) rfl (one_ints [(q : Int)]) (by simp only [maxLen]; omega) (by omega) (by simp; omega) ?_; intro A4 c4 w4 o4 ch4 d4 _; have hbel4 : Below W.heap.size W w4 := app_below hbel hown ch4 (Nat.le_refl _); obtain ⟨bz, oz, hze, hzb, zp⟩ := unhide HC w4 hbel4; have y2 := unhide BX w4 hbel4; rw [hze] at y2; clear hze)
     go_roundw
     case rel =>
       have hp := unhide HP
       refine ⟨_, A4, c4, ys ++ [(q : Int)], hp.1, by omega, rfl, by simp, HX, by simpa using o4, hbel4⟩
     case measure =>
       have hp := unhide HP
       simp [intOf]
       omega
   · have HE := hide (show ys.reverse = pathT t n by
       have h1 := unhide HH
       rw [pathT_out t (n := m) (by omega)] at h1
       simpa using congrArg List.reverse h1)
     have hle : ys.length = (pathT t n).length := by rw [← unhide HE]; simp
     have HYL := hide (show ys.length ≤ 1000 by have := pathT_len t n; omega)
     have HLE := hide hle
     clear hle
     go_wp2_with fail
     refine (reverse_any A' c' ys W.heap.size wr hown (unhide HYL)).mono ?_
     rintro e w3 ⟨rfl, o3, ch3⟩
     rw [unhide HE] at o3
     rw [unhide HLE] at o3 ⊢
     go_wp2
     go_ret
     exact ⟨A', c', rfl, own_base o3 (by omega), bthen hb0 (app_below' hbel hown ch3 (Nat.le_refl _))⟩
theorem has_impl (t : Tr) (A1 : Option Addr) (c1 : Nat) (A2 : Option Addr) (c2 : Nat) (A3 : Option Addr) (c3 : Nat) (n : Int) (w : World) (hb2 : t.blocks.length ≤ 1099511627776) :
   Calls Tryz.prog 91 #[.agg (trA t A1 c1 A2 c2 A3 c3), .int .i64 n] w fun e w' => e = .returned (.bool (inB n 0 ((t.blocks.length : Int) - 1))) ∧ Below w.heap.size w w' := by
 have hb0 : Below w.heap.size w (w.alloc (.cells (trA t A1 c1 A2 c2 A3 c3) 69)) := (Below.refl _ _).alloc (Nat.le_refl _) _
 have y1 : (w.alloc (.cells (trA t A1 c1 A2 c2 A3 c3) 69)).cell? ⟨w.heap.size, 1, none⟩ = some (.slice A2 t.blocks.length c2) := (Blk.new w 69 (trA t A1 c1 A2 c2 A3 c3)).cell 1
 simp only [trA] at hb0 y1 ⊢
 go_enter Tryz.func91, Tryz.ntmps91
 go_wp2_with (go_at_call 98; refine (in_any _ _ _ _).mono ?_; rintro e w' ⟨rfl, rfl⟩)
 go_ret
 exact ⟨rfl, hb0⟩
end Go.Proofs.YtihlhejencninaaGreat
namespace Go.Proofs.YtihlhejencninaaGreat
open Go.RowKit
set_option linter.unusedVariables false
set_option linter.unusedSimpArgs false

/-- the way, nothing for an invalid tree -/
def pathS (t : Tr) (n : Int) : List Int := if treeB t = true then pathT t n else []
theorem pathS_len (t : Tr) (n : Int) : (pathS t n).length ≤ 15 := by
 unfold pathS
 split
 · exact pathT_len t n
 · simp
theorem pathS_mem {t : Tr} {n x : Int} (h : x ∈ pathS t n) : treeB t = true ∧ 0 ≤ x ∧ x < t.blocks.length := by
 unfold pathS at h
 split at h
 · rename_i hv; exact ⟨hv, pathT_mem h⟩
 · cases h
set_option maxRecDepth 100000 in
set_option maxHeartbeats 4000000 in
theorem path_spec (t : Tr) (A1 : Option Addr) (c1 : Nat) (A2 : Option Addr) (c2 : Nat) (A3 : Option Addr) (c3 : Nat) (n : Int) (w : World) (h : TrR w t A1 A2 A3) (hb1 : t.base.length ≤ 1099511627776) (hb2 : t.blocks.length ≤ 1099511627776) (hbs : ∀ x ∈ t.blocks, x.list.length ≤ 1099511627776) (hb3 : t.before.length ≤ 1099511627776) :
   Calls Tryz.prog 145 #[.agg (trA t A1 c1 A2 c2 A3 c3), .int .i64 n] w fun e w' => ∃ A' c', e = .returned (.slice A' (pathS t n).length c') ∧ w'.ownsRow w.heap.size 3 1 (.slice A' (pathS t n).length c') (pathS t n).length ((pathS t n).map (.int .i64)) ∧ Below w.heap.size w w' := by
 have HBS := hide hbs
 clear hbs
 obtain ⟨W, hW⟩ : ∃ W : World, W = w.alloc (.cells (trA t A1 c1 A2 c2 A3 c3) 69) := ⟨_, rfl⟩
 have hb0 : Below w.heap.size w W := by rw [hW]; exact (Below.refl _ _).alloc (Nat.le_refl _) _
 have K0 : Blk W w.heap.size 69 (trA t A1 c1 A2 c2 A3 c3) := by rw [hW]; exact Blk.new _ _ _
 have HR := hide (h.new hb0)
 have hWs : w.heap.size < W.heap.size := K0.lt
 simp only [trA] at K0 hW ⊢
 have BX := hide (fun w' (hb : Below W.heap.size W w') => show w'.cell? ⟨w.heap.size, 0, none⟩ = some (.slice A1 t.base.length c1) ∧ w'.cell? ⟨w.heap.size, 1, none⟩ = some (.slice A2 t.blocks.length c2) ∧ w'.cell? ⟨w.heap.size, 2, none⟩ = some (.slice A3 t.before.length c3) from ⟨(K0.new_ hb).cell 0, (K0.new_ hb).cell 1, (K0.new_ hb).cell 2⟩)
 have HWE := hide (show W.heap.size = w.heap.size + 1 by rw [hW]; simp)
 have o0 := own_made (base := W.heap.size) (e := 3) (size := 1) W #[] 0 (Nat.le_refl _) (by simp [maxLen]) rfl
 have b0 : Below W.heap.size W (W.alloc (.cells #[] 3)) := (Below.refl _ _).alloc (Nat.le_refl _) _
 clear h K0
 go_enter Tryz.func145, Tryz.ntmps145
 go_wp2
 rw [← hW]
 go_loopw [1, 5] (fun i s wr => ∃ (m : Int) (A' : Option Addr) (c' : Nat) (ys : List Int), i = .int .i64 m ∧ s = .slice A' ys.length c' ∧ Hid (treeB t = true → pathT t m ++ ys = pathT t n) ∧ Hid (treeB t = false → ys = []) ∧ wr.ownsRow W.heap.size 3 1 (.slice A' ys.length c') ys.length (ys.map (.int .i64)) ∧ Below W.heap.size W wr) (fun i _ _ => (intOf i + 1).toNat)
 case atStart => exact ⟨n, _, _, [], rfl, rfl, hide (fun _ => by simp), hide (fun _ => rfl), by simpa [unhide HWE] using o0, b0⟩
 case round =>
   clear o0 b0
   obtain ⟨m, A', c', ys, rfl, rfl, HH, HZ, hown, hbel⟩ := hrel
   obtain ⟨z0, z1, z2⟩ := unhide BX wr hbel
   have K := treeValid_spec t A1 c1 A2 c2 A3 c3 wr ((unhide HR).new hbel) hb1 hb2 (unhide HBS) hb3
   simp only [trA] at K
   cases hv : treeB t
   · have HP := hide (show pathS t n = ys by rw [unhide HZ hv]; unfold pathS; rw [if_neg (by simp [hv])])
     rw [hv] at K
     clear hv
     go_wp2_with fail
     refine K.mono ?_
     rintro e w3 ⟨rfl, b3⟩
     have hbel3 := bthen hbel b3
     have o3 := own_new hown b3
     go_wp2
     go_ret
     rw [unhide HP]
     exact ⟨A', c', rfl, own_base o3 (by omega), bthen hb0 hbel3⟩
   have HV := hide hv
   rw [hv] at K
   clear hv
   cases hin : inB m 0 ((t.blocks.length : Int) - 1)
   · have HP := hide (show pathS t n = ys by
       have h1 := unhide HH (unhide HV)
       rw [pathT_out t (n := m) (fun hc => by rw [inB_true.2 (by omega)] at hin; cases hin), List.nil_append] at h1
       unfold pathS
       rw [if_pos (unhide HV), h1])
     go_wp2_with fail
     refine K.mono ?_
     rintro e w3 ⟨rfl, b3⟩
     have hbel3 := bthen hbel b3
     have o3 := own_new hown b3
     obtain ⟨z0, z1, z2⟩ := unhide BX w3 hbel3
     go_wp2_with (go_at_call 93; refine (l1In_any _ _ _ _).mono ?_; rintro e w' ⟨rfl, rfl⟩; rw [hin])
     go_ret
     rw [unhide HP]
     exact ⟨A', c', rfl, own_base o3 (by omega), bthen hb0 hbel3⟩
   have hib := inB_true.1 hin
   obtain ⟨q, rfl⟩ := Int.eq_ofNat_of_zero_le hib.1
   have hlt : q < t.blocks.length := by omega
   have hlp : q < t.before.length := by have := (treeB_yes (unhide HV)).2.2.2.1; omega
   have i1' : (q : Int) < (t.before.length : Int) := by omega
   have HP := hide (pAt_lt (unhide HV) (k := q) hlt)
   have hstep := pathT_step (unhide HV) hib.1 (show (q : Int) < t.blocks.length by omega)
   rw [show ((q : Int)).toNat = q by simp] at hstep
   have HX := hide (fun (_ : True) => show pathT t (pAt t q) ++ ((q : Int) :: ys) = pathT t n by
     rw [← unhide HH (unhide HV), hstep]
     simp)
   have HYL := hide (show ys.length ≤ 15 by
     have h1 := congrArg List.length (unhide HH (unhide HV))
     have := pathT_len t n
     simp only [List.length_append] at h1
     omega)
   have hyl := unhide HYL
   clear hstep hib
   go_wp2_with fail
   refine K.mono ?_
   rintro e w3 ⟨rfl, b3⟩
   have hbel3 := bthen hbel b3
   have o3 := own_new hown b3
   obtain ⟨z0, z1, z2⟩ := unhide BX w3 hbel3
   have hs3 := hbel3.size
   have ol := own_made (base := W.heap.size) (e := 3) (size := 1) w3 #[.int .i64 (q : Int)] 1 hs3 (by simp [maxLen]) rfl
   have bl : Below W.heap.size W (w3.alloc (.cells #[.int .i64 (q : Int)] 3)) := hbel3.alloc hs3 _
   have HC := hide (fun (w' : World) (hb : Below W.heap.size W w') => pAt_cell ((unhide HR).new hb).b3 hlp)
   go_wp2_with (first | (go_at_call 93; refine (l1In_any _ _ _ _).mono ?_; rintro e w' ⟨rfl, rfl⟩; rw [hin]) | (at_builtin; refine wpList_app rfl (.tmp 18) (.tmp 19) 26 rfl el_int rfl ol rfl (own_rd (own_alloc o3 _)) (by simp) (one_ints ys) (by simp only [maxLen]; omega) (by omega) (by simp; omega) ?_; intro A4 c4 w4 o4 ch4 d4 _; have hbel4 : Below W.heap.size W w4 := app_below' bl ol ch4 (Nat.le_refl _); obtain ⟨bz, oz, hze, hzb, zp⟩ := unhide HC w4 hbel4; obtain ⟨y0, y1, y2⟩ := unhide BX w4 hbel4; rw [hze] at y2; clear hze))
   go_roundw
   case rel =>
     have hp := unhide HP
     exact ⟨_, A4, c4, (q : Int) :: ys, rfl, by simp [Nat.add_comm], HX, hide (fun h => by cases h), by simpa [Nat.add_comm] using o4, hbel4⟩
   case measure =>
     have hp := unhide HP
     simp [intOf]
     omega
end Go.Proofs.YtihlhejencninaaGreat
namespace Go.Proofs.YtihlhejencninaaGreat
open Go.RowKit
set_option linter.unusedVariables false
set_option linter.unusedSimpArgs false

/-- the values after some blocks -/
def afterV (t : Tr) (ns : List Int) : List Int := ns.foldl (fun v k => runAllV v (bAt t k.toNat).list) (valsL t.base)
theorem afterV_snoc (t : Tr) (ns : List Int) (k : Int) : afterV t (ns ++ [k]) = runAllV (afterV t ns) (bAt t k.toNat).list := by simp [afterV]
theorem blk_acts {t : Tr} (h : treeB t = true) {k : Nat} (hk : k < t.blocks.length) : actsB (bAt t k).list = true := by
 have h1 := (treeB_yes h).2.2.2.2.2.2.1 k hk
 rw [sumOk, Bool.and_eq_true] at h1
 have h2 := h1.1
 unfold blkB at h2
 simp only [Bool.and_eq_true] at h2
 exact h2.2.2.2.2.2
theorem valOk_after {t : Tr} (h : treeB t = true) (ns : List Int) (hn : ∀ k ∈ ns, 0 ≤ k ∧ k < t.blocks.length) : valOk (afterV t ns) := by
 have h0 : valOk (valsL t.base) := valOk_vals (storeB_def _ ▸ (treeB_yes h).1) (by omega)
 unfold afterV
 generalize valsL t.base = v at h0
 induction ns generalizing v with
 | nil => exact h0
 | cons k ns ih =>
   have hk := hn k (by simp)
   exact ih (fun x hx => hn x (by simp [hx])) _ (valOk_runAll h0 (acts_all (blk_acts h (by omega))))
/-- the store after a block -/
def storeT (t : Tr) (n : Int) : List Ent := if treeB t = true ∧ inB n 0 ((t.blocks.length : Int) - 1) = true then storeL (afterV t (pathT t n)) else []
theorem storeT_yes {t : Tr} {n : Int} (h : treeB t = true) (hn : inB n 0 ((t.blocks.length : Int) - 1) = true) : storeT t n = storeL (afterV t (pathT t n)) := by rw [storeT, if_pos ⟨h, hn⟩]
theorem storeT_no {t : Tr} {n : Int} (h : treeB t = false) : storeT t n = [] := by rw [storeT, if_neg (by simp [h])]
theorem storeT_no2 {t : Tr} {n : Int} (h : inB n 0 ((t.blocks.length : Int) - 1) = false) : storeT t n = [] := by rw [storeT, if_neg (by simp [h])]
theorem storeT_len (t : Tr) (n : Int) : (storeT t n).length ≤ 32 := by
 unfold storeT
 split
 · exact storeL_len _
 · simp
theorem wpList_drop_all {P : Program} {ops : Array Oper} {Q : Exit → Go.Act → World → Prop} {l : List Oper} {n : Nat} {a : Go.Act} {w : World} (hl : l.drop n = []) (h : Q .normal a w) : wpList P ops Q (l.drop n) a w := by
 rw [hl]
 exact h
set_option maxRecDepth 100000 in
set_option maxHeartbeats 8000000 in
theorem after_impl (t : Tr) (A1 : Option Addr) (c1 : Nat) (A2 : Option Addr) (c2 : Nat) (A3 : Option Addr) (c3 : Nat) (n : Int) (w : World) (h : TrR w t A1 A2 A3) (hv : treeB t = true) (hn0 : -1 ≤ n) (hn1 : n < t.blocks.length) :
   Calls Tryz.prog 92 #[.agg (trA t A1 c1 A2 c2 A3 c3), .int .i64 n] w fun e w' => e = .returned (.agg (vA (afterV t (pathT t n)))) ∧ Below w.heap.size w w' := by
 have HV := hide hv
 have hb1 : t.base.length ≤ 32 := store_len (treeB_yes hv).1
 have hkb : ∀ e ∈ t.base, 0 ≤ e.k ∧ e.k ≤ 31 := fun e he => by have := evOk_all (treeB_yes hv).1 e he; omega
 have HKB := hide hkb
 clear hv hkb
 have HR := hide (fun w' (hb : Below w.heap.size w w') => h.new hb)
 obtain ⟨W, hW⟩ : ∃ W : World, W = (w.alloc (.cells (trA t A1 c1 A2 c2 A3 c3) 69)).alloc (.cells zA 112) := ⟨_, rfl⟩
 have hb0 : Below w.heap.size w W := by rw [hW]; exact ((Below.refl _ _).alloc (Nat.le_refl _) _).alloc (by simp) _
 have K0 : Blk W w.heap.size 69 (trA t A1 c1 A2 c2 A3 c3) := by rw [hW]; exact (Blk.new _ _ _).alloc _
 have K1 : Blk W (w.heap.size + 1) 112 zA := by
   rw [hW]
   have := Blk.new (w.alloc (.cells (trA t A1 c1 A2 c2 A3 c3) 69)) 112 zA
   simpa using this
 have x1 : W.cell? ⟨w.heap.size, 0, none⟩ = some (.slice A1 t.base.length c1) := K0.cell 0
 have hW1 := K1.lt
 have KV := valuesOf_any A1 c1 t.base W ((unhide HR W hb0).b1) (by omega) (unhide HKB)
 simp only [trA] at K0 hW ⊢
 clear h
 subst hW
 go_enter Tryz.func92, Tryz.ntmps92
 go_wp2_with fail
 refine KV.mono ?_
 rintro e w3 ⟨rfl, b3⟩
 have hb3 := bthen hb0 b3
 have hs3 := b3.size
 replace K0 := K0.new_ b3
 replace K1 := K1.new_ b3
 clear x1 KV b3 hb0
 have kv0 := (one_vals w3 112 (valsL t.base)).1
 have kv := (one_vals w3 112 (valsL t.base)).2.1
 have bv := (one_vals w3 112 (valsL t.base)).2.2
 have hls : (vA (valsL t.base)).size = 32 := by rw [vA_size, valsL_len]
 have hgl : w.heap.size + 1 < w3.heap.size := by omega
 replace K0 := K0.new_ bv
 replace K1 := K1.new_ bv
 have hb4 := bthen hb3 bv
 have z0 : ((w3.alloc (.cells zA 112)).setRow w3.heap.size (vA (valsL t.base))).cell? ⟨w.heap.size, 0, none⟩ = some (.slice A1 t.base.length c1) := K0.cell 0
 have z1 : ((w3.alloc (.cells zA 112)).setRow w3.heap.size (vA (valsL t.base))).cell? ⟨w.heap.size, 1, none⟩ = some (.slice A2 t.blocks.length c2) := K0.cell 1
 have z2 : ((w3.alloc (.cells zA 112)).setRow w3.heap.size (vA (valsL t.base))).cell? ⟨w.heap.size, 2, none⟩ = some (.slice A3 t.before.length c3) := K0.cell 2
 unfold zA at z0 z1 z2
 go_wp2_with (refine wpList_store_row rfl 112 (.tmp 5) (.tmp 10) rfl w3.heap.size (vA (valsL t.base)) rfl rfl 112 zA kv0 (by rw [hls]; exact info_vals) (by rw [hls]; rfl) (vA_one _) ?_)
 have KP := path_impl t A1 c1 A2 c2 A3 c3 n _ (unhide HR _ hb4) (unhide HV) hn0 hn1
 simp only [trA] at KP
 refine KP.mono ?_
 rintro e w5 ⟨A', c', rfl, o5, b5⟩
 have hb5 := bthen hb4 b5
 replace K0 := K0.new_ b5
 replace K1 := K1.new_ b5
 have kv5 := kv.new_ b5
 have HPR := hide (fun (w' : World) (hc : Chg (fun q => q = w3.heap.size) w5 w') => own_rd (own_chg o5 hc (fun q hq e => by have := own_rng o5 q hq; rw [size_setRow] at this; simp at this; omega)))
 have HPM := hide (fun x (hx : x ∈ pathT t n) => pathT_mem (t := t) (n := n) hx)
 have hpl := pathT_len t n
 obtain ⟨g, hg⟩ : ∃ g, g = w3.heap.size := ⟨_, rfl⟩
 rw [← hg] at kv5 hgl HPR
 clear kv kv0 bv z0 z1 z2 o5 KP hls
 have HGE := hide (show w.heap.size ≤ g by omega)
 have hgn0 : w.heap.size ≠ g := by omega
 have hgn1 : w.heap.size + 1 ≠ g := by omega
 generalize hps : pathT t n = ps at *
 have HPS := hide hps
 clear b5 hb4 hb3 hs3 hW1 hps
 rw [← hg]
 clear hg
 go_wp2
 go_loopw [7, 15, 19] (fun _ i _ wr => ∃ (k : Nat), k ≤ ps.length ∧ i = .int .i64 k ∧ Blk wr g 112 (vA (afterV t (ps.take k))) ∧ Chg (fun q => q = g) w5 wr) (fun _ i _ _ => ps.length - (intOf i).toNat)
 case atStart => exact ⟨0, Nat.zero_le _, rfl, kv5, Chg.refl _ _⟩
 case round =>
   obtain ⟨k, hk, rfl, kv, hch⟩ := hrel
   have k0 := K0.chg hch hgn0
   have hbw : Below w.heap.size w wr := hb5.trans (hch.below (fun q hq e => by have := unhide HGE; omega) hb5.size)
   by_cases hlt : k < ps.length
   · have i1 : (k : Int) < (ps.length : Int) := by omega
     obtain ⟨bp, offp, rfl, hpb, zp⟩ := (unhide HPR wr hch).int hlt
     have hpm := unhide HPM ps[k] (List.getElem_mem hlt)
     have HT := hide (show afterV t (ps.take (k + 1)) = runAllV (afterV t (ps.take k)) (bAt t ps[k].toNat).list by rw [List.take_succ_eq_append_getElem hlt, afterV_snoc])
     have HVO := hide (valOk_after (unhide HV) (ps.take k) (fun x hx => unhide HPM x (List.mem_of_mem_take hx)))
     generalize ps[k] = p at *
     obtain ⟨q, rfl⟩ := Int.eq_ofNat_of_zero_le hpm.1
     rw [show ((q : Int)).toNat = q by simp] at HT
     have hqn : q < t.blocks.length := by omega
     have i2 : (q : Int) < (t.blocks.length : Int) := by omega
     have hacts := blk_acts (unhide HV) hqn
     rw [bAt_get t hqn] at HT hacts
     obtain ⟨bq, offq, L1, e1, hA2, -, hbb, -, -, -, d3, -, -, -, q1⟩ := (unhide HR w (Below.refl _ _)).b2.bk hqn
     generalize t.blocks[q] = x at *
     have hl10 := (actsB_yes hacts).1
     have HAC := hide (acts_all hacts)
     have HX := hide (fun (w' : World) (hc : Chg (fun q => q = g) wr w') => show w'.cell? ⟨w.heap.size, 1, none⟩ = some (.slice A2 t.blocks.length c2) ∧ w'.cell? ⟨bq, offq + q * 6 + 3, none⟩ = some (.slice L1 x.list.length e1) ∧ Rd w' L1 (x.list.flatMap encA) from by
       have hb' : Below w.heap.size w w' := hbw.trans (hc.below (fun q hq e => by have := unhide HGE; omega) hbw.size)
       exact ⟨(k0.chg hc hgn0).cell 1, (hb'.cell (p := ⟨bq, offq + q * 6 + 3, none⟩) hbb).trans d3, q1.rd.new hb'⟩)
     have hcl := (unhide HVO).1
     have hcn : (runAllV (afterV t (ps.take k)) x.list).length = 32 := (valOk_runAll (unhide HVO) (unhide HAC)).1
     generalize hcur : afterV t (ps.take k) = cur at *
     have hsV : (vA cur).size = 32 := by rw [vA_size, hcl]
     have HA2 := hide hA2
     generalize hnw : runAllV cur x.list = nw at *
     have HNW := hide hnw
     have hsN : (vA nw).size = 32 := by rw [vA_size, hcn]
     clear hacts hA2 d3 q1 hcur hnw hpm hcn
     go_wp2
     have hF : StVL [bV (.agg (vA cur)), bV (.pointer (some ⟨w.heap.size, 1, none⟩)), bV (.slice (some ⟨bq, offq, none⟩) t.blocks.length c2), bV (.int .i64 (q : Int)), bV (.pointer (some ⟨bq, offq + q * 6, none⟩)), bV (.pointer (some ⟨bq, offq + q * 6 + 3, none⟩)), bV (.slice L1 x.list.length e1), pV (fun v => ∃ A9 c9 n9, v = .tuple #[.agg (vA nw), .slice A9 n9 c9]), pV (fun v => ∃ A9 c9 n9, v = .tuple #[.agg (vA nw), .slice A9 n9 c9]), bV (.agg (vA nw)), pV (fun _ => True), pV (fun _ => True)] := ⟨fun _ _ _ h => h, fun _ _ _ h => h, fun _ _ _ h => h, fun _ _ _ h => h, fun _ _ _ h => h, fun _ _ _ h => h, fun _ _ _ h => h, fun _ _ _ h => h, fun _ _ _ h => h, fun _ _ _ h => h, fun _ _ _ h => h, fun _ _ _ h => h, trivial⟩
     go_upto_region 5 with fail
     refine wp_region_one (by kernel_rfl) [(0, some 20), (1, some 21), (2, some 22), (3, some 23), (4, some 24), (5, some 25), (6, some 26), (7, some 27), (8, some 19), (9, some 28), (10, some 29), (11, none)] [[], [], [(1, some 21)], [], [(2, some 22), (3, some 23)], [(4, some 24)], [(5, some 25)], [(0, some 20), (6, some 26)], [(7, some 27)], [(8, some 19)], [(8, some 19)], [(9, some 28)]] (by kernel_rfl) 11 [0] (by kernel_rfl)
       (locB [bV (.agg (vA cur)), bV (.pointer (some ⟨w.heap.size, 1, none⟩)), bV (.slice (some ⟨bq, offq, none⟩) t.blocks.length c2), bV (.int .i64 (q : Int)), bV (.pointer (some ⟨bq, offq + q * 6, none⟩)), bV (.pointer (some ⟨bq, offq + q * 6 + 3, none⟩)), bV (.slice L1 x.list.length e1), pV (fun v => ∃ A9 c9 n9, v = .tuple #[.agg (vA nw), .slice A9 n9 c9]), pV (fun v => ∃ A9 c9 n9, v = .tuple #[.agg (vA nw), .slice A9 n9 c9]), bV (.agg (vA nw)), pV (fun _ => True), pV (fun _ => True)]) (fun a b => Chg (fun q => q = g) a b) (fun b w => Blk w g 112 (vA (cond b nw cur))) (fun _ => Chg.refl _ _) (fun _ _ _ h1 h2 => h1.trans h2) (locV_st hF _) kv ?_ ?_
     · refine steps_cons ?s0 ( steps_cons ?s1 ( steps_cons ?s2 ( steps_cons ?s3 ( steps_cons ?s4 ( steps_cons ?s5 ( steps_cons ?s6 ( steps_cons ?s7 ( steps_cons ?s8 ( steps_cons ?s9 ( steps_cons ?s10 ( steps_cons ?s11 steps_nil)))))))))))
       case s0 =>
         intro w' b hE hb hR
         obtain rfl := hb (by simp)
         intro Q hQ
         refine wpList_load_row rfl 112 (.tmp 5) rfl g rfl 112 (vA cur) (0, 0) _ hR Tryz.underlying112 rfl (by rw [hsV]; exact info_vals) ?_
         go_wp2
         exact hQ _ _ _ rfl rfl (Chg.refl _ _) hR
       case s1 | s3 =>
         intro w' b hE hbx hR
         clear hbx
         intro Q hQ
         go_wp2
         exact hQ _ _ _ rfl rfl (Chg.refl _ _) hR
       case s2 | s6 =>
         intro w' b hE hbx hR
         clear hbx
         rintro _ rfl Q hQ
         obtain ⟨y1, y2, y3⟩ := unhide HX w' (chg_undrew hE)
         rw [unhide HA2] at y1
         go_wp2
         exact hQ _ _ _ rfl rfl (Chg.refl _ _) hR
       case s4 =>
         intro w' b hE hbx hR
         clear hbx
         rintro _ rfl _ rfl Q hQ
         go_wp2
         exact hQ _ _ _ rfl rfl (Chg.refl _ _) hR
       case s5 =>
         intro w' b hE hbx hR
         clear hbx
         rintro _ rfl Q hQ
         go_wp2
         exact hQ _ _ _ rfl rfl (Chg.refl _ _) hR
       case s7 =>
         intro w' b hE hbx hR
         clear hbx
         rintro _ rfl _ rfl Q hQ
         obtain ⟨y1, y2, y3⟩ := unhide HX w' (chg_undrew hE)
         rw [unhide HA2] at y1
         have K := runAll_any cur L1 e1 x.list w' (unhide HVO) y3 (unhide HAC) (by omega)
         rw [unhide HNW] at K
         go_wp2_with fail
         refine K.mono ?_
         rintro e w1 ⟨A9, c9, rfl, -, -, b1⟩
         go_wp2
         exact hQ _ _ _ rfl ⟨_, _, _, rfl⟩ (Chg.of_new b1) (hR.new_ b1)
       case s8 =>
         intro w' b hE hbx hR
         clear hbx
         rintro _ ⟨A9, c9, n9, rfl⟩ Q hQ
         go_wp2
         exact hQ _ _ _ rfl ⟨_, _, _, rfl⟩ (Chg.refl _ _) hR
       case s9 =>
         intro w' b hE hbx hR
         clear hbx
         rintro _ ⟨A9, c9, n9, rfl⟩ Q hQ
         go_wp2
         exact hQ _ _ _ rfl rfl (Chg.refl _ _) hR
       case s10 =>
         intro w' b hE hbx hR
         clear hbx
         rintro _ ⟨A9, c9, n9, rfl⟩ Q hQ
         go_wp2
         exact hQ _ _ _ rfl trivial (Chg.refl _ _) hR
       case s11 =>
         intro w' b hE hb hR
         obtain rfl := hb (by simp)
         rintro _ rfl Q hQ
         refine wpList_store_row rfl 112 (.tmp 5) (.tmp 28) rfl g (vA nw) rfl rfl 112 (vA cur) hR (by rw [hsN]; exact info_vals) (by rw [hsV, hsN]) (vA_one _) ?_
         go_wp2
         exact hQ undef _ _ rfl trivial ⟨rfl, rfl, rfl, by rw [size_setRow]; exact Nat.le_refl _, fun j _ hj => setRow_other _ g j _ hj⟩ (blk_setRow hR)
     intro w9 hE hR
     rintro v0 - v1 - v2 - v3 - v4 - v5 - v6 - v7 - v8 - v9 - v10 - v11 -
     refine wpList_drop_all rfl ?_
     simp only [Act.put, List.setIfInBounds_toArray, List.set_cons_succ, List.set_cons_zero]
     go_wp2
     go_roundw
     case rel => exact ⟨k + 1, by omega, by go_num, by rw [unhide HT]; exact hR, hch.trans (chg_undrew hE)⟩
     case measure => simp [intOf]; omega
   · obtain rfl : k = ps.length := by omega
     rw [List.take_length] at kv
     have kR := K1.chg hch hgn1
     have hsV : (vA (afterV t ps)).size = 32 := by rw [vA_size, (valOk_after (unhide HV) ps (unhide HPM)).1]
     have hgz : zA.size = 32 := rfl
     have hkr := blk_setRow (ds := vA (afterV t ps)) kR
     go_wp2_with (first | (refine wpList_load_row rfl 112 (.tmp 5) rfl g rfl 112 (vA (afterV t ps)) (0, 0) _ kv Tryz.underlying112 rfl (by rw [hsV]; exact info_vals) ?_) | (refine wpList_store_row rfl 112 (.tmp 4) (.tmp 31) rfl (w.heap.size + 1) (vA (afterV t ps)) rfl rfl 112 zA kR (by rw [hsV]; exact info_vals) (by rw [hsV]; rfl) (vA_one _) ?_))
     refine bodyPost_ret (v := .agg (vA (afterV t ps))) (results_cell_row (p := 4) (ty := 112) rfl _ _ (w.heap.size + 1) 112 (vA (afterV t ps)) (0, 0) _ rfl hkr Tryz.underlying112 rfl (by rw [hsV]; exact info_vals)) rfl ⟨by rw [unhide HPS], ?_⟩
     exact ⟨hbw.os, hbw.tape, hbw.output, by rw [size_setRow]; exact hbw.size, fun q hq => (setRow_other wr (w.heap.size + 1) q _ (by omega)).trans (hbw.block q hq)⟩
set_option maxRecDepth 100000 in
set_option maxHeartbeats 4000000 in
theorem storeOf_impl (t : Tr) (A1 : Option Addr) (c1 : Nat) (A2 : Option Addr) (c2 : Nat) (A3 : Option Addr) (c3 : Nat) (n : Int) (w : World) (h : TrR w t A1 A2 A3) (hb1 : t.base.length ≤ 1099511627776) (hb2 : t.blocks.length ≤ 1099511627776) (hbs : ∀ x ∈ t.blocks, x.list.length ≤ 1099511627776) (hb3 : t.before.length ≤ 1099511627776) :
   Calls Tryz.prog 46 #[.agg (trA t A1 c1 A2 c2 A3 c3), .int .i64 n] w fun e w' => ∃ A' c', e = .returned (.slice A' (storeT t n).length c') ∧ w'.ownsRow w.heap.size 79 2 (.slice A' (storeT t n).length c') (storeT t n).length ((storeT t n).flatMap encE) ∧ Below w.heap.size w w' := by
 have HBS := hide hbs
 clear hbs
 obtain ⟨W, hW⟩ : ∃ W : World, W = w.alloc (.cells (trA t A1 c1 A2 c2 A3 c3) 69) := ⟨_, rfl⟩
 have hb0 : Below w.heap.size w W := by rw [hW]; exact (Below.refl _ _).alloc (Nat.le_refl _) _
 have K0 : Blk W w.heap.size 69 (trA t A1 c1 A2 c2 A3 c3) := by rw [hW]; exact Blk.new _ _ _
 have HR := hide (fun w' (hb : Below W.heap.size W w') => h.new (bthen hb0 hb))
 have hWs : w.heap.size < W.heap.size := K0.lt
 have BX := hide (fun w' (hb : Below W.heap.size W w') => show w'.cell? ⟨w.heap.size, 0, none⟩ = some (.slice A1 t.base.length c1) ∧ w'.cell? ⟨w.heap.size, 1, none⟩ = some (.slice A2 t.blocks.length c2) ∧ w'.cell? ⟨w.heap.size, 2, none⟩ = some (.slice A3 t.before.length c3) from ⟨(K0.new_ hb).cell 0, (K0.new_ hb).cell 1, (K0.new_ hb).cell 2⟩)
 have KV := treeValid_impl t A1 c1 A2 c2 A3 c3 W (unhide HR _ (Below.refl _ _)) hb1 hb2 (unhide HBS) hb3
 have KH := hide (fun w' => has_impl t A1 c1 A2 c2 A3 c3 n w' hb2)
 have KA := hide (fun w' (hb : Below W.heap.size W w') hv hn0 hn1 => after_impl t A1 c1 A2 c2 A3 c3 n w' (unhide HR w' hb) hv hn0 hn1)
 obtain ⟨x0, x1, x2⟩ := unhide BX W (Below.refl _ _)
 simp only [trA] at K0 hW KV KH KA ⊢
 clear h K0
 subst hW
 go_enter Tryz.func46, Tryz.ntmps46
 go_wp2_with fail
 refine KV.mono ?_
 rintro e w3 ⟨rfl, b3⟩
 clear KV x0 x1 x2
 obtain ⟨z0, z1, z2⟩ := unhide BX w3 b3
 cases hv : treeB t
 · have HP := hide (storeT_no (n := n) hv)
   go_wp2
   go_ret
   rw [unhide HP]
   exact ⟨none, 0, rfl, own_nil _ _ _ _, bthen hb0 b3⟩
 have HV := hide hv
 clear hv
 cases hin : inB n 0 ((t.blocks.length : Int) - 1)
 · have HP := hide (storeT_no2 hin)
   go_wp2_with fail
   refine (unhide KH w3).mono ?_
   rintro e w4 ⟨rfl, b4⟩
   rw [hin]
   go_wp2
   go_ret
   rw [unhide HP]
   exact ⟨none, 0, rfl, own_nil _ _ _ _, bthen hb0 (bthen b3 b4)⟩
 have HP := hide (storeT_yes (unhide HV) hin)
 have hib := inB_true.1 hin
 have HAL := hide (valOk_after (unhide HV) (pathT t n) (fun x hx => pathT_mem hx)).1
 have hb0n : -1 ≤ n := by omega
 have hb1n : n < (t.blocks.length : Int) := by omega
 clear hib
 go_wp2_with fail
 refine (unhide KH w3).mono ?_
 rintro e w4 ⟨rfl, b4⟩
 rw [hin]
 have b34 := bthen b3 b4
 obtain ⟨z0, z1, z2⟩ := unhide BX w4 b34
 go_wp2_with fail
 refine (unhide KA w4 b34 (unhide HV) hb0n hb1n).mono ?_
 rintro e w5 ⟨rfl, b5⟩
 have b45 := bthen b34 b5
 have hs5 := b45.size
 go_wp2_with fail
 refine (store_any (afterV t (pathT t n)) w5 (unhide HAL)).mono ?_
 rintro e w6 ⟨A', c', rfl, o6, b6⟩
 rw [← unhide HP] at o6 ⊢
 go_wp2
 go_ret
 exact ⟨A', c', rfl, own_base o6 (by omega), bthen hb0 (bthen b45 b6)⟩
end Go.Proofs.YtihlhejencninaaGreat
namespace Go.Proofs.YtihlhejencninaaGreat
open Go.RowKit
set_option linter.unusedVariables false
set_option linter.unusedSimpArgs false

def sTup (B : Nat) (s : List Ent) (v : Value) (w : World) : Prop := ∃ A c u, v = .tuple #[.slice A s.length c, u] ∧ w.ownsRow B 79 2 (.slice A s.length c) s.length (s.flatMap encE)
theorem sb_Tup (B : Nat) (s : List Ent) : StB (sTup B s) := fun _ _ _ hb ⟨A, c, u, h1, h2⟩ => ⟨A, c, u, h1, own_new h2 hb⟩
theorem serial_step {v : List Int} {al : List Act} (hv : valOk v) (ha : actsB al = true) : serialS (storeL v) al = storeL (runAllV v al) := by
 rw [serialS, if_pos ⟨(storeL_ok hv).1, ha⟩, vals_store hv]
theorem len_ents (es : List Ent) : (es.flatMap encE).length = es.length * 2 := by
 induction es with
 | nil => rfl
 | cons e es ih => rw [List.flatMap_cons, List.length_append, ih, List.length_cons]; simp [encE]; omega
set_option maxRecDepth 100000 in
set_option maxHeartbeats 8000000 in
theorem storeOf_spec (t : Tr) (A1 : Option Addr) (c1 : Nat) (A2 : Option Addr) (c2 : Nat) (A3 : Option Addr) (c3 : Nat) (n : Int) (w : World) (h : TrR w t A1 A2 A3) (hb1 : t.base.length ≤ 1099511627776) (hb2 : t.blocks.length ≤ 1099511627776) (hbs : ∀ x ∈ t.blocks, x.list.length ≤ 1099511627776) (hb3 : t.before.length ≤ 1099511627776) :
   Calls Tryz.prog 89 #[.agg (trA t A1 c1 A2 c2 A3 c3), .int .i64 n] w fun e w' => ∃ A' c', e = .returned (.slice A' (storeT t n).length c') ∧ w'.ownsRow w.heap.size 79 2 (.slice A' (storeT t n).length c') (storeT t n).length ((storeT t n).flatMap encE) ∧ Below w.heap.size w w' := by
 have HBS := hide hbs
 clear hbs
 obtain ⟨W, hW⟩ : ∃ W : World, W = w.alloc (.cells (trA t A1 c1 A2 c2 A3 c3) 69) := ⟨_, rfl⟩
 have hb0 : Below w.heap.size w W := by rw [hW]; exact (Below.refl _ _).alloc (Nat.le_refl _) _
 have K0 : Blk W w.heap.size 69 (trA t A1 c1 A2 c2 A3 c3) := by rw [hW]; exact Blk.new _ _ _
 have HR := hide (fun w' (hb : Below W.heap.size W w') => h.new (bthen hb0 hb))
 have hWs : w.heap.size < W.heap.size := K0.lt
 have BX := hide (fun w' (hb : Below W.heap.size W w') => show w'.cell? ⟨w.heap.size, 0, none⟩ = some (.slice A1 t.base.length c1) ∧ w'.cell? ⟨w.heap.size, 1, none⟩ = some (.slice A2 t.blocks.length c2) ∧ w'.cell? ⟨w.heap.size, 2, none⟩ = some (.slice A3 t.before.length c3) from ⟨(K0.new_ hb).cell 0, (K0.new_ hb).cell 1, (K0.new_ hb).cell 2⟩)
 have KV := path_spec t A1 c1 A2 c2 A3 c3 n W (unhide HR _ (Below.refl _ _)) hb1 hb2 (unhide HBS) hb3
 obtain ⟨x0, x1, x2⟩ := unhide BX W (Below.refl _ _)
 simp only [trA] at K0 hW KV ⊢
 clear h K0
 subst hW
 go_enter Tryz.func89, Tryz.ntmps89
 go_wp2_with fail
 refine KV.mono ?_
 rintro e w3 ⟨AP, cp, rfl, o3, b3⟩
 clear KV x0 x1 x2
 have hpl := pathS_len t n
 have HPM := hide (fun x (hx : x ∈ pathS t n) => pathS_mem (t := t) (n := n) hx)
 have HPS := hide (show storeT t n = if pathS t n = [] then [] else storeL (afterV t (pathS t n)) from by
   unfold pathS
   cases hv : treeB t
   · rw [storeT_no hv]; simp
   · cases hin : inB n 0 ((t.blocks.length : Int) - 1)
     · rw [storeT_no2 hin, pathT_out t (fun hc => by rw [inB_true.2 (by omega)] at hin; cases hin)]; simp
     · have hib := inB_true.1 hin
       rw [storeT_yes hv hin, if_pos rfl, if_neg]
       rw [pathT_step hv (by omega) (by omega)]
       simp)
 have b03 := b3
 have hs3 := b3.size
 have rp := own_rd o3
 have HAP := hide (own_rng o3)
 generalize hps : pathS t n = ps at *
 have o4 := own_made (base := w.heap.size) (e := 79) (size := 2) w3 #[] 0 (by omega) (by simp [maxLen]) rfl
 have b4 : Below (w.alloc (.cells #[.slice A1 t.base.length c1, .slice A2 t.blocks.length c2, .slice A3 t.before.length c3] 69)).heap.size (w.alloc (.cells #[.slice A1 t.base.length c1, .slice A2 t.blocks.length c2, .slice A3 t.before.length c3] 69)) (w3.alloc (.cells #[] 79)) := b3.alloc hs3 _
 rcases ps with _ | ⟨p0, ps'⟩
 · have HP := hide (show storeT t n = [] by rw [unhide HPS, if_pos rfl])
   clear o3 HAP rp HPS hps
   go_wp2
   go_loopw [6, 7] (fun s i wr => ∃ (c' : Nat), i = .int .i64 0 ∧ s = .slice (some ⟨w3.heap.size, 0, none⟩) 0 c' ∧ wr.ownsRow w.heap.size 79 2 (.slice (some ⟨w3.heap.size, 0, none⟩) 0 c') 0 [] ∧ Below w.heap.size w wr) (fun _ _ _ => 0)
   case atStart => exact ⟨_, rfl, rfl, by simpa using o4, bthen hb0 b4⟩
   case round =>
     clear o4
     obtain ⟨c', rfl, rfl, hown, hbel⟩ := hrel
     go_wp2
     go_ret
     rw [unhide HP]
     exact ⟨_, _, rfl, hown, hbel⟩
 have hne : (p0 :: ps') ≠ [] := by simp
 generalize hpp : p0 :: ps' = ps at *
 have hp0 : 0 < ps.length := by rw [← hpp]; simp
 have hp00 : (0 : Int) < (ps.length : Int) := by omega
 have HP := hide (show storeT t n = storeL (afterV t ps) by rw [unhide HPS, if_neg hne])
 have HV := hide (show treeB t = true from (unhide HPM p0 (by rw [← hpp]; simp)).1)
 clear hpp hne HPS p0 ps' hps
 have HPL := hide (fun (w' : World) (hb : Below w3.heap.size w3 w') => (own_rd (own_new o3 hb) : Rd w' AP (ps.map (.int .i64))))
 have HB5 := hide (store_vals (treeB_yes (unhide HV)).1)
 have hbl := store_len (treeB_yes (unhide HV)).1
 have HR3 := hide (fun w' (hb : Below w3.heap.size w3 w') => unhide HR w' (bthen b03 hb))
 have BX3 := hide (fun w' (hb : Below w3.heap.size w3 w') => unhide BX w' (bthen b03 hb))
 have b34 : Below w3.heap.size w3 (w3.alloc (.cells #[] 79)) := (Below.refl _ _).alloc (Nat.le_refl _) _
 have o4' := own_made (base := w3.heap.size) (e := 79) (size := 2) w3 #[] 0 (Nat.le_refl _) (by simp [maxLen]) rfl
 obtain ⟨z0, z1, z2⟩ := unhide BX3 _ b34
 have hw3 : w.heap.size ≤ w3.heap.size := by omega
 have hb3' := bthen hb0 b3
 clear BX HR o3 b3 b4 hb0 rp b03 o4
 go_wp2_with (at_builtin; refine wpList_app rfl (.tmp 17) (.tmp 19) 34 rfl el_ent rfl o4' rfl ((unhide HR3 _ b34).b1) (len_ents t.base) (one_ents t.base) (by simp only [maxLen]; omega) (by omega) (by simp) ?_; intro A4 c4 w4 o5 ch4 d4 _)
 have b4 : Below w3.heap.size w3 w4 := app_below' b34 o4' ch4 (Nat.le_refl _)
 have o6 : w4.ownsRow w3.heap.size 79 2 (.slice A4 t.base.length c4) t.base.length (t.base.flatMap encE) := by simpa using o5
 have hAF : afterV t (ps.take 0) = valsL t.base := rfl
 have HBS0 := hide (show t.base = storeL (afterV t (ps.take 0)) by rw [hAF, unhide HB5])
 clear o4' o5 ch4 d4 hAF b34 z0 z1 z2
 go_loopw [6, 7, 8, 9, 27] (fun s i _ _ _ wr => ∃ (k : Nat) (A' : Option Addr) (c' : Nat) (cur : List Ent), k ≤ ps.length ∧ i = .int .i64 k ∧ s = .slice A' cur.length c' ∧ Hid (cur = storeL (afterV t (ps.take k))) ∧ cur.length ≤ 32 ∧ wr.ownsRow w3.heap.size 79 2 (.slice A' cur.length c') cur.length (cur.flatMap encE) ∧ Below w3.heap.size w3 wr) (fun _ i _ _ _ _ => ps.length - (intOf i).toNat)
 case atStart => exact ⟨0, A4, c4, t.base, Nat.zero_le _, rfl, rfl, HBS0, hbl, o6, b4⟩
 case round =>
   clear o6 b4 HBS0
   obtain ⟨k, A', c', cur, hk, rfl, rfl, HC, hcl, hown, hbel⟩ := hrel
   have hsz := hbel.size
   by_cases hlt : k < ps.length
   · have i1 : (k : Int) < (ps.length : Int) := by omega
     obtain ⟨bp, offp, hAPe, hpb, zp⟩ := (unhide HPL w3 (Below.refl _ _)).int hlt
     have hpm := (unhide HPM ps[k] (List.getElem_mem hlt)).2
     have HT := hide (show afterV t (ps.take (k + 1)) = runAllV (afterV t (ps.take k)) (bAt t ps[k].toNat).list by rw [List.take_succ_eq_append_getElem hlt, afterV_snoc])
     have HVO := hide (valOk_after (unhide HV) (ps.take k) (fun x hx => (unhide HPM x (List.mem_of_mem_take hx)).2))
     generalize ps[k] = p at *
     obtain ⟨q, rfl⟩ := Int.eq_ofNat_of_zero_le hpm.1
     rw [show ((q : Int)).toNat = q by simp] at HT
     have hqn : q < t.blocks.length := by omega
     have i2 : (q : Int) < (t.blocks.length : Int) := by omega
     have hacts := blk_acts (unhide HV) hqn
     rw [bAt_get t hqn] at HT hacts
     obtain ⟨bq, offq, L1, e1, hA2, -, hbb, -, -, -, d3, -, -, -, q1⟩ := (unhide HR3 w3 (Below.refl _ _)).b2.bk hqn
     generalize t.blocks[q] = x at *
     have hl10 := (actsB_yes hacts).1
     have HSS := hide (show serialS cur x.list = storeL (afterV t (ps.take (k + 1))) by rw [unhide HC, serial_step (unhide HVO) hacts, unhide HT])
     have HX := hide (fun (w' : World) (hb : Below wr.heap.size wr w') => show w'.cell? ⟨w.heap.size, 1, none⟩ = some (.slice A2 t.blocks.length c2) ∧ w'.cell? ⟨bq, offq + q * 6 + 3, none⟩ = some (.slice L1 x.list.length e1) ∧ w'.cell? ⟨bp, offp + k, none⟩ = some (.int .i64 (q : Int)) ∧ Rd w' L1 (x.list.flatMap encA) ∧ Rd w' A' (cur.flatMap encE) ∧ Below w3.heap.size w3 w' from by
       have hb' := bthen hbel hb
       exact ⟨(unhide BX3 w' hb').2.1, (hb'.cell (p := ⟨bq, offq + q * 6 + 3, none⟩) hbb).trans d3, (hb'.cell (p := ⟨bp, offp + k, none⟩) hpb).trans zp, q1.rd.new hb', (own_rd hown).new hb, hb'⟩)
     have HA2 := hide hA2
     have HAE := hide hAPe
     have hnl : (serialS cur x.list).length ≤ 32 := serialS_len cur x.list
     generalize hnx : serialS cur x.list = nx at *
     have HNX := hide hnx
     clear hacts hA2 hAPe d3 q1 zp hpm hnx
     rw [unhide HAE]
     go_wp2
     have hF : StBL [bV (.slice A' cur.length c'), bV (.pointer (some ⟨w.heap.size, 1, none⟩)), bV (.slice (some ⟨bq, offq, none⟩) t.blocks.length c2), bV (.slice (some ⟨bp, offp, none⟩) ps.length cp), bV (.int .i64 (k : Int)), bV (.pointer (some ⟨bp, offp + k, none⟩)), bV (.int .i64 (q : Int)), bV (.pointer (some ⟨bq, offq + q * 6, none⟩)), bV (.pointer (some ⟨bq, offq + q * 6 + 3, none⟩)), bV (.slice L1 x.list.length e1), sTup w3.heap.size nx, sTup w3.heap.size nx, sOwn w3.heap.size nx, (fun _ _ => True), sOwn w3.heap.size nx] :=
       ⟨sb_V _, sb_V _, sb_V _, sb_V _, sb_V _, sb_V _, sb_V _, sb_V _, sb_V _, sb_V _, sb_Tup _ _, sb_Tup _ _, sb_Own _ _, sb_True, sb_Own _ _, trivial⟩
     go_upto_region 8 with fail
     refine wp_region_loc (by kernel_rfl) [(0, some 28), (1, some 29), (2, some 30), (3, some 31), (4, some 32), (5, some 33), (6, some 34), (7, some 35), (8, some 36), (9, some 37), (10, some 38), (11, some 27), (12, some 39), (13, some 40), (14, some 8)] [[], [], [(1, some 29)], [], [], [(3, some 31), (4, some 32)], [(5, some 33)], [(2, some 30), (6, some 34)], [(7, some 35)], [(8, some 36)], [(0, some 28), (9, some 37)], [(10, some 38)], [(11, some 27)], [(11, some 27)], [(12, some 39)]] (by kernel_rfl)
       (locB _) (fun a b => Below a.heap.size a b) noR [0, 0, 0, 0, 0, 0, 0, 0, 0, 0, 0, 0, 0, 0, 0] 0 (by kernel_rfl) (fun _ => Below.refl _ _) (fun _ _ _ => bthen) (locB_st hF _) trivial ?_ ?_
     · refine steps_cons ?s0 ( steps_cons ?s1 ( steps_cons ?s2 ( steps_cons ?s3 ( steps_cons ?s4 ( steps_cons ?s5 ( steps_cons ?s6 ( steps_cons ?s7 ( steps_cons ?s8 ( steps_cons ?s9 ( steps_cons ?s10 ( steps_cons ?s11 ( steps_cons ?s12 ( steps_cons ?s13 ( steps_cons ?s14 steps_nil))))))))))))))
       case s0 | s1 | s3 | s4 =>
         intro w' m' hE hR
         intro Q hQ
         go_wp2
         exact hQ _ _ _ rfl rfl (Below.refl _ _) trivial
       case s2 | s6 | s9 =>
         intro w' m' hE hR
         rintro _ rfl Q hQ
         obtain ⟨y1, y2, y3, y4, y5, y6⟩ := unhide HX w' (below_undrew hE)
         rw [unhide HA2] at y1
         go_wp2
         exact hQ _ _ _ rfl rfl (Below.refl _ _) trivial
       case s5 | s7 =>
         intro w' m' hE hR
         rintro _ rfl _ rfl Q hQ
         go_wp2
         exact hQ _ _ _ rfl rfl (Below.refl _ _) trivial
       case s8 =>
         intro w' m' hE hR
         rintro _ rfl Q hQ
         go_wp2
         exact hQ _ _ _ rfl rfl (Below.refl _ _) trivial
       case s10 =>
         intro w' m' hE hR
         rintro _ rfl _ rfl Q hQ
         obtain ⟨y1, y2, y3, y4, y5, y6⟩ := unhide HX w' (below_undrew hE)
         rw [unhide HA2] at y1
         have hs6 := y6.size
         have K := runSerial_own A' c' cur L1 e1 x.list w' y5 (by omega) y4 (by omega)
         rw [unhide HNX] at K
         go_wp2_with fail
         refine K.mono ?_
         rintro e w1 ⟨A8, c8, A9, c9, fp, rfl, o8, -, -, b1⟩
         go_wp2
         exact hQ _ _ _ rfl ⟨A8, c8, _, rfl, own_base o8 (by omega)⟩ b1 trivial
       case s11 =>
         intro w' m' hE hR
         rintro _ ⟨A8, c8, u8, rfl, o8⟩ Q hQ
         go_wp2
         exact hQ _ _ _ rfl ⟨A8, c8, u8, rfl, o8⟩ (Below.refl _ _) trivial
       case s12 =>
         intro w' m' hE hR
         rintro _ ⟨A8, c8, u8, rfl, o8⟩ Q hQ
         go_wp2
         exact hQ _ _ _ rfl ⟨A8, c8, rfl, o8⟩ (Below.refl _ _) trivial
       case s13 =>
         intro w' m' hE hR
         rintro _ ⟨A8, c8, u8, rfl, o8⟩ Q hQ
         go_wp2
         exact hQ _ _ _ rfl trivial (Below.refl _ _) trivial
       case s14 =>
         intro w' m' hE hR
         rintro _ ⟨A8, c8, rfl, o8⟩ Q hQ
         go_wp2
         exact hQ _ _ _ rfl ⟨A8, c8, rfl, o8⟩ (Below.refl _ _) trivial
     intro w9 hE _
     rintro v0 - v1 - v2 - v3 - v4 - v5 - v6 - v7 - v8 - v9 - v10 - v11 - v12 - v13 - v14 ⟨A8, c8, rfl, o8⟩
     change wpList _ _ _ [_] _ _
     simp only [Act.put, List.setIfInBounds_toArray, List.set_cons_succ, List.set_cons_zero]
     have b9 := below_undrew hE
     go_wp2
     go_roundw
     case rel => exact ⟨k + 1, A8, c8, nx, by omega, by go_num, rfl, HSS, hnl, o8, bthen hbel b9⟩
     case measure => simp [intOf]; omega
   · obtain rfl : k = ps.length := by omega
     have HE := hide (show cur = storeT t n by rw [unhide HC, List.take_length, unhide HP])
     go_wp2
     go_ret
     rw [← unhide HE]
     exact ⟨A', c', rfl, own_base hown hw3, bthen hb3' hbel⟩
end Go.Proofs.YtihlhejencninaaGreat
namespace Go.Proofs.YtihlhejencninaaGreat
open Go.RowKit
set_option linter.unusedVariables false
set_option linter.unusedSimpArgs false
end Go.Proofs.YtihlhejencninaaGreat
namespace Go.Proofs.YtihlhejencninaaGreat
open Go.RowKit
set_option linter.unusedVariables false
set_option linter.unusedSimpArgs false
end Go.Proofs.YtihlhejencninaaGreat
namespace Go.Proofs.YtihlhejencninaaGreat
open Go.RowKit
set_option linter.unusedVariables false
set_option linter.unusedSimpArgs false

def iOwn (B : Nat) (ys : List Int) (v : Value) (w : World) : Prop := ∃ A c, v = .slice A ys.length c ∧ w.ownsRow B 3 1 (.slice A ys.length c) ys.length (ys.map (.int .i64))
theorem sb_iOwn (B : Nat) (ys : List Int) : StB (iOwn B ys) := fun _ _ _ hb ⟨A, c, h1, h2⟩ => ⟨A, c, h1, own_new h2 hb⟩
def baseT (B : Nat) (t : Tr) (v : Value) (w : World) : Prop := ∃ A c A' c', v = .agg #[.slice A t.base.length c, .slice none 0 0, .slice A' t.before.length c'] ∧ w.ownsRow B 79 2 (.slice A t.base.length c) t.base.length (t.base.flatMap encE) ∧ w.ownsRow B 3 1 (.slice A' t.before.length c') t.before.length (t.before.map (.int .i64))
theorem sb_baseT (B : Nat) (t : Tr) : StB (baseT B t) := fun _ _ _ hb ⟨A, c, A', c', h1, h2, h3⟩ => ⟨A, c, A', c', h1, own_new h2 hb, own_new h3 hb⟩
theorem info_tr : (Tryz.prog.info? 69).map (·.size) = some 3 := by kernel_rfl
theorem ne_ei : (79 : TypeId) ≠ 3 := by decide
theorem ne_et : (79 : TypeId) ≠ 69 := by decide
theorem ne_it : (3 : TypeId) ≠ 69 := by decide
theorem sl3_one (A B C : Option Addr) (n m k c d e : Nat) : (#[Value.slice A n c, .slice B m d, .slice C k e]).all (·.oneCell') = true := by
 rw [Array.all_eq_true_iff_forall_mem]
 intro x hx
 simp at hx
 rcases hx with rfl | rfl | rfl <;> rfl
theorem bkV_one (x : Bk) (A : Option Addr) (c : Nat) : ∀ u ∈ bkV x A c, u.oneCell' = true := by
 intro u hu
 simp [bkV] at hu
 rcases hu with rfl | rfl | rfl | rfl | rfl | rfl <;> rfl
set_option maxRecDepth 100000 in
set_option maxHeartbeats 8000000 in
theorem copy_spec (t : Tr) (A1 : Option Addr) (c1 : Nat) (A2 : Option Addr) (c2 : Nat) (A3 : Option Addr) (c3 : Nat) (w : World) (h : TrR w t A1 A2 A3) (hb1 : t.base.length ≤ 1099511627776) (hb2 : t.blocks.length ≤ 1099511627776) (hbs : ∀ x ∈ t.blocks, x.list.length ≤ 1099511627776) (hb3 : t.before.length ≤ 1099511627776) :
   Calls Tryz.prog 175 #[.agg (trA t A1 c1 A2 c2 A3 c3)] w fun e w' => ∃ B1 d1 B2 d2 B3 d3 fp, e = .returned (.agg (trA t B1 d1 B2 d2 B3 d3)) ∧ TrO w' w.heap.size t B1 d1 B2 d2 B3 d3 fp ∧ Below w.heap.size w w' := by
 have HBS := hide hbs
 clear hbs
 obtain ⟨W, hW⟩ : ∃ W : World, W = (w.alloc (.cells (trA t A1 c1 A2 c2 A3 c3) 69)).alloc (.cells #[.slice none 0 0, .slice none 0 0, .slice none 0 0] 69) := ⟨_, rfl⟩
 have hb0 : Below w.heap.size w W := by rw [hW]; exact ((Below.refl _ _).alloc (Nat.le_refl _) _).alloc (by simp) _
 have K0 : Blk W w.heap.size 69 (trA t A1 c1 A2 c2 A3 c3) := by rw [hW]; exact (Blk.new _ _ _).alloc _
 have K1 : Blk W (w.heap.size + 1) 69 #[.slice none 0 0, .slice none 0 0, .slice none 0 0] := by
   rw [hW]
   have := Blk.new (w.alloc (.cells (trA t A1 c1 A2 c2 A3 c3) 69)) 69 #[.slice none 0 0, .slice none 0 0, .slice none 0 0]
   simpa using this
 have hW1 := K1.lt
 simp only [trA] at K0 hW ⊢
 have HX := hide (fun (w' : World) (hb : Below W.heap.size W w') => show w'.cell? ⟨w.heap.size, 0, none⟩ = some (.slice A1 t.base.length c1) ∧ w'.cell? ⟨w.heap.size, 1, none⟩ = some (.slice A2 t.blocks.length c2) ∧ w'.cell? ⟨w.heap.size, 2, none⟩ = some (.slice A3 t.before.length c3) ∧ TrR w' t A1 A2 A3 from ⟨(K0.new_ hb).cell 0, (K0.new_ hb).cell 1, (K0.new_ hb).cell 2, h.new (bthen hb0 hb)⟩)
 have HK1 := hide (fun (w' : World) (hb : Below W.heap.size W w') => K1.new_ hb)
 clear h K0 K1
 go_enter Tryz.func175, Tryz.ntmps175
 go_wp2
 rw [← hW]
 have hF : StBL [eOwn 79 2 W.heap.size, bV (.pointer (some ⟨w.heap.size, 0, none⟩)), bV (.slice A1 t.base.length c1), sOwn W.heap.size t.base, eOwn 3 1 W.heap.size, bV (.pointer (some ⟨w.heap.size, 2, none⟩)), bV (.slice A3 t.before.length c3), iOwn W.heap.size t.before, baseT W.heap.size t, newBox W.heap.size 69 #[.slice none 0 0, .slice none 0 0, .slice none 0 0]] :=
   ⟨sb_eOwn _ _ _, sb_V _, sb_V _, sb_Own _ _, sb_eOwn _ _ _, sb_V _, sb_V _, sb_iOwn _ _, sb_baseT _ _, sb_newBox _ _ _, trivial⟩
 go_upto_region 1 with fail
 refine wp_region_loc (by kernel_rfl) [(0, some 6), (1, some 7), (2, some 8), (3, some 9), (4, some 10), (5, some 11), (6, some 12), (7, some 13), (8, some 14), (9, some 3)] [[], [], [(1, some 7)], [(0, some 6), (2, some 8)], [], [], [(5, some 11)], [(4, some 10), (6, some 12)], [(3, some 9), (7, some 13)], []] (by kernel_rfl)
   (locB _) (fun a b => Below a.heap.size a b) noR [0, 0, 0, 0, 0, 0, 0, 0, 0, 0] 0 (by kernel_rfl) (fun _ => Below.refl _ _) (fun _ _ _ => bthen) (locB_st hF _) trivial ?_ ?_
 · refine steps_cons ?s0 ( steps_cons ?s1 ( steps_cons ?s2 ( steps_cons ?s3 ( steps_cons ?s4 ( steps_cons ?s5 ( steps_cons ?s6 ( steps_cons ?s7 ( steps_cons ?s8 ( steps_cons ?s9 steps_nil)))))))))
   case s0 =>
     intro w' m' hE hR
     intro Q hQ
     have hsz := hE.size
     have o0 := own_made (base := W.heap.size) (e := 79) (size := 2) w' #[] 0 hsz (by simp [maxLen]) rfl
     go_wp2
     exact hQ _ _ _ rfl ⟨_, rfl, o0⟩ ((Below.refl _ _).alloc (Nat.le_refl _) _) trivial
   case s1 | s5 =>
     intro w' m' hE hR
     intro Q hQ
     go_wp2
     exact hQ _ _ _ rfl rfl (Below.refl _ _) trivial
   case s2 | s6 =>
     intro w' m' hE hR
     rintro _ rfl Q hQ
     obtain ⟨y0, y1, y2, y3⟩ := unhide HX w' (below_undrew hE)
     go_wp2
     exact hQ _ _ _ rfl rfl (Below.refl _ _) trivial
   case s3 =>
     intro w' m' hE hR
     rintro _ ⟨AE, rfl, oE⟩ _ rfl Q hQ
     obtain ⟨y0, y1, y2, y3⟩ := unhide HX w' (below_undrew hE)
     have hsz := hE.size
     refine wpList_app0 rfl (.tmp 6) (.tmp 8) 34 rfl el_ent rfl oE rfl y3.b1 (len_ents t.base) (one_ents t.base) (by simp only [maxLen]; omega) (by omega) hsz ?_
     intro A' c' w2 o2 b2
     go_wp2
     exact hQ _ _ _ rfl ⟨A', c', rfl, o2⟩ b2 trivial
   case s4 =>
     intro w' m' hE hR
     intro Q hQ
     have hsz := hE.size
     have o0 := own_made (base := W.heap.size) (e := 3) (size := 1) w' #[] 0 hsz (by simp [maxLen]) rfl
     go_wp2
     exact hQ _ _ _ rfl ⟨_, rfl, o0⟩ ((Below.refl _ _).alloc (Nat.le_refl _) _) trivial
   case s7 =>
     intro w' m' hE hR
     rintro _ ⟨AE, rfl, oE⟩ _ rfl Q hQ
     obtain ⟨y0, y1, y2, y3⟩ := unhide HX w' (below_undrew hE)
     have hsz := hE.size
     refine wpList_app0 rfl (.tmp 10) (.tmp 12) 26 rfl el_int rfl oE rfl y3.b3 (by simp) (one_ia t.before) (by simp only [maxLen]; omega) (by omega) hsz ?_
     intro A' c' w2 o2 b2
     go_wp2
     exact hQ _ _ _ rfl ⟨A', c', rfl, o2⟩ b2 trivial
   case s8 =>
     intro w' m' hE hR
     rintro _ ⟨B1, d1, rfl, o1⟩ _ ⟨B3, d3, rfl, o3⟩ Q hQ
     go_wp2
     exact hQ _ _ _ rfl ⟨B1, d1, B3, d3, rfl, o1, o3⟩ (Below.refl _ _) trivial
   case s9 =>
     intro w' m' hE hR
     intro Q hQ
     have hsz := hE.size
     go_wp2
     exact hQ _ _ _ rfl ⟨w'.heap.size, rfl, hsz, Blk.new _ _ _⟩ ((Below.refl _ _).alloc (Nat.le_refl _) _) trivial
 intro w9 hE _
 rintro v0 - v1 - v2 - v3 - v4 - v5 - v6 - v7 - v8 ⟨B1, d1, B3, d3, rfl, o1, o3⟩ v9 ⟨g, rfl, hg, kg⟩
 change wpList _ _ _ [_] _ _
 simp only [Act.put, List.setIfInBounds_toArray, List.set_cons_succ, List.set_cons_zero]
 have b9 := below_undrew hE
 have hgl := kg.lt
 go_wp2_with (refine wpList_store_row rfl 69 (.tmp 3) (.tmp 14) rfl g #[.slice B1 t.base.length d1, .slice none 0 0, .slice B3 t.before.length d3] rfl rfl 69 #[.slice none 0 0, .slice none 0 0, .slice none 0 0] kg info_tr rfl (sl3_one _ _ _ _ _ _ _ _ _) ?_; refine at_world (C := fun W => wpList _ _ _ _ _ W) (F := fun W2 => Blk W2 g 69 #[.slice B1 t.base.length d1, .slice none 0 0, .slice B3 t.before.length d3] ∧ W2.ownsRow W.heap.size 79 2 (.slice B1 t.base.length d1) t.base.length (t.base.flatMap encE) ∧ W2.ownsRow W.heap.size 3 1 (.slice B3 t.before.length d3) t.before.length (t.before.map (.int .i64)) ∧ Below W.heap.size W W2 ∧ g < W2.heap.size) ⟨blk_setRow kg, own_EB o1 (EB.setRow kg hg _) ne_et, own_EB o3 (EB.setRow kg hg _) ne_it, below_setRow b9 hg _, by rw [size_setRow]; exact hgl⟩ ?_; rintro W2 ⟨kg2, p1, p3, b2, hg2⟩)
 have a13 := own_ne p1 p3 ne_ei
 have HR1 := hide (own_rng p1)
 have HR3 := hide (own_rng p3)
 have HA13 := hide a13
 have HGA1 := hide (show ¬ B1 = some ⟨g, 0, none⟩ from fun e => by
   rcases p1.2 with ⟨hv, _⟩ | ⟨q, cap, cur, hv, _, hh, _⟩
   · injection hv with hv; rw [e] at hv; cases hv
   · injection hv with hv; rw [e] at hv; injection hv with hv; injection hv with hv; subst hv; rw [show W2.heap[g]? = _ from kg2] at hh; injection hh with hh; injection hh with _ h3 _; exact ne_et h3.symm)
 have HGA3 := hide (show ¬ B3 = some ⟨g, 0, none⟩ from fun e => by
   rcases p3.2 with ⟨hv, _⟩ | ⟨q, cap, cur, hv, _, hh, _⟩
   · injection hv with hv; rw [e] at hv; cases hv
   · injection hv with hv; rw [e] at hv; injection hv with hv; injection hv with hv; subst hv; rw [show W2.heap[g]? = _ from kg2] at hh; injection hh with hh; injection hh with _ h3 _; exact ne_it h3.symm)
 have hm0 := b2.size
 have HGW := hide hg
 have hgW : w.heap.size + 1 < g := by omega
 clear a13 o1 o3 kg hgl b9 hE hF hg
 go_loopw [4, 5] (fun i _ wr => ∃ (k : Nat) (A' : Option Addr) (c' : Nat) (vs : List (List Value)) (fs : List (List Nat)), k ≤ t.blocks.length ∧ i = .int .i64 k ∧ AllO bkO wr (t.blocks.take k) vs fs ∧ fs.flatten.Nodup ∧ Hid (∀ q ∈ fs.flatten, W2.heap.size ≤ q ∧ A' ≠ some ⟨q, 0, none⟩) ∧ wr.ownsRow W2.heap.size 32 6 (.slice A' k c') k vs.flatten ∧ Blk wr g 69 #[.slice B1 t.base.length d1, .slice A' k c', .slice B3 t.before.length d3] ∧ wr.ownsRow W.heap.size 79 2 (.slice B1 t.base.length d1) t.base.length (t.base.flatMap encE) ∧ wr.ownsRow W.heap.size 3 1 (.slice B3 t.before.length d3) t.before.length (t.before.map (.int .i64)) ∧ W2.heap.size ≤ wr.heap.size ∧ Below W.heap.size W wr) (fun i _ _ => t.blocks.length - (intOf i).toNat)
 case atStart => exact ⟨0, none, 0, [], [], Nat.zero_le _, rfl, trivial, by simp, hide (by simp), own_nil _ _ _ _, kg2, p1, p3, Nat.le_refl _, b2⟩
 case round =>
   clear kg2 p1 p3 b2
   obtain ⟨k, A', c', vs, fs, hk, rfl, hall, hnd, HF, hown, kg, p1, p3, hwr, hB⟩ := hrel
   obtain ⟨y0, y1, y2, hT⟩ := unhide HX wr hB
   have q0 : wr.cell? ⟨g, 0, none⟩ = some (.slice B1 t.base.length d1) := kg.cell 0
   have q1 : wr.cell? ⟨g, 1, none⟩ = some (.slice A' k c') := kg.cell 1
   have q2 : wr.cell? ⟨g, 2, none⟩ = some (.slice B3 t.before.length d3) := kg.cell 2
   by_cases hlt : k < t.blocks.length
   · have i1 : (k : Int) < (t.blocks.length : Int) := by omega
     obtain ⟨bq, offq, L1, e1, hA2, -, hbb, x0, x1, x2, x3, x4, x5, hl1, r1⟩ := hT.b2.bk hlt
     have hxl := unhide HBS t.blocks[k] (List.getElem_mem hlt)
     have HT := hide (show t.blocks.take (k + 1) = t.blocks.take k ++ [t.blocks[k]] from List.take_succ_eq_append_getElem hlt)
     generalize t.blocks[k] = x at *
     have HA2 := hide hA2
     clear hA2
     rw [unhide HA2] at y1
     have rx := r1.rd
     clear r1 hl1
     have hgwr : g < wr.heap.size := by omega
     have hne : g ≠ wr.heap.size := by omega
     have hne2 : wr.heap.size ≠ g := by omega
     have HRO := hide (own_rng hown)
     go_wp2_with (first | (refine wpList_store_row rfl 32 (.tmp 5) (.tmp 26) rfl wr.heap.size #[.int .i64 x.before, .int .i64 x.height, .int .i64 x.view, .slice L1 x.list.length e1, .int .i64 x.root, .int .i64 x.eff] rfl rfl 32 #[.int .i64 0, .int .i64 0, .int .i64 0, .slice none 0 0, .int .i64 0, .int .i64 0] (box_new wr 32 #[.int .i64 0, .int .i64 0, .int .i64 0, .slice none 0 0, .int .i64 0, .int .i64 0] #[.int .i64 x.before, .int .i64 x.height, .int .i64 x.view, .slice L1 x.list.length e1, .int .i64 x.root, .int .i64 x.eff]).1 info_bkS rfl (bk6_one _ _ _ _ _ _ _ _) ?_; refine at_world (C := fun W => wpList _ _ _ _ _ W) (F := fun W => Blk W wr.heap.size 32 #[.int .i64 x.before, .int .i64 x.height, .int .i64 x.view, .slice L1 x.list.length e1, .int .i64 x.root, .int .i64 x.eff] ∧ Below wr.heap.size wr W) ⟨(box_new wr 32 #[.int .i64 0, .int .i64 0, .int .i64 0, .slice none 0 0, .int .i64 0, .int .i64 0] #[.int .i64 x.before, .int .i64 x.height, .int .i64 x.view, .slice L1 x.list.length e1, .int .i64 x.root, .int .i64 x.eff]).2.1, (box_new wr 32 #[.int .i64 0, .int .i64 0, .int .i64 0, .slice none 0 0, .int .i64 0, .int .i64 0] #[.int .i64 x.before, .int .i64 x.height, .int .i64 x.view, .slice L1 x.list.length e1, .int .i64 x.root, .int .i64 x.eff]).2.2⟩ ?_; rintro w5 ⟨k5, b5⟩; have v3 : w5.cell? ⟨wr.heap.size, 3, none⟩ = some (.slice L1 x.list.length e1) := k5.cell 3; have hl5 := k5.lt; have oe := own_made (base := w5.heap.size) (e := 56) (size := 4) w5 #[] 0 (Nat.le_refl _) (by simp [maxLen]) rfl; have be : Below wr.heap.size wr (w5.alloc (.cells #[] 56)) := bthen b5 ((Below.refl _ _).alloc (Nat.le_refl _) _)) | (at_builtin; refine wpList_app0 rfl (.tmp 27) (.tmp 29) 30 rfl el_actz rfl oe rfl (rx.new be) (len_acts x.list) (one_acts2 x.list) (by simp only [maxLen]; omega) (by omega) (by simp) ?_; intro A7 c7 w7 o7 b7; have b57 := bthen be b7; have k7 := (k5.new_ ((Below.refl _ _).alloc (Nat.le_refl _) _)).new_ b7; have u0 : w7.cell? ⟨wr.heap.size, 0, none⟩ = some _ := k7.cell 0; have u1 : w7.cell? ⟨wr.heap.size, 1, none⟩ = some _ := k7.cell 1; have u2 : w7.cell? ⟨wr.heap.size, 2, none⟩ = some _ := k7.cell 2; have u3 : w7.cell? ⟨wr.heap.size, 3, none⟩ = some _ := k7.cell 3; have u4 : w7.cell? ⟨wr.heap.size, 4, none⟩ = some _ := k7.cell 4; have u5 : w7.cell? ⟨wr.heap.size, 5, none⟩ = some _ := k7.cell 5; have f3 : w7.frozen? ⟨wr.heap.size, 3, none⟩ = false := k7.frozen 3; have kg7 := kg.new_ b57; have g1 : w7.cell? ⟨g, 1, none⟩ = some (.slice A' k c') := kg7.cell 1; have chS : Chg (fun q => q = wr.heap.size) w7 (w7.setCell ⟨wr.heap.size, 3, none⟩ (.slice A7 x.list.length c7)) := (Chg.refl (fun q => q = wr.heap.size) w7).setCell (p := ⟨wr.heap.size, 3, none⟩) (.inl rfl) _; have oA := own_chg (own_new hown b57) chS (fun q hq e => by have := unhide HRO q hq; omega); have o7s := own_chg o7 chS (fun q hq e => by have := own_rng o7 q hq; omega); have hs7 := b57.size; have kg7s := kg7.chg chS hne; have es : (w7.setCell ⟨wr.heap.size, 3, none⟩ (.slice A7 x.list.length c7)).heap.size = w7.heap.size := (by simp); have rl := rd_lit (w7.setCell ⟨wr.heap.size, 3, none⟩ (.slice A7 x.list.length c7)) (bkV x A7 c7) 32; rw [es] at rl; clear es) | (at_builtin; refine wpList_app rfl (.tmp 33) (.tmp 35) 67 rfl el_bk rfl (own_alloc oA _) rfl rl rfl (bkV_one x A7 c7) (by simp only [maxLen]; omega) (by omega) (by simp; omega) ?_; intro A8 c8 w8 o8 ch8 d8 _; have kg8 := (kg7s.alloc (.cells (bkV x A7 c7).toArray 32)).chg ch8 (fun e => by have := unhide HRO _ e; omega); have h1 : w8.cell? ⟨g, 1, none⟩ = some (.slice A' k c') := kg8.cell 1; have h2 : w8.frozen? ⟨g, 1, none⟩ = false := kg8.frozen 1))
     have b37 : Below wr.heap.size wr (w7.setCell ⟨wr.heap.size, 3, none⟩ (.slice A7 x.list.length c7)) := b57.trans (chS.below (fun q hq e => by omega) b57.size)
     have hx : bkO x (w7.setCell ⟨wr.heap.size, 3, none⟩ (.slice A7 x.list.length c7)) (bkV x A7 c7) (blk A7) := ⟨A7, c7, rfl, own_base0 o7s, rfl⟩
     have hfb : ∀ q ∈ blk A7, wr.heap.size ≤ q := fun q hq => by have := (blk_own o7s hq).2.1; have := b5.size; omega
     obtain ⟨hall8, hnd8, hF8, hown8⟩ := grow_step bkO_good bk_good hall hnd (unhide HF) hown hwr b37 hx (blk_nodup _) hfb ch8 d8 (by simpa [bkV] using o8)
     have chG : Chg (fun q => q = g) w8 (w8.setCell ⟨g, 1, none⟩ (.slice A8 (k + 1) c8)) := (Chg.refl (fun q => q = g) w8).setCell (p := ⟨g, 1, none⟩) (.inl rfl) _
     have hall9 := hall8.keep bkO_good (w' := w8.setCell ⟨g, 1, none⟩ (.slice A8 (k + 1) c8)) (fun q hq hqw => chG.block q hqw (fun e => by have := (hF8 q hq).1; omega))
     have hrg8 := own_rng hown8
     have hown9 := own_chg hown8 chG (fun q hq e => by have := hrg8 q hq; omega)
     have kg9 : Blk (w8.setCell ⟨g, 1, none⟩ (.slice A8 (k + 1) c8)) g 69 #[.slice B1 t.base.length d1, .slice A8 (k + 1) c8, .slice B3 t.before.length d3] := kg8.set_ 1 _
     have hr1 := unhide HR1
     have hr3 := unhide HR3
     have far : ∀ q, q < W2.heap.size → ¬ A' = some ⟨q, 0, none⟩ := fun q hq e => by have := unhide HRO q e; omega
     have hga : ∀ q, W.heap.size ≤ q → q < W2.heap.size → q ≠ g → (w8.setCell ⟨g, 1, none⟩ (.slice A8 (k + 1) c8)).heap[q]? = wr.heap[q]? := fun q h1 h2 h3 => by
       have t1 := hs7
       have t2 := chS.size
       rw [chG.block q (by have := ch8.size; simp at this; omega) h3, ch8.block q (by simp; omega) (far q h2), Below.heap_alloc _ _ _ (by omega), chS.block q (by omega) (by omega), b57.block q (by omega)]
     have p19 := own_keep p1 (w' := w8.setCell ⟨g, 1, none⟩ (.slice A8 (k + 1) c8)) (fun q hq hqw => hga q (hr1 q hq).1 (hr1 q hq).2 (fun e => unhide HGA1 (by rw [← e]; exact hq)))
     have p39 := own_keep p3 (w' := w8.setCell ⟨g, 1, none⟩ (.slice A8 (k + 1) c8)) (fun q hq hqw => hga q (hr3 q hq).1 (hr3 q hq).2 (fun e => unhide HGA3 (by rw [← e]; exact hq)))
     have hsz9 : W2.heap.size ≤ (w8.setCell ⟨g, 1, none⟩ (.slice A8 (k + 1) c8)).heap.size := by have := ch8.size; have := chG.size; have := chS.size; simp at *; omega
     have hB9 : Below W.heap.size W (w8.setCell ⟨g, 1, none⟩ (.slice A8 (k + 1) c8)) := ((((bthen hB b57).trans (chS.below (fun q hq e => by omega) (by omega))).alloc (by have := chS.size; omega) _).trans (ch8.below (fun q hq e => by have := unhide HRO q e; omega) (by have := chS.size; simp; omega))).trans (chG.below (fun q hq e => by have := unhide HGW; omega) (by have := ch8.size; have := chS.size; simp at *; omega))
     have HF8h := hide hF8
     go_roundw
     case rel => exact ⟨k + 1, A8, c8, _, _, by omega, by go_num, by rw [unhide HT]; exact hall9, hnd8, HF8h, hown9, kg9, p19, p39, hsz9, hB9⟩
     case measure => simp [intOf]; omega
   · obtain rfl : k = t.blocks.length := by omega
     rw [List.take_length] at hall
     have hgd := grow_done hall hnd (unhide HF) hown
     have kR := unhide HK1 wr hB
     have hwW := hB.size
     go_wp2_with (refine wpList_store_row rfl 69 (.tmp 2) (.tmp 38) rfl (w.heap.size + 1) #[.slice B1 t.base.length d1, .slice A' t.blocks.length c', .slice B3 t.before.length d3] rfl rfl 69 #[.slice none 0 0, .slice none 0 0, .slice none 0 0] kR info_tr rfl (sl3_one _ _ _ _ _ _ _ _ _) ?_)
     refine bodyPost_ret (v := .agg #[.slice B1 t.base.length d1, .slice A' t.blocks.length c', .slice B3 t.before.length d3]) (results_cell_row (p := 2) (ty := 69) rfl _ _ (w.heap.size + 1) 69 #[.slice B1 t.base.length d1, .slice A' t.blocks.length c', .slice B3 t.before.length d3] (0, 0) _ rfl (blk_setRow kR) Tryz.underlying69 rfl info_tr) rfl ?_
     refine ⟨B1, d1, A', c', B3, d3, _, rfl, ⟨own_base (own_setRow p1 (by omega) _) (by omega), hgd.1.keep bkO_good (fun q hq _ => setRow_other wr (w.heap.size + 1) q _ (by have := hgd.2 q hq; omega)), own_base (own_setRow p3 (by omega) _) (by omega), fun q hq => by have := hgd.2 q hq; omega, fun q hq hq2 => ?_, unhide HA13, fun q hq hq2 => ?_⟩, below_setRow (bthen' hb0 hB) (by omega) _⟩
     · have := unhide HR1 q hq
       have := hgd.2 q hq2
       omega
     · have := unhide HR3 q hq
       have := hgd.2 q hq2
       omega
end Go.Proofs.YtihlhejencninaaGreat
namespace Go.Proofs.YtihlhejencninaaGreat
open Go.RowKit
set_option linter.unusedVariables false
set_option linter.unusedSimpArgs false

theorem el_bool : El Tryz.prog 71 4 1 1 := El.mk_ (z := .bool false) Tryz.underlying71 (by kernel_rfl) rfl (by omega)
theorem one_bools (zs : List Bool) : ∀ u ∈ zs.map Value.bool, u.oneCell' = true := by
 intro u hu
 obtain ⟨z, _, rfl⟩ := List.mem_map.1 hu
 rfl
end Go.Proofs.YtihlhejencninaaGreat
