/- Is a block right over a store? Of the program (printed by gen_in.py from xrightb.in). -/
import Derived.Test.YtihlhejencninaaGreatEffSI
import Derived.Test.YtihlhejencninaaGreatBlkR
import Derived.Test.YtihlhejencninaaGreatGtree
import Derived.Test.YtihlhejencninaaGreatGloc
import Derived.Test.YtihlhejencninaaGreatGval
import Derived.Deep.Cut
namespace Go.Proofs.YtihlhejencninaaGreat
open Go.RowKit
set_option linter.unusedVariables false
set_option linter.unusedSimpArgs false

def bEnts (xs : List Ent) (v : Value) (w : World) : Prop := ∃ A c, v = .slice A xs.length c ∧ Rd w A (xs.flatMap encE)
theorem sb_Ents (xs : List Ent) : StB (bEnts xs) := fun _ _ _ hb ⟨A, c, h1, h2⟩ => ⟨A, c, h1, h2.new hb⟩
set_option maxRecDepth 100000 in
set_option maxHeartbeats 4000000 in
theorem blockRight_impl (x : Bk) (A : Option Addr) (c : Nat) (B : Option Addr) (cs : Nat) (s : List Ent) (w : World) (h : Rd w A (x.list.flatMap encA)) (hb : x.list.length ≤ 4611686018427387904) (hs : Rd w B (s.flatMap encE)) (hbs : s.length ≤ 4611686018427387904) :
   Calls Tryz.prog 21 #[.agg #[.int .i64 x.before, .int .i64 x.height, .int .i64 x.view, .slice A x.list.length c, .int .i64 x.root, .int .i64 x.eff], .slice B s.length cs] w fun e w' => e = .returned (.bool (blkRightB x s)) ∧ Below w.heap.size w w' := by
 have k0 := Blk.new w 32 #[.int .i64 x.before, .int .i64 x.height, .int .i64 x.view, .slice A x.list.length c, .int .i64 x.root, .int .i64 x.eff]
 have hb0 : Below w.heap.size w (w.alloc (.cells #[.int .i64 x.before, .int .i64 x.height, .int .i64 x.view, .slice A x.list.length c, .int .i64 x.root, .int .i64 x.eff] 32)) := (Below.refl _ _).alloc (Nat.le_refl _) _
 generalize hW : w.alloc (.cells #[.int .i64 x.before, .int .i64 x.height, .int .i64 x.view, .slice A x.list.length c, .int .i64 x.root, .int .i64 x.eff] 32) = W at *
 have KB := blockValid_impl x A c W (h.new hb0) hb
 have z0 : W.cell? ⟨w.heap.size, 0, none⟩ = some _ := k0.cell 0
 have z1 : W.cell? ⟨w.heap.size, 1, none⟩ = some _ := k0.cell 1
 have z2 : W.cell? ⟨w.heap.size, 2, none⟩ = some _ := k0.cell 2
 have z3 : W.cell? ⟨w.heap.size, 3, none⟩ = some _ := k0.cell 3
 have z4 : W.cell? ⟨w.heap.size, 4, none⟩ = some _ := k0.cell 4
 have z5 : W.cell? ⟨w.heap.size, 5, none⟩ = some _ := k0.cell 5
 cases hv : blkB x
 · have HR := hide (show blkRightB x s = false by simp [blkRightB, hv])
   go_enter Tryz.func21, Tryz.ntmps21
   subst hW
   go_wp2_with fail
   refine KB.mono ?_
   rintro e w1 ⟨rfl, b1⟩
   rw [hv]
   go_wp2
   go_ret
   exact ⟨retb (unhide HR).symm, bthen hb0 b1⟩
 cases hsv : storeB s
 · have HR := hide (show blkRightB x s = false by simp [blkRightB, hsv])
   go_enter Tryz.func21, Tryz.ntmps21
   subst hW
   go_wp2_with fail
   refine KB.mono ?_
   rintro e w1 ⟨rfl, b1⟩
   rw [hv]
   go_wp2_with fail
   refine (storeB_impl B cs s w1 (hs.new (bthen hb0 b1)) hbs).mono ?_
   rintro e w2 ⟨rfl, b2⟩
   rw [hsv]
   go_wp2
   go_ret
   exact ⟨retb (unhide HR).symm, bthen hb0 (bthen b1 b2)⟩
 have HR := hide (show blkRightB x s = (x.root == rootL (serialS s x.list) && x.eff == effsSum (serialE s x.list)) by simp [blkRightB, hv, hsv])
 go_enter Tryz.func21, Tryz.ntmps21
 subst hW
 go_wp2_with fail
 refine KB.mono ?_
 rintro e w1 ⟨rfl, b1⟩
 rw [hv]
 clear KB hv z0 z1 z2 z3 z4 z5
 go_wp2_with fail
 refine (storeB_impl B cs s w1 (hs.new (bthen hb0 b1)) hbs).mono ?_
 rintro e w2 ⟨rfl, b2⟩
 rw [hsv]
 clear hsv
 have b12 := bthen b1 b2
 have k2 := k0.new_ b12
 have hB2 := bthen hb0 b12
 have z3 : w2.cell? ⟨w.heap.size, 3, none⟩ = some _ := k2.cell 3
 clear b1 b2 b12 k0 hb0
 go_wp2_with fail
 refine (runSerial_impl B cs s A c x.list w2 (hs.new hB2) hbs (h.new hB2) hb).mono ?_
 rintro e w3 ⟨B1, e1, B2, e2, rfl, oS, -, rE, b3⟩
 have rS := own_rd oS
 have hl1 := serialS_len s x.list
 have hl2 := serialE_len s x.list
 have HES := hide (serialE_small s x.list)
 generalize serialS s x.list = ss at *
 generalize serialE s x.list = es at *
 have k3 := k2.new_ b3
 have hB3 := bthen hB2 b3
 have HX := hide (fun (w' : World) (b : Below w3.heap.size w3 w') => show w'.cell? ⟨w.heap.size, 4, none⟩ = some (.int .i64 x.root) ∧ w'.cell? ⟨w.heap.size, 5, none⟩ = some (.int .i64 x.eff) from ⟨(k3.new_ b).cell 4, (k3.new_ b).cell 5⟩)
 have HRS := hide (fun (w' : World) (b : Below w3.heap.size w3 w') => rS.new b)
 have HRE := hide (fun (w' : World) (b : Below w3.heap.size w3 w') => rE.new eff_good b)
 clear oS rS rE b3 k3 k2 z3 h hs hB2
 have KRT := hide (fun (w' : World) (b : Below w3.heap.size w3 w') => rootOf_impl B1 e1 ss w' (unhide HRS w' b) (by omega))
 have KEF := hide (fun (w' : World) (b : Below w3.heap.size w3 w') => effectsSum_impl B2 e2 es _ w' (unhide HRE w' b) (by omega) (fun z hz => by have := unhide HES z hz; omega))
 clear HRS HRE HES
 generalize rootL ss = r at *
 generalize effsSum es = ef at *
 have hrr : (r == r) = true := by simp
 by_cases hr : x.root = r
 · have HR2 := hide (show blkRightB x s = (x.eff == ef) by rw [unhide HR, hr]; simp)
   clear HR
   rw [hr] at HX
   clear hr
   have hF : StBL [bV (.pointer (some ⟨w.heap.size, 4, none⟩)), bV (.int .i64 r), bV (.slice B1 ss.length e1), bV (.int .i64 r), bV (.bool true), bV (.bool true), bV (.pointer (some ⟨w.heap.size, 5, none⟩)), bV (.int .i64 x.eff), bV (.slice B2 es.length e2), bV (.int .i64 ef)] :=
     ⟨sb_V _, sb_V _, sb_V _, sb_V _, sb_V _, sb_V _, sb_V _, sb_V _, sb_V _, sb_V _, trivial⟩
   go_upto_region 4 with fail
   refine wp_region_loc (by kernel_rfl) [(0, some 22), (1, some 23), (2, some 24), (3, some 25), (4, some 26), (5, some 27), (6, some 28), (7, some 29), (8, some 30), (9, some 31)] [[], [(0, some 22)], [], [(2, some 24)], [(1, some 23), (3, some 25)], [(4, some 26)], [(5, some 27)], [(5, some 27), (6, some 28)], [(5, some 27)], [(5, some 27), (8, some 30)]] (by kernel_rfl)
     (locB _) (fun a b => Below a.heap.size a b) noR [0, 0, 0, 0, 0, 0, 0, 0, 0, 0] 0 (by kernel_rfl) (fun _ => Below.refl _ _) (fun _ _ _ => bthen) (locB_st hF _) trivial ?_ ?_
   · refine steps_cons ?s0 ( steps_cons ?s1 ( steps_cons ?s2 ( steps_cons ?s3 ( steps_cons ?s4 ( steps_cons ?s5 ( steps_cons ?s6 ( steps_cons ?s7 ( steps_cons ?s8 ( steps_cons ?s9 steps_nil)))))))))
     case s0 | s2 =>
       intro w' m' hE hR
       intro Q hQ
       go_wp2
       exact hQ _ _ _ rfl rfl (Below.refl _ _) trivial
     case s1 =>
       intro w' m' hE hR
       rintro _ rfl Q hQ
       have bb := below_undrew hE
       obtain ⟨y0, y1⟩ := unhide HX w' bb
       go_wp2
       exact hQ _ _ _ rfl rfl (Below.refl _ _) trivial
     case s3 =>
       intro w' m' hE hR
       rintro _ rfl Q hQ
       have bb := below_undrew hE
       go_wp2_with fail
       refine (unhide KRT w' bb).mono ?_
       rintro e w5 ⟨rfl, b5⟩
       go_wp2
       exact hQ _ _ _ rfl rfl b5 trivial
     case s4 =>
       intro w' m' hE hR
       rintro _ rfl _ rfl Q hQ
       go_wp2
       exact hQ _ _ _ rfl rfl (Below.refl _ _) trivial
     case s5 | s6 | s8 =>
       intro w' m' hE hR
       rintro _ rfl Q hQ
       go_wp2
       exact hQ _ _ _ rfl rfl (Below.refl _ _) trivial
     case s7 =>
       intro w' m' hE hR
       rintro _ rfl _ rfl Q hQ
       have bb := below_undrew hE
       obtain ⟨y0, y1⟩ := unhide HX w' bb
       go_wp2
       exact hQ _ _ _ rfl rfl (Below.refl _ _) trivial
     case s9 =>
       intro w' m' hE hR
       rintro _ rfl _ rfl Q hQ
       have bb := below_undrew hE
       go_wp2_with fail
       refine (unhide KEF w' bb).mono ?_
       rintro e w5 ⟨rfl, b5⟩
       go_wp2
       exact hQ _ _ _ rfl rfl b5 trivial
   intro w9 hE _
   rintro v0 - v1 - v2 - v3 - v4 - v5 hv5 v6 - v7 hv7 v8 - v9 hv9
   obtain rfl : v5 = _ := hv5
   obtain rfl : v7 = _ := hv7
   obtain rfl : v9 = _ := hv9
   change wpList _ _ _ [_, _, _] _ _
   simp only [Act.put, List.setIfInBounds_toArray, List.set_cons_succ, List.set_cons_zero]
   have b9 := below_undrew hE
   clear hE hF
   go_wp2
   go_ret
   exact ⟨retb (unhide HR2).symm, bthen hB3 b9⟩
 · have HR2 := hide (show blkRightB x s = false by rw [unhide HR]; simp [hr])
   have hr2 : (x.root == r) = false := by simp [hr]
   clear HR
   have hF : StBL [bV (.pointer (some ⟨w.heap.size, 4, none⟩)), bV (.int .i64 x.root), bV (.slice B1 ss.length e1), bV (.int .i64 r), bV (.bool false), bV (.bool false), pV (fun _ => True), pV (fun _ => True), pV (fun _ => True), pV (fun _ => True)] :=
     ⟨sb_V _, sb_V _, sb_V _, sb_V _, sb_V _, sb_V _, fun _ _ _ _ h => h, fun _ _ _ _ h => h, fun _ _ _ _ h => h, fun _ _ _ _ h => h, trivial⟩
   go_upto_region 4 with fail
   refine wp_region_loc (by kernel_rfl) [(0, some 22), (1, some 23), (2, some 24), (3, some 25), (4, some 26), (5, some 27), (6, some 28), (7, some 29), (8, some 30), (9, some 31)] [[], [(0, some 22)], [], [(2, some 24)], [(1, some 23), (3, some 25)], [(4, some 26)], [(5, some 27)], [(5, some 27), (6, some 28)], [(5, some 27)], [(5, some 27), (8, some 30)]] (by kernel_rfl)
     (locB _) (fun a b => Below a.heap.size a b) noR [0, 0, 0, 0, 0, 0, 0, 0, 0, 0] 0 (by kernel_rfl) (fun _ => Below.refl _ _) (fun _ _ _ => bthen) (locB_st hF _) trivial ?_ ?_
   · refine steps_cons ?s0 ( steps_cons ?s1 ( steps_cons ?s2 ( steps_cons ?s3 ( steps_cons ?s4 ( steps_cons ?s5 ( steps_cons ?s6 ( steps_cons ?s7 ( steps_cons ?s8 ( steps_cons ?s9 steps_nil)))))))))
     case s0 | s2 =>
       intro w' m' hE hR
       intro Q hQ
       go_wp2
       exact hQ _ _ _ rfl rfl (Below.refl _ _) trivial
     case s1 =>
       intro w' m' hE hR
       rintro _ rfl Q hQ
       have bb := below_undrew hE
       obtain ⟨y0, y1⟩ := unhide HX w' bb
       go_wp2
       exact hQ _ _ _ rfl rfl (Below.refl _ _) trivial
     case s3 =>
       intro w' m' hE hR
       rintro _ rfl Q hQ
       have bb := below_undrew hE
       go_wp2_with fail
       refine (unhide KRT w' bb).mono ?_
       rintro e w5 ⟨rfl, b5⟩
       go_wp2
       exact hQ _ _ _ rfl rfl b5 trivial
     case s4 =>
       intro w' m' hE hR
       rintro _ rfl _ rfl Q hQ
       go_wp2
       exact hQ _ _ _ rfl rfl (Below.refl _ _) trivial
     case s5 =>
       intro w' m' hE hR
       rintro _ rfl Q hQ
       go_wp2
       exact hQ _ _ _ rfl rfl (Below.refl _ _) trivial
     case s6 | s8 =>
       intro w' m' hE hR
       rintro _ rfl Q hQ
       go_wp2
       exact hQ undef _ _ rfl trivial (Below.refl _ _) trivial
     case s7 | s9 =>
       intro w' m' hE hR
       rintro _ rfl _ - Q hQ
       go_wp2
       exact hQ undef _ _ rfl trivial (Below.refl _ _) trivial
   intro w9 hE _
   rintro v0 - v1 - v2 - v3 - v4 - v5 hv5 v6 - v7 - v8 - v9 -
   obtain rfl : v5 = _ := hv5
   change wpList _ _ _ [_, _, _] _ _
   simp only [Act.put, List.setIfInBounds_toArray, List.set_cons_succ, List.set_cons_zero]
   have b9 := below_undrew hE
   clear hE hF
   go_wp2
   go_ret
   exact ⟨retb (unhide HR2).symm, bthen hB3 b9⟩
end Go.Proofs.YtihlhejencninaaGreat
