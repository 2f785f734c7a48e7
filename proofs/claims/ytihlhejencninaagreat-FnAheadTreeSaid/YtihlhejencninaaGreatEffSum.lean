/- The sums of effects, of the reference (printed by gen_in.py from xeffsum.in). -/
import Derived.Test.YtihlhejencninaaGreatGtree
import Derived.Test.YtihlhejencninaaGreatGeff
namespace Go.Proofs.YtihlhejencninaaGreat
open Go.RowKit
set_option linter.unusedVariables false
set_option linter.unusedSimpArgs false

def entN (x : Ent) : List Int := [x.k, x.v]
def effL (e : Eff) : List Int := [if e.done = true then 1 else 0, (e.reads.length : Int)] ++ e.reads.flatMap entN ++ e.writes.flatMap entN
/-- the sum of an effect -/
def effSum (e : Eff) : Int := sumF 3 (effL e)
theorem entN_len (xs : List Ent) : (xs.flatMap entN).length = 2 * xs.length := by
 induction xs with
 | nil => rfl
 | cons x xs ih => rw [List.flatMap_cons, List.length_append, ih, List.length_cons]; simp [entN]; omega
theorem entN_take (pre : List Int) (xs : List Ent) (k : Nat) (hk : k < xs.length) : (pre ++ (xs.take k).flatMap entN).map (Value.int .i64) ++ [.int .i64 xs[k].k, .int .i64 xs[k].v] = (pre ++ (xs.take (k + 1)).flatMap entN).map (Value.int .i64) := by
 rw [List.take_succ_eq_append_getElem hk, List.flatMap_append]
 simp [entN]
set_option maxRecDepth 100000 in
set_option maxHeartbeats 8000000 in
theorem effectSum_spec (x : Eff) (A1 : Option Addr) (c1 : Nat) (A2 : Option Addr) (c2 : Nat) (w : World) (h1 : Rd w A1 (x.reads.flatMap encE)) (h2 : Rd w A2 (x.writes.flatMap encE)) (hb1 : x.reads.length ≤ 1000000) (hb2 : x.writes.length ≤ 1000000) :
   Calls Tryz.prog 95 #[.agg #[.bool x.done, .slice A1 x.reads.length c1, .slice A2 x.writes.length c2]] w fun e w' => e = .returned (.int .i64 (effSum x)) ∧ Below w.heap.size w w' := by
 obtain ⟨dn, rs, ws⟩ := x
 simp only at h1 h2 hb1 hb2 ⊢
 cases dn
 · have HS := hide (show effSum ⟨false, rs, ws⟩ = sumF 3 ([0, (rs.length : Int)] ++ rs.flatMap entN ++ ws.flatMap entN) from by simp [effSum, effL])
   have k0 : Blk ((w.alloc (.cells #[.bool false, .slice A1 rs.length c1, .slice A2 ws.length c2] 107)).alloc (.cells #[.int .i64 0, .int .i64 (rs.length : Int)] 3)) w.heap.size 107 #[.bool false, .slice A1 rs.length c1, .slice A2 ws.length c2] := (Blk.new _ _ _).alloc _
   have om : ((w.alloc (.cells #[.bool false, .slice A1 rs.length c1, .slice A2 ws.length c2] 107)).alloc (.cells #[.int .i64 0, .int .i64 (rs.length : Int)] 3)).ownsRow (w.heap.size + 1) 3 1 (.slice (some ⟨w.heap.size + 1, 0, none⟩) 2 2) 2 [.int .i64 0, .int .i64 (rs.length : Int)] := by
     have := own_made (base := w.heap.size + 1) (e := 3) (size := 1) (w.alloc (.cells #[.bool false, .slice A1 rs.length c1, .slice A2 ws.length c2] 107)) #[.int .i64 0, .int .i64 (rs.length : Int)] 2 (by simp) (by simp [maxLen]) rfl
     simpa using this
   have bm : Below w.heap.size w ((w.alloc (.cells #[.bool false, .slice A1 rs.length c1, .slice A2 ws.length c2] 107)).alloc (.cells #[.int .i64 0, .int .i64 (rs.length : Int)] 3)) := ((Below.refl _ _).alloc (Nat.le_refl _) _).alloc (by simp) _
   have x0 : ((w.alloc (.cells #[.bool false, .slice A1 rs.length c1, .slice A2 ws.length c2] 107)).alloc (.cells #[.int .i64 0, .int .i64 (rs.length : Int)] 3)).cell? ⟨w.heap.size, 0, none⟩ = some (.bool false) := k0.cell 0
   have x1 : (w.alloc (.cells #[.bool false, .slice A1 rs.length c1, .slice A2 ws.length c2] 107)).cell? ⟨w.heap.size, 1, none⟩ = some (.slice A1 rs.length c1) := (Blk.new w 107 #[.bool false, .slice A1 rs.length c1, .slice A2 ws.length c2]).cell 1
   go_enter Tryz.func95, Tryz.ntmps95
   go_wp2
   go_loopw [3, 4] (fun ns i wr => ∃ (k : Nat) (A' : Option Addr) (c' : Nat), k ≤ rs.length ∧ i = .int .i64 k ∧ ns = .slice A' (2 + 2 * k) c' ∧ wr.ownsRow (w.heap.size + 1) 3 1 (.slice A' (2 + 2 * k) c') (2 + 2 * k) (([0, (rs.length : Int)] ++ (rs.take k).flatMap entN).map (.int .i64)) ∧ w.heap.size + 1 ≤ wr.heap.size ∧ Blk wr w.heap.size 107 #[.bool false, .slice A1 rs.length c1, .slice A2 ws.length c2] ∧ Below w.heap.size w wr) (fun _ i _ => rs.length - (intOf i).toNat)
   case atStart => exact ⟨0, _, _, Nat.zero_le _, rfl, rfl, by simpa using om, by simp, k0, bm⟩
   case round =>
     clear om k0 bm x0 x1
     obtain ⟨k, A', c', hk, rfl, rfl, hown, hwr, kb, hB⟩ := hrel
     have y0 : wr.cell? ⟨w.heap.size, 0, none⟩ = some _ := kb.cell 0
     have y1 : wr.cell? ⟨w.heap.size, 1, none⟩ = some (.slice A1 rs.length c1) := kb.cell 1
     have y2 : wr.cell? ⟨w.heap.size, 2, none⟩ = some (.slice A2 ws.length c2) := kb.cell 2
     by_cases hlt : k < rs.length
     · have i1 : (k : Int) < (rs.length : Int) := by omega
       obtain ⟨bq, offq, hAe, hbb, q0, q1⟩ := (h1.new hB).ent hlt
       have HT := hide (entN_take [0, (rs.length : Int)] rs k hlt)
       generalize rs[k] = en at *
       have HAE := hide hAe
       have HX := hide (fun (w' : World) (hb : Below wr.heap.size wr w') => show w'.cell? ⟨w.heap.size, 1, none⟩ = some (.slice A1 rs.length c1) ∧ w'.cell? ⟨bq, offq + k * 2, none⟩ = some (.int .i64 en.k) ∧ w'.cell? ⟨bq, offq + k * 2 + 1, none⟩ = some (.int .i64 en.v) from ⟨(kb.new_ hb).cell 1, (hb.cell (p := ⟨bq, offq + k * 2, none⟩) hbb).trans q0, (hb.cell (p := ⟨bq, offq + k * 2 + 1, none⟩) hbb).trans q1⟩)
       clear hAe q0 q1
       go_wp2
       have hF : StBL [bV (.slice A' (2 + 2 * k) c'), bV (.pointer (some ⟨w.heap.size, 1, none⟩)), bV (.slice (some ⟨bq, offq, none⟩) rs.length c1), bV (.int .i64 (k : Int)), bV (.pointer (some ⟨bq, offq + k * 2, none⟩)), bV (.pointer (some ⟨bq, offq + k * 2 + 0, none⟩)), bV (.int .i64 en.k), bV (.pointer (some ⟨w.heap.size, 1, none⟩)), bV (.slice (some ⟨bq, offq, none⟩) rs.length c1), bV (.int .i64 (k : Int)), bV (.pointer (some ⟨bq, offq + k * 2, none⟩)), bV (.pointer (some ⟨bq, offq + k * 2 + 1, none⟩)), bV (.int .i64 en.v), bRowN wr.heap.size 2 [en.k, en.v]] :=
         ⟨sb_V _, sb_V _, sb_V _, sb_V _, sb_V _, sb_V _, sb_V _, sb_V _, sb_V _, sb_V _, sb_V _, sb_V _, sb_V _, sb_RowN _ _ _, trivial⟩
       go_upto_region 7 with fail
       refine wp_region_loc (by kernel_rfl) [(0, some 21), (1, some 22), (2, some 23), (3, some 24), (4, some 25), (5, some 26), (6, some 27), (7, some 28), (8, some 29), (9, some 30), (10, some 31), (11, some 32), (12, some 33), (13, some 34)] [[], [], [(1, some 22)], [], [(2, some 23), (3, some 24)], [(4, some 25)], [(5, some 26)], [], [(7, some 28)], [], [(8, some 29), (9, some 30)], [(10, some 31)], [(11, some 32)], [(6, some 27), (12, some 33)]] (by kernel_rfl)
         (locB _) (fun a b => Below a.heap.size a b) noR [0, 0, 0, 0, 0, 0, 0, 0, 0, 0, 0, 0, 0, 0] 0 (by kernel_rfl) (fun _ => Below.refl _ _) (fun _ _ _ => bthen) (locB_st hF _) trivial ?_ ?_
       · refine steps_cons ?s0 ( steps_cons ?s1 ( steps_cons ?s2 ( steps_cons ?s3 ( steps_cons ?s4 ( steps_cons ?s5 ( steps_cons ?s6 ( steps_cons ?s7 ( steps_cons ?s8 ( steps_cons ?s9 ( steps_cons ?s10 ( steps_cons ?s11 ( steps_cons ?s12 ( steps_cons ?s13 steps_nil)))))))))))))
         case s0 | s1 | s3 | s7 | s9 =>
           intro w' m' hE hR
           intro Q hQ
           go_wp2
           exact hQ _ _ _ rfl rfl (Below.refl _ _) trivial
         case s2 | s8 =>
           intro w' m' hE hR
           rintro _ rfl Q hQ
           obtain ⟨s1, s2, s3⟩ := unhide HX w' (below_undrew hE)
           rw [unhide HAE] at s1
           go_wp2
           exact hQ _ _ _ rfl rfl (Below.refl _ _) trivial
         case s4 | s10 =>
           intro w' m' hE hR
           rintro _ rfl _ rfl Q hQ
           go_wp2
           exact hQ _ _ _ rfl rfl (Below.refl _ _) trivial
         case s5 | s11 =>
           intro w' m' hE hR
           rintro _ rfl Q hQ
           go_wp2
           exact hQ _ _ _ rfl rfl (Below.refl _ _) trivial
         case s6 | s12 =>
           intro w' m' hE hR
           rintro _ rfl Q hQ
           obtain ⟨s1, s2, s3⟩ := unhide HX w' (below_undrew hE)
           go_wp2
           exact hQ _ _ _ rfl rfl (Below.refl _ _) trivial
         case s13 =>
           intro w' m' hE hR
           rintro _ rfl _ rfl Q hQ
           have hsz := hE.size
           go_wp2
           exact hQ _ _ _ rfl ⟨w'.heap.size, rfl, hsz, Blk.new _ _ _⟩ ((Below.refl _ _).alloc (Nat.le_refl _) _) trivial
       intro w9 hE _
       rintro v0 hv0 v1 - v2 - v3 - v4 - v5 - v6 - v7 - v8 - v9 - v10 - v11 - v12 - v13 ⟨ql, rfl, hql, kl⟩
       obtain rfl : v0 = _ := hv0
       change wpList _ _ _ [_, _] _ _
       simp only [Act.put, List.setIfInBounds_toArray, List.set_cons_succ, List.set_cons_zero]
       have b9 := below_undrew hE
       have o9 := own_new hown b9
       have hs9 := b9.size
       have hrg := own_rng hown
       go_wp2_with (at_builtin; refine wpList_app rfl (.tmp 21) (.tmp 34) 26 rfl el_int rfl o9 rfl (blk_rd kl) rfl (one_ints [en.k, en.v]) (by simp only [maxLen]; omega) (by omega) (by omega) ?_; intro A8 c8 w8 o8 ch8 d8 _)
       have kb8 := (kb.new_ b9).chg ch8 (fun e => by have := hrg _ e; omega)
       have hs8 := ch8.size
       have hB8 : Below w.heap.size w w8 := (bthen hB b9).trans (ch8.below (fun q hq e => by have := hrg q e; omega) (by omega))
       go_roundw
       case rel => exact ⟨k + 1, A8, c8, by omega, by go_num, by simp; omega, by rw [← unhide HT]; simpa [Nat.mul_add, Nat.add_assoc] using o8, by omega, kb8, hB8⟩
       case measure => simp [intOf]; omega
     · obtain rfl : k = rs.length := by omega
       rw [List.take_length] at hown
       have HP := hide (own_rng hown)
       go_wp2
       go_loopw [3, 5] (fun ns i wr => ∃ (k : Nat) (A' : Option Addr) (c' : Nat), k ≤ ws.length ∧ i = .int .i64 k ∧ ns = .slice A' ((2 + 2 * rs.length) + 2 * k) c' ∧ wr.ownsRow (w.heap.size + 1) 3 1 (.slice A' ((2 + 2 * rs.length) + 2 * k) c') ((2 + 2 * rs.length) + 2 * k) ((([0, (rs.length : Int)] ++ rs.flatMap entN) ++ (ws.take k).flatMap entN).map (.int .i64)) ∧ w.heap.size + 1 ≤ wr.heap.size ∧ Blk wr w.heap.size 107 #[.bool false, .slice A1 rs.length c1, .slice A2 ws.length c2] ∧ Below w.heap.size w wr) (fun _ i _ => ws.length - (intOf i).toNat)
       case atStart => exact ⟨0, _, _, Nat.zero_le _, rfl, rfl, by simpa using hown, hwr, kb, hB⟩
       case round =>
         clear hown kb hB hwr y0 y1 y2
         obtain ⟨k, A', c', hk, rfl, rfl, hown, hwr, kb, hB⟩ := hrel
         have y0 : wr.cell? ⟨w.heap.size, 0, none⟩ = some _ := kb.cell 0
         have y1 : wr.cell? ⟨w.heap.size, 1, none⟩ = some (.slice A1 rs.length c1) := kb.cell 1
         have y2 : wr.cell? ⟨w.heap.size, 2, none⟩ = some (.slice A2 ws.length c2) := kb.cell 2
         by_cases hlt : k < ws.length
         · have i1 : (k : Int) < (ws.length : Int) := by omega
           obtain ⟨bq, offq, hAe, hbb, q0, q1⟩ := (h2.new hB).ent hlt
           have HT := hide (entN_take ([0, (rs.length : Int)] ++ rs.flatMap entN) ws k hlt)
           generalize ws[k] = en at *
           have HAE := hide hAe
           have HX := hide (fun (w' : World) (hb : Below wr.heap.size wr w') => show w'.cell? ⟨w.heap.size, 2, none⟩ = some (.slice A2 ws.length c2) ∧ w'.cell? ⟨bq, offq + k * 2, none⟩ = some (.int .i64 en.k) ∧ w'.cell? ⟨bq, offq + k * 2 + 1, none⟩ = some (.int .i64 en.v) from ⟨(kb.new_ hb).cell 2, (hb.cell (p := ⟨bq, offq + k * 2, none⟩) hbb).trans q0, (hb.cell (p := ⟨bq, offq + k * 2 + 1, none⟩) hbb).trans q1⟩)
           clear hAe q0 q1
           go_wp2
           have hF : StBL [bV (.slice A' ((2 + 2 * rs.length) + 2 * k) c'), bV (.pointer (some ⟨w.heap.size, 2, none⟩)), bV (.slice (some ⟨bq, offq, none⟩) ws.length c2), bV (.int .i64 (k : Int)), bV (.pointer (some ⟨bq, offq + k * 2, none⟩)), bV (.pointer (some ⟨bq, offq + k * 2 + 0, none⟩)), bV (.int .i64 en.k), bV (.pointer (some ⟨w.heap.size, 2, none⟩)), bV (.slice (some ⟨bq, offq, none⟩) ws.length c2), bV (.int .i64 (k : Int)), bV (.pointer (some ⟨bq, offq + k * 2, none⟩)), bV (.pointer (some ⟨bq, offq + k * 2 + 1, none⟩)), bV (.int .i64 en.v), bRowN wr.heap.size 2 [en.k, en.v]] :=
             ⟨sb_V _, sb_V _, sb_V _, sb_V _, sb_V _, sb_V _, sb_V _, sb_V _, sb_V _, sb_V _, sb_V _, sb_V _, sb_V _, sb_RowN _ _ _, trivial⟩
           go_upto_region 11 with fail
           refine wp_region_loc (by kernel_rfl) [(0, some 43), (1, some 44), (2, some 45), (3, some 46), (4, some 47), (5, some 48), (6, some 49), (7, some 50), (8, some 51), (9, some 52), (10, some 53), (11, some 54), (12, some 55), (13, some 56)] [[], [], [(1, some 44)], [], [(2, some 45), (3, some 46)], [(4, some 47)], [(5, some 48)], [], [(7, some 50)], [], [(8, some 51), (9, some 52)], [(10, some 53)], [(11, some 54)], [(6, some 49), (12, some 55)]] (by kernel_rfl)
             (locB _) (fun a b => Below a.heap.size a b) noR [0, 0, 0, 0, 0, 0, 0, 0, 0, 0, 0, 0, 0, 0] 0 (by kernel_rfl) (fun _ => Below.refl _ _) (fun _ _ _ => bthen) (locB_st hF _) trivial ?_ ?_
           · refine steps_cons ?s0 ( steps_cons ?s1 ( steps_cons ?s2 ( steps_cons ?s3 ( steps_cons ?s4 ( steps_cons ?s5 ( steps_cons ?s6 ( steps_cons ?s7 ( steps_cons ?s8 ( steps_cons ?s9 ( steps_cons ?s10 ( steps_cons ?s11 ( steps_cons ?s12 ( steps_cons ?s13 steps_nil)))))))))))))
             case s0 | s1 | s3 | s7 | s9 =>
               intro w' m' hE hR
               intro Q hQ
               go_wp2
               exact hQ _ _ _ rfl rfl (Below.refl _ _) trivial
             case s2 | s8 =>
               intro w' m' hE hR
               rintro _ rfl Q hQ
               obtain ⟨s1, s2, s3⟩ := unhide HX w' (below_undrew hE)
               rw [unhide HAE] at s1
               go_wp2
               exact hQ _ _ _ rfl rfl (Below.refl _ _) trivial
             case s4 | s10 =>
               intro w' m' hE hR
               rintro _ rfl _ rfl Q hQ
               go_wp2
               exact hQ _ _ _ rfl rfl (Below.refl _ _) trivial
             case s5 | s11 =>
               intro w' m' hE hR
               rintro _ rfl Q hQ
               go_wp2
               exact hQ _ _ _ rfl rfl (Below.refl _ _) trivial
             case s6 | s12 =>
               intro w' m' hE hR
               rintro _ rfl Q hQ
               obtain ⟨s1, s2, s3⟩ := unhide HX w' (below_undrew hE)
               go_wp2
               exact hQ _ _ _ rfl rfl (Below.refl _ _) trivial
             case s13 =>
               intro w' m' hE hR
               rintro _ rfl _ rfl Q hQ
               have hsz := hE.size
               go_wp2
               exact hQ _ _ _ rfl ⟨w'.heap.size, rfl, hsz, Blk.new _ _ _⟩ ((Below.refl _ _).alloc (Nat.le_refl _) _) trivial
           intro w9 hE _
           rintro v0 hv0 v1 - v2 - v3 - v4 - v5 - v6 - v7 - v8 - v9 - v10 - v11 - v12 - v13 ⟨ql, rfl, hql, kl⟩
           obtain rfl : v0 = _ := hv0
           change wpList _ _ _ [_, _] _ _
           simp only [Act.put, List.setIfInBounds_toArray, List.set_cons_succ, List.set_cons_zero]
           have b9 := below_undrew hE
           have o9 := own_new hown b9
           have hs9 := b9.size
           have hrg := own_rng hown
           go_wp2_with (at_builtin; refine wpList_app rfl (.tmp 43) (.tmp 56) 26 rfl el_int rfl o9 rfl (blk_rd kl) rfl (one_ints [en.k, en.v]) (by simp only [maxLen]; omega) (by omega) (by omega) ?_; intro A8 c8 w8 o8 ch8 d8 _)
           have kb8 := (kb.new_ b9).chg ch8 (fun e => by have := hrg _ e; omega)
           have hs8 := ch8.size
           have hB8 : Below w.heap.size w w8 := (bthen hB b9).trans (ch8.below (fun q hq e => by have := hrg q e; omega) (by omega))
           go_roundw
           case rel => exact ⟨k + 1, A8, c8, by omega, by go_num, by simp; omega, by rw [← unhide HT]; simpa [Nat.mul_add, Nat.add_assoc] using o8, by omega, kb8, hB8⟩
           case measure => simp [intOf]; omega
         · obtain rfl : k = ws.length := by omega
           rw [List.take_length] at hown
           have hlen : (([0, (rs.length : Int)] ++ rs.flatMap entN) ++ ws.flatMap entN).length = 2 + 2 * rs.length + 2 * ws.length := by rw [List.length_append, List.length_append, entN_len, entN_len]; rfl
           have hrd := own_rd hown
           have KS := sumOf_spec 3 A' c' (([0, (rs.length : Int)] ++ rs.flatMap entN) ++ ws.flatMap entN) wr hrd (by omega)
           rw [hlen, ← unhide HS] at KS
           have HLEN := hide hlen
           clear hlen
           go_wp2_with fail
           refine KS.mono ?_
           rintro e w' ⟨rfl, rfl⟩
           go_wp2
           go_ret
           exact ⟨rfl, hB⟩
 · have HS := hide (show effSum ⟨true, rs, ws⟩ = sumF 3 ([1, (rs.length : Int)] ++ rs.flatMap entN ++ ws.flatMap entN) from by simp [effSum, effL])
   have k0 : Blk ((w.alloc (.cells #[.bool true, .slice A1 rs.length c1, .slice A2 ws.length c2] 107)).alloc (.cells #[.int .i64 1, .int .i64 (rs.length : Int)] 3)) w.heap.size 107 #[.bool true, .slice A1 rs.length c1, .slice A2 ws.length c2] := (Blk.new _ _ _).alloc _
   have om : ((w.alloc (.cells #[.bool true, .slice A1 rs.length c1, .slice A2 ws.length c2] 107)).alloc (.cells #[.int .i64 1, .int .i64 (rs.length : Int)] 3)).ownsRow (w.heap.size + 1) 3 1 (.slice (some ⟨w.heap.size + 1, 0, none⟩) 2 2) 2 [.int .i64 1, .int .i64 (rs.length : Int)] := by
     have := own_made (base := w.heap.size + 1) (e := 3) (size := 1) (w.alloc (.cells #[.bool true, .slice A1 rs.length c1, .slice A2 ws.length c2] 107)) #[.int .i64 1, .int .i64 (rs.length : Int)] 2 (by simp) (by simp [maxLen]) rfl
     simpa using this
   have bm : Below w.heap.size w ((w.alloc (.cells #[.bool true, .slice A1 rs.length c1, .slice A2 ws.length c2] 107)).alloc (.cells #[.int .i64 1, .int .i64 (rs.length : Int)] 3)) := ((Below.refl _ _).alloc (Nat.le_refl _) _).alloc (by simp) _
   have x0 : ((w.alloc (.cells #[.bool true, .slice A1 rs.length c1, .slice A2 ws.length c2] 107)).alloc (.cells #[.int .i64 1, .int .i64 (rs.length : Int)] 3)).cell? ⟨w.heap.size, 0, none⟩ = some (.bool true) := k0.cell 0
   have x1 : (w.alloc (.cells #[.bool true, .slice A1 rs.length c1, .slice A2 ws.length c2] 107)).cell? ⟨w.heap.size, 1, none⟩ = some (.slice A1 rs.length c1) := (Blk.new w 107 #[.bool true, .slice A1 rs.length c1, .slice A2 ws.length c2]).cell 1
   have om0 : ((w.alloc (.cells #[.bool true, .slice A1 rs.length c1, .slice A2 ws.length c2] 107)).alloc (.cells #[.int .i64 0, .int .i64 (rs.length : Int)] 3)).ownsRow (w.heap.size + 1) 3 1 (.slice (some ⟨w.heap.size + 1, 0, none⟩) 2 2) 2 [.int .i64 0, .int .i64 (rs.length : Int)] := by
     have := own_made (base := w.heap.size + 1) (e := 3) (size := 1) (w.alloc (.cells #[.bool true, .slice A1 rs.length c1, .slice A2 ws.length c2] 107)) #[.int .i64 0, .int .i64 (rs.length : Int)] 2 (by simp) (by simp [maxLen]) rfl
     simpa using this
   have z0 : ((w.alloc (.cells #[.bool true, .slice A1 rs.length c1, .slice A2 ws.length c2] 107)).alloc (.cells #[.int .i64 0, .int .i64 (rs.length : Int)] 3)).cell? ⟨w.heap.size + 1, 0, none⟩ = some (.int .i64 0) := own_cell om0 0 (by simp)
   have z1 : ((w.alloc (.cells #[.bool true, .slice A1 rs.length c1, .slice A2 ws.length c2] 107)).alloc (.cells #[.int .i64 0, .int .i64 (rs.length : Int)] 3)).frozen? ⟨w.heap.size + 1, 0, none⟩ = false := own_frozen om0 0
   have z2 : ((w.alloc (.cells #[.bool true, .slice A1 rs.length c1, .slice A2 ws.length c2] 107)).alloc (.cells #[.int .i64 0, .int .i64 (rs.length : Int)] 3)).cell? ⟨w.heap.size, 0, none⟩ = some (.bool true) := ((Blk.new w 107 #[.bool true, .slice A1 rs.length c1, .slice A2 ws.length c2]).alloc _).cell 0
   go_enter Tryz.func95, Tryz.ntmps95
   go_wp2
   go_loopw [3, 4] (fun ns i wr => ∃ (k : Nat) (A' : Option Addr) (c' : Nat), k ≤ rs.length ∧ i = .int .i64 k ∧ ns = .slice A' (2 + 2 * k) c' ∧ wr.ownsRow (w.heap.size + 1) 3 1 (.slice A' (2 + 2 * k) c') (2 + 2 * k) (([1, (rs.length : Int)] ++ (rs.take k).flatMap entN).map (.int .i64)) ∧ w.heap.size + 1 ≤ wr.heap.size ∧ Blk wr w.heap.size 107 #[.bool true, .slice A1 rs.length c1, .slice A2 ws.length c2] ∧ Below w.heap.size w wr) (fun _ i _ => rs.length - (intOf i).toNat)
   case atStart => exact ⟨0, _, _, Nat.zero_le _, rfl, rfl, by simpa using om, by simp, k0, bm⟩
   case round =>
     clear om k0 bm x0 x1 om0 z0 z1 z2
     obtain ⟨k, A', c', hk, rfl, rfl, hown, hwr, kb, hB⟩ := hrel
     have y0 : wr.cell? ⟨w.heap.size, 0, none⟩ = some _ := kb.cell 0
     have y1 : wr.cell? ⟨w.heap.size, 1, none⟩ = some (.slice A1 rs.length c1) := kb.cell 1
     have y2 : wr.cell? ⟨w.heap.size, 2, none⟩ = some (.slice A2 ws.length c2) := kb.cell 2
     by_cases hlt : k < rs.length
     · have i1 : (k : Int) < (rs.length : Int) := by omega
       obtain ⟨bq, offq, hAe, hbb, q0, q1⟩ := (h1.new hB).ent hlt
       have HT := hide (entN_take [1, (rs.length : Int)] rs k hlt)
       generalize rs[k] = en at *
       have HAE := hide hAe
       have HX := hide (fun (w' : World) (hb : Below wr.heap.size wr w') => show w'.cell? ⟨w.heap.size, 1, none⟩ = some (.slice A1 rs.length c1) ∧ w'.cell? ⟨bq, offq + k * 2, none⟩ = some (.int .i64 en.k) ∧ w'.cell? ⟨bq, offq + k * 2 + 1, none⟩ = some (.int .i64 en.v) from ⟨(kb.new_ hb).cell 1, (hb.cell (p := ⟨bq, offq + k * 2, none⟩) hbb).trans q0, (hb.cell (p := ⟨bq, offq + k * 2 + 1, none⟩) hbb).trans q1⟩)
       clear hAe q0 q1
       go_wp2
       have hF : StBL [bV (.slice A' (2 + 2 * k) c'), bV (.pointer (some ⟨w.heap.size, 1, none⟩)), bV (.slice (some ⟨bq, offq, none⟩) rs.length c1), bV (.int .i64 (k : Int)), bV (.pointer (some ⟨bq, offq + k * 2, none⟩)), bV (.pointer (some ⟨bq, offq + k * 2 + 0, none⟩)), bV (.int .i64 en.k), bV (.pointer (some ⟨w.heap.size, 1, none⟩)), bV (.slice (some ⟨bq, offq, none⟩) rs.length c1), bV (.int .i64 (k : Int)), bV (.pointer (some ⟨bq, offq + k * 2, none⟩)), bV (.pointer (some ⟨bq, offq + k * 2 + 1, none⟩)), bV (.int .i64 en.v), bRowN wr.heap.size 2 [en.k, en.v]] :=
         ⟨sb_V _, sb_V _, sb_V _, sb_V _, sb_V _, sb_V _, sb_V _, sb_V _, sb_V _, sb_V _, sb_V _, sb_V _, sb_V _, sb_RowN _ _ _, trivial⟩
       go_upto_region 7 with fail
       refine wp_region_loc (by kernel_rfl) [(0, some 21), (1, some 22), (2, some 23), (3, some 24), (4, some 25), (5, some 26), (6, some 27), (7, some 28), (8, some 29), (9, some 30), (10, some 31), (11, some 32), (12, some 33), (13, some 34)] [[], [], [(1, some 22)], [], [(2, some 23), (3, some 24)], [(4, some 25)], [(5, some 26)], [], [(7, some 28)], [], [(8, some 29), (9, some 30)], [(10, some 31)], [(11, some 32)], [(6, some 27), (12, some 33)]] (by kernel_rfl)
         (locB _) (fun a b => Below a.heap.size a b) noR [0, 0, 0, 0, 0, 0, 0, 0, 0, 0, 0, 0, 0, 0] 0 (by kernel_rfl) (fun _ => Below.refl _ _) (fun _ _ _ => bthen) (locB_st hF _) trivial ?_ ?_
       · refine steps_cons ?s0 ( steps_cons ?s1 ( steps_cons ?s2 ( steps_cons ?s3 ( steps_cons ?s4 ( steps_cons ?s5 ( steps_cons ?s6 ( steps_cons ?s7 ( steps_cons ?s8 ( steps_cons ?s9 ( steps_cons ?s10 ( steps_cons ?s11 ( steps_cons ?s12 ( steps_cons ?s13 steps_nil)))))))))))))
         case s0 | s1 | s3 | s7 | s9 =>
           intro w' m' hE hR
           intro Q hQ
           go_wp2
           exact hQ _ _ _ rfl rfl (Below.refl _ _) trivial
         case s2 | s8 =>
           intro w' m' hE hR
           rintro _ rfl Q hQ
           obtain ⟨s1, s2, s3⟩ := unhide HX w' (below_undrew hE)
           rw [unhide HAE] at s1
           go_wp2
           exact hQ _ _ _ rfl rfl (Below.refl _ _) trivial
         case s4 | s10 =>
           intro w' m' hE hR
           rintro _ rfl _ rfl Q hQ
           go_wp2
           exact hQ _ _ _ rfl rfl (Below.refl _ _) trivial
         case s5 | s11 =>
           intro w' m' hE hR
           rintro _ rfl Q hQ
           go_wp2
           exact hQ _ _ _ rfl rfl (Below.refl _ _) trivial
         case s6 | s12 =>
           intro w' m' hE hR
           rintro _ rfl Q hQ
           obtain ⟨s1, s2, s3⟩ := unhide HX w' (below_undrew hE)
           go_wp2
           exact hQ _ _ _ rfl rfl (Below.refl _ _) trivial
         case s13 =>
           intro w' m' hE hR
           rintro _ rfl _ rfl Q hQ
           have hsz := hE.size
           go_wp2
           exact hQ _ _ _ rfl ⟨w'.heap.size, rfl, hsz, Blk.new _ _ _⟩ ((Below.refl _ _).alloc (Nat.le_refl _) _) trivial
       intro w9 hE _
       rintro v0 hv0 v1 - v2 - v3 - v4 - v5 - v6 - v7 - v8 - v9 - v10 - v11 - v12 - v13 ⟨ql, rfl, hql, kl⟩
       obtain rfl : v0 = _ := hv0
       change wpList _ _ _ [_, _] _ _
       simp only [Act.put, List.setIfInBounds_toArray, List.set_cons_succ, List.set_cons_zero]
       have b9 := below_undrew hE
       have o9 := own_new hown b9
       have hs9 := b9.size
       have hrg := own_rng hown
       go_wp2_with (at_builtin; refine wpList_app rfl (.tmp 21) (.tmp 34) 26 rfl el_int rfl o9 rfl (blk_rd kl) rfl (one_ints [en.k, en.v]) (by simp only [maxLen]; omega) (by omega) (by omega) ?_; intro A8 c8 w8 o8 ch8 d8 _)
       have kb8 := (kb.new_ b9).chg ch8 (fun e => by have := hrg _ e; omega)
       have hs8 := ch8.size
       have hB8 : Below w.heap.size w w8 := (bthen hB b9).trans (ch8.below (fun q hq e => by have := hrg q e; omega) (by omega))
       go_roundw
       case rel => exact ⟨k + 1, A8, c8, by omega, by go_num, by simp; omega, by rw [← unhide HT]; simpa [Nat.mul_add, Nat.add_assoc] using o8, by omega, kb8, hB8⟩
       case measure => simp [intOf]; omega
     · obtain rfl : k = rs.length := by omega
       rw [List.take_length] at hown
       have HP := hide (own_rng hown)
       go_wp2
       go_loopw [3, 5] (fun ns i wr => ∃ (k : Nat) (A' : Option Addr) (c' : Nat), k ≤ ws.length ∧ i = .int .i64 k ∧ ns = .slice A' ((2 + 2 * rs.length) + 2 * k) c' ∧ wr.ownsRow (w.heap.size + 1) 3 1 (.slice A' ((2 + 2 * rs.length) + 2 * k) c') ((2 + 2 * rs.length) + 2 * k) ((([1, (rs.length : Int)] ++ rs.flatMap entN) ++ (ws.take k).flatMap entN).map (.int .i64)) ∧ w.heap.size + 1 ≤ wr.heap.size ∧ Blk wr w.heap.size 107 #[.bool true, .slice A1 rs.length c1, .slice A2 ws.length c2] ∧ Below w.heap.size w wr) (fun _ i _ => ws.length - (intOf i).toNat)
       case atStart => exact ⟨0, _, _, Nat.zero_le _, rfl, rfl, by simpa using hown, hwr, kb, hB⟩
       case round =>
         clear hown kb hB hwr y0 y1 y2
         obtain ⟨k, A', c', hk, rfl, rfl, hown, hwr, kb, hB⟩ := hrel
         have y0 : wr.cell? ⟨w.heap.size, 0, none⟩ = some _ := kb.cell 0
         have y1 : wr.cell? ⟨w.heap.size, 1, none⟩ = some (.slice A1 rs.length c1) := kb.cell 1
         have y2 : wr.cell? ⟨w.heap.size, 2, none⟩ = some (.slice A2 ws.length c2) := kb.cell 2
         by_cases hlt : k < ws.length
         · have i1 : (k : Int) < (ws.length : Int) := by omega
           obtain ⟨bq, offq, hAe, hbb, q0, q1⟩ := (h2.new hB).ent hlt
           have HT := hide (entN_take ([1, (rs.length : Int)] ++ rs.flatMap entN) ws k hlt)
           generalize ws[k] = en at *
           have HAE := hide hAe
           have HX := hide (fun (w' : World) (hb : Below wr.heap.size wr w') => show w'.cell? ⟨w.heap.size, 2, none⟩ = some (.slice A2 ws.length c2) ∧ w'.cell? ⟨bq, offq + k * 2, none⟩ = some (.int .i64 en.k) ∧ w'.cell? ⟨bq, offq + k * 2 + 1, none⟩ = some (.int .i64 en.v) from ⟨(kb.new_ hb).cell 2, (hb.cell (p := ⟨bq, offq + k * 2, none⟩) hbb).trans q0, (hb.cell (p := ⟨bq, offq + k * 2 + 1, none⟩) hbb).trans q1⟩)
           clear hAe q0 q1
           go_wp2
           have hF : StBL [bV (.slice A' ((2 + 2 * rs.length) + 2 * k) c'), bV (.pointer (some ⟨w.heap.size, 2, none⟩)), bV (.slice (some ⟨bq, offq, none⟩) ws.length c2), bV (.int .i64 (k : Int)), bV (.pointer (some ⟨bq, offq + k * 2, none⟩)), bV (.pointer (some ⟨bq, offq + k * 2 + 0, none⟩)), bV (.int .i64 en.k), bV (.pointer (some ⟨w.heap.size, 2, none⟩)), bV (.slice (some ⟨bq, offq, none⟩) ws.length c2), bV (.int .i64 (k : Int)), bV (.pointer (some ⟨bq, offq + k * 2, none⟩)), bV (.pointer (some ⟨bq, offq + k * 2 + 1, none⟩)), bV (.int .i64 en.v), bRowN wr.heap.size 2 [en.k, en.v]] :=
             ⟨sb_V _, sb_V _, sb_V _, sb_V _, sb_V _, sb_V _, sb_V _, sb_V _, sb_V _, sb_V _, sb_V _, sb_V _, sb_V _, sb_RowN _ _ _, trivial⟩
           go_upto_region 11 with fail
           refine wp_region_loc (by kernel_rfl) [(0, some 43), (1, some 44), (2, some 45), (3, some 46), (4, some 47), (5, some 48), (6, some 49), (7, some 50), (8, some 51), (9, some 52), (10, some 53), (11, some 54), (12, some 55), (13, some 56)] [[], [], [(1, some 44)], [], [(2, some 45), (3, some 46)], [(4, some 47)], [(5, some 48)], [], [(7, some 50)], [], [(8, some 51), (9, some 52)], [(10, some 53)], [(11, some 54)], [(6, some 49), (12, some 55)]] (by kernel_rfl)
             (locB _) (fun a b => Below a.heap.size a b) noR [0, 0, 0, 0, 0, 0, 0, 0, 0, 0, 0, 0, 0, 0] 0 (by kernel_rfl) (fun _ => Below.refl _ _) (fun _ _ _ => bthen) (locB_st hF _) trivial ?_ ?_
           · refine steps_cons ?s0 ( steps_cons ?s1 ( steps_cons ?s2 ( steps_cons ?s3 ( steps_cons ?s4 ( steps_cons ?s5 ( steps_cons ?s6 ( steps_cons ?s7 ( steps_cons ?s8 ( steps_cons ?s9 ( steps_cons ?s10 ( steps_cons ?s11 ( steps_cons ?s12 ( steps_cons ?s13 steps_nil)))))))))))))
             case s0 | s1 | s3 | s7 | s9 =>
               intro w' m' hE hR
               intro Q hQ
               go_wp2
               exact hQ _ _ _ rfl rfl (Below.refl _ _) trivial
             case s2 | s8 =>
               intro w' m' hE hR
               rintro _ rfl Q hQ
               obtain ⟨s1, s2, s3⟩ := unhide HX w' (below_undrew hE)
               rw [unhide HAE] at s1
               go_wp2
               exact hQ _ _ _ rfl rfl (Below.refl _ _) trivial
             case s4 | s10 =>
               intro w' m' hE hR
               rintro _ rfl _ rfl Q hQ
               go_wp2
               exact hQ _ _ _ rfl rfl (Below.refl _ _) trivial
             case s5 | s11 =>
               intro w' m' hE hR
               rintro _ rfl Q hQ
               go_wp2
               exact hQ _ _ _ rfl rfl (Below.refl _ _) trivial
             case s6 | s12 =>
               intro w' m' hE hR
               rintro _ rfl Q hQ
               obtain ⟨s1, s2, s3⟩ := unhide HX w' (below_undrew hE)
               go_wp2
               exact hQ _ _ _ rfl rfl (Below.refl _ _) trivial
             case s13 =>
               intro w' m' hE hR
               rintro _ rfl _ rfl Q hQ
               have hsz := hE.size
               go_wp2
               exact hQ _ _ _ rfl ⟨w'.heap.size, rfl, hsz, Blk.new _ _ _⟩ ((Below.refl _ _).alloc (Nat.le_refl _) _) trivial
           intro w9 hE _
           rintro v0 hv0 v1 - v2 - v3 - v4 - v5 - v6 - v7 - v8 - v9 - v10 - v11 - v12 - v13 ⟨ql, rfl, hql, kl⟩
           obtain rfl : v0 = _ := hv0
           change wpList _ _ _ [_, _] _ _
           simp only [Act.put, List.setIfInBounds_toArray, List.set_cons_succ, List.set_cons_zero]
           have b9 := below_undrew hE
           have o9 := own_new hown b9
           have hs9 := b9.size
           have hrg := own_rng hown
           go_wp2_with (at_builtin; refine wpList_app rfl (.tmp 43) (.tmp 56) 26 rfl el_int rfl o9 rfl (blk_rd kl) rfl (one_ints [en.k, en.v]) (by simp only [maxLen]; omega) (by omega) (by omega) ?_; intro A8 c8 w8 o8 ch8 d8 _)
           have kb8 := (kb.new_ b9).chg ch8 (fun e => by have := hrg _ e; omega)
           have hs8 := ch8.size
           have hB8 : Below w.heap.size w w8 := (bthen hB b9).trans (ch8.below (fun q hq e => by have := hrg q e; omega) (by omega))
           go_roundw
           case rel => exact ⟨k + 1, A8, c8, by omega, by go_num, by simp; omega, by rw [← unhide HT]; simpa [Nat.mul_add, Nat.add_assoc] using o8, by omega, kb8, hB8⟩
           case measure => simp [intOf]; omega
         · obtain rfl : k = ws.length := by omega
           rw [List.take_length] at hown
           have hlen : (([1, (rs.length : Int)] ++ rs.flatMap entN) ++ ws.flatMap entN).length = 2 + 2 * rs.length + 2 * ws.length := by rw [List.length_append, List.length_append, entN_len, entN_len]; rfl
           have hrd := own_rd hown
           have KS := sumOf_spec 3 A' c' (([1, (rs.length : Int)] ++ rs.flatMap entN) ++ ws.flatMap entN) wr hrd (by omega)
           rw [hlen, ← unhide HS] at KS
           have HLEN := hide hlen
           clear hlen
           go_wp2_with fail
           refine KS.mono ?_
           rintro e w' ⟨rfl, rfl⟩
           go_wp2
           go_ret
           exact ⟨rfl, hB⟩
def effsSum (es : List Eff) : Int := if es.length ≤ 10 then sumF 4 (es.map effSum) else -1
set_option maxRecDepth 100000 in
set_option maxHeartbeats 4000000 in
theorem effectsSum_spec (A : Option Addr) (c : Nat) (es : List Eff) (P : Nat → Prop) (w : World) (h : RdD effR P w A es) (hb : es.length ≤ 1000000) (hbs : ∀ x ∈ es, x.reads.length ≤ 1000000 ∧ x.writes.length ≤ 1000000) :
   Calls Tryz.prog 50 #[.slice A es.length c] w fun e w' => e = .returned (.int .i64 (effsSum es)) ∧ Below w.heap.size w w' := by
 have HBS := hide hbs
 clear hbs
 have om := own_made (base := w.heap.size) (e := 3) (size := 1) w #[] 0 (Nat.le_refl _) (by simp [maxLen]) rfl
 have bm : Below w.heap.size w (w.alloc (.cells #[] 3)) := (Below.refl _ _).alloc (Nat.le_refl _) _
 go_enter Tryz.func50, Tryz.ntmps50
 go_wp2
 go_loopw [3, 4] (fun ns i wr => ∃ (k : Nat) (A' : Option Addr) (c' : Nat), k ≤ es.length ∧ i = .int .i64 k ∧ ns = .slice A' k c' ∧ wr.ownsRow w.heap.size 3 1 (.slice A' k c') k (((es.take k).map effSum).map (.int .i64)) ∧ Below w.heap.size w wr) (fun _ i _ => es.length - (intOf i).toNat)
 case atStart => exact ⟨0, _, _, Nat.zero_le _, rfl, rfl, by simpa using om, bm⟩
 case round =>
   clear om bm
   obtain ⟨k, A', c', hk, rfl, rfl, hown, hB⟩ := hrel
   have hsz := hB.size
   by_cases hlt : k < es.length
   · have i1 : (k : Int) < (es.length : Int) := by omega
     obtain ⟨b, off, A1, c1, A2, c2, hAe, hbP, hbb, d0, d1, d2, hl1, hl2, r1, r2⟩ := (h.new eff_good hB).eff hlt
     have hbx := unhide HBS es[k] (List.getElem_mem hlt)
     have HT := hide (show (es.take (k + 1)).map effSum = (es.take k).map effSum ++ [effSum es[k]] by rw [List.take_succ_eq_append_getElem hlt, List.map_append]; rfl)
     generalize es[k] = x at *
     have HAE := hide hAe
     clear hAe hl1 hl2 hbP
     rw [unhide HAE]
     go_wp2_with fail
     refine (effectSum_spec x A1 c1 A2 c2 wr r1.rd r2.rd hbx.1 hbx.2).mono ?_
     rintro e w3 ⟨rfl, b3⟩
     have o3 := own_new hown b3
     have hs3 := b3.size
     have hrg := own_rng hown
     generalize effSum x = z at *
     go_wp2_with (at_builtin; refine wpList_app rfl (.tmp 12) (.tmp 18) 26 rfl el_int rfl (own_alloc o3 _) rfl (rd_lit w3 [.int .i64 z] _) rfl (one_ints [z]) (by simp only [maxLen]; omega) (by omega) (by simp; omega) ?_; intro A8 c8 w8 o8 ch8 d8 _)
     have hB8 : Below w.heap.size w w8 := ((bthen hB b3).alloc (by omega) _).trans (ch8.below (fun q hq e => by have := hrg q e; omega) (by simp; omega))
     go_roundw
     case rel => exact ⟨k + 1, A8, c8, by omega, by go_num, rfl, by rw [unhide HT, List.map_append]; simpa using o8, hB8⟩
     case measure => simp [intOf]; omega
   · obtain rfl : k = es.length := by omega
     rw [List.take_length] at hown
     by_cases hl : es.length ≤ 10
     · have HS := hide (show effsSum es = sumF 4 (es.map effSum) by rw [effsSum, if_pos hl])
       have i2 : ¬ (10 : Int) < (es.length : Int) := by omega
       have KS := sumOf_spec 4 A' c' (es.map effSum) wr (own_rd hown) (by rw [List.length_map]; omega)
       rw [List.length_map, ← unhide HS] at KS
       clear hl
       go_wp2_with fail
       refine KS.mono ?_
       rintro e w' ⟨rfl, rfl⟩
       go_wp2
       go_ret
       exact ⟨rfl, hB⟩
     · have HS := hide (show effsSum es = -1 by rw [effsSum, if_neg hl])
       have i2 : (10 : Int) < (es.length : Int) := by omega
       clear hl
       go_wp2
       go_ret
       exact ⟨reti (unhide HS).symm, hB⟩
end Go.Proofs.YtihlhejencninaaGreat
