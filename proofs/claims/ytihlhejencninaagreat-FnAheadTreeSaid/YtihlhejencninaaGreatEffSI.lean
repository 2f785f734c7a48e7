/- The sums of effects, of the program (printed by gen_in.py from xeffsi.in). -/
import Derived.Test.YtihlhejencninaaGreatEffSum
import Derived.Test.YtihlhejencninaaGreatConcat
import Derived.Test.YtihlhejencninaaGreatGact
import Derived.Test.YtihlhejencninaaGreatGmem
namespace Go.Proofs.YtihlhejencninaaGreat
open Go.RowKit
set_option linter.unusedVariables false
set_option linter.unusedSimpArgs false

set_option maxRecDepth 100000 in
set_option maxHeartbeats 4000000 in
theorem effectSum_impl (x : Eff) (A1 : Option Addr) (c1 : Nat) (A2 : Option Addr) (c2 : Nat) (w : World) (h1 : Rd w A1 (x.reads.flatMap encE)) (h2 : Rd w A2 (x.writes.flatMap encE)) (hb1 : x.reads.length ≤ 400000) (hb2 : x.writes.length ≤ 400000) :
   Calls Tryz.prog 102 #[.agg #[.bool x.done, .slice A1 x.reads.length c1, .slice A2 x.writes.length c2]] w fun e w' => e = .returned (.int .i64 (effSum x)) ∧ Below w.heap.size w w' := by
 obtain ⟨dn, rs, ws⟩ := x
 simp only at h1 h2 hb1 hb2 ⊢
 cases dn
 · have HS := hide (show effSum ⟨false, rs, ws⟩ = sumF 3 ([0, (rs.length : Int)] ++ (rs ++ ws).flatMap entN) from by simp [effSum, effL])
   have k0 : Blk (w.alloc (.cells #[.bool false, .slice A1 rs.length c1, .slice A2 ws.length c2] 107)) w.heap.size 107 #[.bool false, .slice A1 rs.length c1, .slice A2 ws.length c2] := Blk.new _ _ _
   have om : ((w.alloc (.cells #[.bool false, .slice A1 rs.length c1, .slice A2 ws.length c2] 107)).alloc (.cells #[.int .i64 0, .int .i64 (rs.length : Int)] 3)).ownsRow (w.heap.size + 1) 3 1 (.slice (some ⟨w.heap.size + 1, 0, none⟩) 2 2) 2 [.int .i64 0, .int .i64 (rs.length : Int)] := by
     have := own_made (base := w.heap.size + 1) (e := 3) (size := 1) (w.alloc (.cells #[.bool false, .slice A1 rs.length c1, .slice A2 ws.length c2] 107)) #[.int .i64 0, .int .i64 (rs.length : Int)] 2 (by simp) (by simp [maxLen]) rfl
     simpa using this
   have bm : Below w.heap.size w ((w.alloc (.cells #[.bool false, .slice A1 rs.length c1, .slice A2 ws.length c2] 107)).alloc (.cells #[.int .i64 0, .int .i64 (rs.length : Int)] 3)) := ((Below.refl _ _).alloc (Nat.le_refl _) _).alloc (by simp) _
   have x1 : (w.alloc (.cells #[.bool false, .slice A1 rs.length c1, .slice A2 ws.length c2] 107)).cell? ⟨w.heap.size, 1, none⟩ = some (.slice A1 rs.length c1) := k0.cell 1
   have kw : Blk ((w.alloc (.cells #[.bool false, .slice A1 rs.length c1, .slice A2 ws.length c2] 107)).alloc (.cells #[.int .i64 0, .int .i64 (rs.length : Int)] 3)) w.heap.size 107 #[.bool false, .slice A1 rs.length c1, .slice A2 ws.length c2] := k0.alloc _
   have y1 : ((w.alloc (.cells #[.bool false, .slice A1 rs.length c1, .slice A2 ws.length c2] 107)).alloc (.cells #[.int .i64 0, .int .i64 (rs.length : Int)] 3)).cell? ⟨w.heap.size, 1, none⟩ = some (.slice A1 rs.length c1) := kw.cell 1
   have y2 : ((w.alloc (.cells #[.bool false, .slice A1 rs.length c1, .slice A2 ws.length c2] 107)).alloc (.cells #[.int .i64 0, .int .i64 (rs.length : Int)] 3)).cell? ⟨w.heap.size, 2, none⟩ = some (.slice A2 ws.length c2) := kw.cell 2
   obtain ⟨W, hW⟩ : ∃ W : World, W = ((w.alloc (.cells #[.bool false, .slice A1 rs.length c1, .slice A2 ws.length c2] 107)).alloc (.cells #[.int .i64 0, .int .i64 (rs.length : Int)] 3)).alloc (.cells #[.slice A1 rs.length c1, .slice A2 ws.length c2] 34) := ⟨_, rfl⟩
   have bl : Below w.heap.size w W := by rw [hW]; exact bm.alloc (by simp; omega) _
   have ol : W.ownsRow (w.heap.size + 1) 3 1 (.slice (some ⟨w.heap.size + 1, 0, none⟩) 2 2) 2 [.int .i64 0, .int .i64 (rs.length : Int)] := by rw [hW]; exact own_alloc om _
   have rl : Rd W (some ⟨w.heap.size + 2, 0, none⟩) [.slice A1 rs.length c1, .slice A2 ws.length c2] := by rw [hW]; exact rd_at _ [.slice A1 rs.length c1, .slice A2 ws.length c2] _ (by simp)
   have KC := concatE_any (some ⟨w.heap.size + 2, 0, none⟩) 2 A1 A2 c1 c2 rs ws W rl (h1.new bl) (h2.new bl) hb1 hb2
   clear h1 h2 kw k0 om bm rl
   go_enter Tryz.func102, Tryz.ntmps102
   go_wp2_with fail
   rw [← hW]
   refine KC.mono ?_
   rintro e w3 ⟨A, c, rfl, oc, b3⟩
   have o3 := own_new ol b3
   have oz := own_base0 oc
   have B3 := bthen bl b3
   clear KC hW oc b3 ol bl x1 y1 y2
   have hzl : (rs ++ ws).length ≤ 800000 := by rw [List.length_append]; omega
   generalize rs ++ ws = zs at *
   go_wp2
   go_loopw [3, 5, 21] (fun ns _ i wr => ∃ (k : Nat) (A' : Option Addr) (c' : Nat), k ≤ zs.length ∧ i = .int .i64 k ∧ ns = .slice A' (2 + 2 * k) c' ∧ wr.ownsRow (w.heap.size + 1) 3 1 (.slice A' (2 + 2 * k) c') (2 + 2 * k) (([0, (rs.length : Int)] ++ (zs.take k).flatMap entN).map (.int .i64)) ∧ wr.ownsRow 0 79 2 (.slice A zs.length c) zs.length (zs.flatMap encE) ∧ Below w.heap.size w wr ∧ w.heap.size + 1 ≤ wr.heap.size) (fun _ _ i _ => zs.length - (intOf i).toNat)
   case atStart => exact ⟨0, _, _, Nat.zero_le _, rfl, rfl, by simpa using o3, oz, B3, by have := own_rng o3 _ rfl; omega⟩
   case round =>
     clear o3 oz B3
     obtain ⟨k, A', c', hk, rfl, rfl, hown, oz, hB, hsz1⟩ := hrel
     have hsz := hB.size
     by_cases hlt : k < zs.length
     · obtain ⟨bq, offq, hAe, hbb, q0, q1⟩ := (own_rd oz).ent hlt
       have HT := hide (entN_take [0, (rs.length : Int)] zs k hlt)
       have hne := own_ne hown oz (by decide)
       generalize zs[k] = en at *
       have i1 : (k : Int) < (zs.length : Int) := by omega
       have HAE := hide hAe
       have HOZ := hide (fun (w' : World) (b : Below wr.heap.size wr w') => own_new oz b)
       have hrg := own_rng hown
       clear oz hAe
       rw [unhide HAE]
       go_wp2_with (at_builtin; refine wpList_app rfl (.tmp 25) (.tmp 30) 26 rfl el_int rfl (own_alloc (own_alloc hown _) _) rfl (rd_at (s := wr.heap.size + 1) _ [.int .i64 en.k, .int .i64 en.v] _ (by simp)) rfl (one_ints [en.k, en.v]) (by simp only [maxLen]; omega) (by omega) (by simp; omega) ?_; intro A8 c8 w8 o8 ch8 d8 _)
       have hB8 : Below w.heap.size w w8 := ((hB.alloc hsz _).alloc (by simp; omega) _).trans (ch8.below (fun q hq e => by have := hrg q e; omega) (by simp; omega))
       have oz8 := own_chg (own_alloc (own_alloc (unhide HOZ wr (Below.refl _ _)) (.cells #[.int .i64 en.k, .int .i64 en.v] 79)) (.cells #[.int .i64 en.k, .int .i64 en.v] 3)) ch8 (fun q h1 h2 => hne q h2 h1)
       have hs8 := ch8.size
       go_roundw
       case rel => exact ⟨k + 1, A8, c8, by omega, by go_num, by simp; omega, by rw [← unhide HT]; simpa [Nat.mul_add, Nat.add_assoc] using o8, by rw [← unhide HAE]; exact oz8, hB8, by simp at hs8; omega⟩
       case measure => simp [intOf]; omega
     · obtain rfl : k = zs.length := by omega
       rw [List.take_length] at hown
       have hlen : ([0, (rs.length : Int)] ++ zs.flatMap entN).length = 2 + 2 * zs.length := by rw [List.length_append, entN_len]; rfl
       have KS := sum_impl 3 A' c' ([0, (rs.length : Int)] ++ zs.flatMap entN) wr (own_rd hown) (by omega)
       rw [hlen, ← unhide HS] at KS
       clear hlen
       go_wp2_with fail
       refine KS.mono ?_
       rintro e w' ⟨rfl, rfl⟩
       go_wp2
       go_ret
       exact ⟨rfl, hB⟩
 · have HS := hide (show effSum ⟨true, rs, ws⟩ = sumF 3 ([1, (rs.length : Int)] ++ (rs ++ ws).flatMap entN) from by simp [effSum, effL])
   have k0 : Blk (w.alloc (.cells #[.bool true, .slice A1 rs.length c1, .slice A2 ws.length c2] 107)) w.heap.size 107 #[.bool true, .slice A1 rs.length c1, .slice A2 ws.length c2] := Blk.new _ _ _
   have om : ((w.alloc (.cells #[.bool true, .slice A1 rs.length c1, .slice A2 ws.length c2] 107)).alloc (.cells #[.int .i64 1, .int .i64 (rs.length : Int)] 3)).ownsRow (w.heap.size + 1) 3 1 (.slice (some ⟨w.heap.size + 1, 0, none⟩) 2 2) 2 [.int .i64 1, .int .i64 (rs.length : Int)] := by
     have := own_made (base := w.heap.size + 1) (e := 3) (size := 1) (w.alloc (.cells #[.bool true, .slice A1 rs.length c1, .slice A2 ws.length c2] 107)) #[.int .i64 1, .int .i64 (rs.length : Int)] 2 (by simp) (by simp [maxLen]) rfl
     simpa using this
   have bm : Below w.heap.size w ((w.alloc (.cells #[.bool true, .slice A1 rs.length c1, .slice A2 ws.length c2] 107)).alloc (.cells #[.int .i64 1, .int .i64 (rs.length : Int)] 3)) := ((Below.refl _ _).alloc (Nat.le_refl _) _).alloc (by simp) _
   have x1 : (w.alloc (.cells #[.bool true, .slice A1 rs.length c1, .slice A2 ws.length c2] 107)).cell? ⟨w.heap.size, 1, none⟩ = some (.slice A1 rs.length c1) := k0.cell 1
   have kw : Blk ((w.alloc (.cells #[.bool true, .slice A1 rs.length c1, .slice A2 ws.length c2] 107)).alloc (.cells #[.int .i64 1, .int .i64 (rs.length : Int)] 3)) w.heap.size 107 #[.bool true, .slice A1 rs.length c1, .slice A2 ws.length c2] := k0.alloc _
   have y1 : ((w.alloc (.cells #[.bool true, .slice A1 rs.length c1, .slice A2 ws.length c2] 107)).alloc (.cells #[.int .i64 1, .int .i64 (rs.length : Int)] 3)).cell? ⟨w.heap.size, 1, none⟩ = some (.slice A1 rs.length c1) := kw.cell 1
   have y2 : ((w.alloc (.cells #[.bool true, .slice A1 rs.length c1, .slice A2 ws.length c2] 107)).alloc (.cells #[.int .i64 1, .int .i64 (rs.length : Int)] 3)).cell? ⟨w.heap.size, 2, none⟩ = some (.slice A2 ws.length c2) := kw.cell 2
   obtain ⟨W, hW⟩ : ∃ W : World, W = ((w.alloc (.cells #[.bool true, .slice A1 rs.length c1, .slice A2 ws.length c2] 107)).alloc (.cells #[.int .i64 1, .int .i64 (rs.length : Int)] 3)).alloc (.cells #[.slice A1 rs.length c1, .slice A2 ws.length c2] 34) := ⟨_, rfl⟩
   have bl : Below w.heap.size w W := by rw [hW]; exact bm.alloc (by simp; omega) _
   have ol : W.ownsRow (w.heap.size + 1) 3 1 (.slice (some ⟨w.heap.size + 1, 0, none⟩) 2 2) 2 [.int .i64 1, .int .i64 (rs.length : Int)] := by rw [hW]; exact own_alloc om _
   have rl : Rd W (some ⟨w.heap.size + 2, 0, none⟩) [.slice A1 rs.length c1, .slice A2 ws.length c2] := by rw [hW]; exact rd_at _ [.slice A1 rs.length c1, .slice A2 ws.length c2] _ (by simp)
   have KC := concatE_any (some ⟨w.heap.size + 2, 0, none⟩) 2 A1 A2 c1 c2 rs ws W rl (h1.new bl) (h2.new bl) hb1 hb2
   clear h1 h2 kw k0 om bm rl
   go_enter Tryz.func102, Tryz.ntmps102
   go_wp2_with fail
   rw [← hW]
   refine KC.mono ?_
   rintro e w3 ⟨A, c, rfl, oc, b3⟩
   have o3 := own_new ol b3
   have oz := own_base0 oc
   have B3 := bthen bl b3
   clear KC hW oc b3 ol bl x1 y1 y2
   have hzl : (rs ++ ws).length ≤ 800000 := by rw [List.length_append]; omega
   generalize rs ++ ws = zs at *
   go_wp2
   go_loopw [3, 5, 21] (fun ns _ i wr => ∃ (k : Nat) (A' : Option Addr) (c' : Nat), k ≤ zs.length ∧ i = .int .i64 k ∧ ns = .slice A' (2 + 2 * k) c' ∧ wr.ownsRow (w.heap.size + 1) 3 1 (.slice A' (2 + 2 * k) c') (2 + 2 * k) (([1, (rs.length : Int)] ++ (zs.take k).flatMap entN).map (.int .i64)) ∧ wr.ownsRow 0 79 2 (.slice A zs.length c) zs.length (zs.flatMap encE) ∧ Below w.heap.size w wr ∧ w.heap.size + 1 ≤ wr.heap.size) (fun _ _ i _ => zs.length - (intOf i).toNat)
   case atStart => exact ⟨0, _, _, Nat.zero_le _, rfl, rfl, by simpa using o3, oz, B3, by have := own_rng o3 _ rfl; omega⟩
   case round =>
     clear o3 oz B3
     obtain ⟨k, A', c', hk, rfl, rfl, hown, oz, hB, hsz1⟩ := hrel
     have hsz := hB.size
     by_cases hlt : k < zs.length
     · obtain ⟨bq, offq, hAe, hbb, q0, q1⟩ := (own_rd oz).ent hlt
       have HT := hide (entN_take [1, (rs.length : Int)] zs k hlt)
       have hne := own_ne hown oz (by decide)
       generalize zs[k] = en at *
       have i1 : (k : Int) < (zs.length : Int) := by omega
       have HAE := hide hAe
       have HOZ := hide (fun (w' : World) (b : Below wr.heap.size wr w') => own_new oz b)
       have hrg := own_rng hown
       clear oz hAe
       rw [unhide HAE]
       go_wp2_with (at_builtin; refine wpList_app rfl (.tmp 25) (.tmp 30) 26 rfl el_int rfl (own_alloc (own_alloc hown _) _) rfl (rd_at (s := wr.heap.size + 1) _ [.int .i64 en.k, .int .i64 en.v] _ (by simp)) rfl (one_ints [en.k, en.v]) (by simp only [maxLen]; omega) (by omega) (by simp; omega) ?_; intro A8 c8 w8 o8 ch8 d8 _)
       have hB8 : Below w.heap.size w w8 := ((hB.alloc hsz _).alloc (by simp; omega) _).trans (ch8.below (fun q hq e => by have := hrg q e; omega) (by simp; omega))
       have oz8 := own_chg (own_alloc (own_alloc (unhide HOZ wr (Below.refl _ _)) (.cells #[.int .i64 en.k, .int .i64 en.v] 79)) (.cells #[.int .i64 en.k, .int .i64 en.v] 3)) ch8 (fun q h1 h2 => hne q h2 h1)
       have hs8 := ch8.size
       go_roundw
       case rel => exact ⟨k + 1, A8, c8, by omega, by go_num, by simp; omega, by rw [← unhide HT]; simpa [Nat.mul_add, Nat.add_assoc] using o8, by rw [← unhide HAE]; exact oz8, hB8, by simp at hs8; omega⟩
       case measure => simp [intOf]; omega
     · obtain rfl : k = zs.length := by omega
       rw [List.take_length] at hown
       have hlen : ([1, (rs.length : Int)] ++ zs.flatMap entN).length = 2 + 2 * zs.length := by rw [List.length_append, entN_len]; rfl
       have KS := sum_impl 3 A' c' ([1, (rs.length : Int)] ++ zs.flatMap entN) wr (own_rd hown) (by omega)
       rw [hlen, ← unhide HS] at KS
       clear hlen
       go_wp2_with fail
       refine KS.mono ?_
       rintro e w' ⟨rfl, rfl⟩
       go_wp2
       go_ret
       exact ⟨rfl, hB⟩
set_option maxRecDepth 100000 in
set_option maxHeartbeats 4000000 in
theorem effectsSum_impl (A : Option Addr) (c : Nat) (es : List Eff) (P : Nat → Prop) (w : World) (h : RdD effR P w A es) (hb : es.length ≤ 1000000) (hbs : ∀ x ∈ es, x.reads.length ≤ 400000 ∧ x.writes.length ≤ 400000) :
   Calls Tryz.prog 55 #[.slice A es.length c] w fun e w' => e = .returned (.int .i64 (effsSum es)) ∧ Below w.heap.size w w' := by
 have HBS := hide hbs
 clear hbs
 by_cases hl : es.length ≤ 10
 · have HS := hide (show effsSum es = sumF 4 (es.map effSum) by rw [effsSum, if_pos hl])
   have i2 : ¬ (10 : Int) < (es.length : Int) := by omega
   clear hl
   go_enter Tryz.func55, Tryz.ntmps55
   go_wp2
   go_loopw [3, 5, 11] (fun ns _ i wr => ∃ (k : Nat) (A' : Option Addr) (c' : Nat), k ≤ es.length ∧ i = .int .i64 k ∧ ns = .slice A' k c' ∧ wr.ownsRow w.heap.size 3 1 (.slice A' k c') k (((es.take k).map effSum).map (.int .i64)) ∧ Below w.heap.size w wr) (fun _ _ i _ => es.length - (intOf i).toNat)
   case atStart => exact ⟨0, none, 0, Nat.zero_le _, rfl, rfl, own_nil _ _ _ _, Below.refl _ _⟩
   case round =>
     obtain ⟨k, A', c', hk, rfl, rfl, hown, hB⟩ := hrel
     have hsz := hB.size
     by_cases hlt : k < es.length
     · have i1 : (k : Int) < (es.length : Int) := by omega
       obtain ⟨b, off, A1, c1, A2, c2, hAe, hbP, hbb, d0, d1, d2, hl1, hl2, r1, r2⟩ := (h.new eff_good hB).eff hlt
       have hbx := unhide HBS es[k] (List.getElem_mem hlt)
       have HT := hide (show (es.take (k + 1)).map effSum = (es.take k).map effSum ++ [effSum es[k]] by rw [List.take_succ_eq_append_getElem hlt, List.map_append]; rfl)
       generalize es[k] = x at *
       have HAE := hide hAe
       clear hAe hl1 hl2 hbP
       have KE := effectSum_impl x A1 c1 A2 c2 (wr.alloc (.cells #[.bool x.done, .slice A1 x.reads.length c1, .slice A2 x.writes.length c2] 107)) (r1.rd.new ((Below.refl _ _).alloc (Nat.le_refl _) _)) (r2.rd.new ((Below.refl _ _).alloc (Nat.le_refl _) _)) hbx.1 hbx.2
       rw [unhide HAE]
       go_wp2_with fail
       refine KE.mono ?_
       rintro e w3 ⟨rfl, b3⟩
       clear KE
       have o3 := own_new (own_alloc hown (.cells #[.bool x.done, .slice A1 x.reads.length c1, .slice A2 x.writes.length c2] 107)) b3
       have hB3 := bthen (hB.alloc hsz (.cells #[.bool x.done, .slice A1 x.reads.length c1, .slice A2 x.writes.length c2] 107)) b3
       have hs3 := hB3.size
       have hrg := own_rng hown
       clear b3
       generalize effSum x = z at *
       go_wp2_with (at_builtin; refine wpList_app rfl (.tmp 15) (.tmp 18) 26 rfl el_int rfl (own_alloc o3 _) rfl (rd_lit w3 [.int .i64 z] _) rfl (one_ints [z]) (by simp only [maxLen]; omega) (by omega) (by simp; omega) ?_; intro A8 c8 w8 o8 ch8 d8 _)
       have hB8 : Below w.heap.size w w8 := (hB3.alloc (by omega) _).trans (ch8.below (fun q hq e => by have := hrg q e; omega) (by simp; omega))
       go_roundw
       case rel => exact ⟨k + 1, A8, c8, by omega, by go_num, rfl, by rw [unhide HT, List.map_append]; simpa using o8, hB8⟩
       case measure => simp [intOf]; omega
     · obtain rfl : k = es.length := by omega
       rw [List.take_length] at hown
       have KS := sum_impl 4 A' c' (es.map effSum) wr (own_rd hown) (by rw [List.length_map]; omega)
       rw [List.length_map, ← unhide HS] at KS
       go_wp2_with fail
       refine KS.mono ?_
       rintro e w' ⟨rfl, rfl⟩
       go_wp2
       go_ret
       exact ⟨rfl, hB⟩
 · have HS := hide (show effsSum es = -1 by rw [effsSum, if_neg hl])
   have i2 : (10 : Int) < (es.length : Int) := by omega
   clear hl
   go_enter Tryz.func55, Tryz.ntmps55
   go_wp2
   go_ret
   exact ⟨reti (unhide HS).symm, Below.refl _ _⟩
end Go.Proofs.YtihlhejencninaaGreat
