/- Versions, of the program: read, without, withWrites. -/
import Derived.Test.YtihlhejencninaaGreatGeng
import Derived.Test.YtihlhejencninaaGreatGrun
import Derived.StillTailTactics
namespace Go.Proofs.YtihlhejencninaaGreat
open Go.RowKit
set_option linter.unusedVariables false
set_option linter.unusedSimpArgs false
attribute [local go_sem ↓] Go.wp_at_zero Go.wp_at_succ

theorem Rd.ver {w : World} {A : Option Addr} {es : List Ver} (h : Rd w A (es.flatMap encV)) {k : Nat} (hk : k < es.length) :
   ∃ b off, A = some ⟨b, off, none⟩ ∧ b < w.heap.size ∧ w.cell? ⟨b, off + k * 3, none⟩ = some (.int .i64 es[k].k) ∧ w.cell? ⟨b, off + k * 3 + 1, none⟩ = some (.int .i64 es[k].n) ∧ w.cell? ⟨b, off + k * 3 + 2, none⟩ = some (.int .i64 es[k].v) := by
 obtain ⟨b, off, e, hb, hc⟩ := h.flat encV 3 (fun _ => rfl) (by omega) hk
 exact ⟨b, off, e, hb, hc 0 _ rfl, hc 1 _ rfl, hc 2 _ rfl⟩
theorem info_ver : (Tryz.prog.info? 166).map (fun i => (i.zero, i.size, i.bytes)) = some (some (.agg #[.int .i64 0, .int .i64 0, .int .i64 0]), 3, 24) := by kernel_rfl
theorem el_ver : El Tryz.prog 93 166 3 24 := El.mk_ Tryz.underlying93 info_ver rfl (by omega)
theorem one_vers (es : List Ver) : ∀ u ∈ es.flatMap encV, u.oneCell' = true := by
 intro u hu
 obtain ⟨e, _, he⟩ := List.mem_flatMap.1 hu
 simp [encV] at he
 rcases he with rfl | rfl | rfl <;> rfl
set_option maxRecDepth 100000 in
set_option maxHeartbeats 1000000 in
theorem read_impl (s : List Ent) (v : List Int) (A : Option Addr) (c : Nat) (vs : List Ver) (key n : Int) (w : World) (hv : v.length = 32) (hat : atV v key = atL s key) (hk : 0 ≤ key ∧ key ≤ 31) (h : Rd w A (vs.flatMap encV)) (hb : vs.length ≤ 4611686018427387904) :
   Calls Tryz.prog 172 #[.agg (vA v), .slice A vs.length c, .int .i64 key, .int .i64 n] w fun e w' => e = .returned (.tuple #[.int .i64 (readV s vs key n).1, .int .i64 (readV s vs key n).2]) ∧ Below w.heap.size w w' := by
 obtain ⟨q, rfl⟩ := Int.eq_ofNat_of_zero_le hk.1
 have i1 : (q : Int) < 32 := by omega
 have i2 : q < 32 := by omega
 rw [atV_nat] at hat
 have HAT := hide hat
 have kv : Blk (w.alloc (.cells (vA v) 112)) w.heap.size 112 (vA v) := Blk.new _ _ _
 have cv := vA_get kv (show q < v.length by omega)
 have hgv : v.getD q 0 = v[q] := by simp [List.getD_eq_getElem?_getD, List.getElem?_eq_getElem (show q < v.length by omega)]
 have hsz : (vA v).size = 32 := by rw [vA_size, hv]
 have b0 : Below w.heap.size w (w.alloc (.cells (vA v) 112)) := (Below.refl _ _).alloc (Nat.le_refl _) _
 clear hat
 go_enter Tryz.func172, Tryz.ntmps172
 go_wp2
 go_loopw [10, 11, 19] (fun x y i wr => ∃ (k : Nat), k ≤ vs.length ∧ i = .int .i64 k ∧ x = .int .i64 (readV s (vs.take k) (q : Int) n).1 ∧ y = .int .i64 (readV s (vs.take k) (q : Int) n).2 ∧ Below w.heap.size w wr) (fun _ _ i _ => vs.length - (intOf i).toNat)
 case atStart => exact ⟨0, Nat.zero_le _, rfl, by rw [← hgv, unhide HAT]; rfl, rfl, b0⟩
 case round =>
   clear kv cv b0 hgv
   obtain ⟨k, hk, rfl, rfl, rfl, hB⟩ := hrel
   have hsz := hB.size
   by_cases hlt : k < vs.length
   · have i3 : (k : Int) < (vs.length : Int) := by omega
     obtain ⟨b, off, hA, hbb, d0, d1, d2⟩ := (h.new hB).ver hlt
     have hst : readV s (vs.take (k + 1)) (q : Int) n = rdStep (q : Int) n (readV s (vs.take k) (q : Int) n) vs[k] := by
       rw [List.take_succ_eq_append_getElem hlt]
       unfold readV
       rw [List.foldl_append]
       rfl
     generalize readV s (vs.take k) (q : Int) n = r at *
     generalize vs[k] = x at *
     have HA := hide hA
     clear hA
     rw [unhide HA]
     unfold rdStep at hst
     by_cases he : x.k = (q : Int)
     · have hk1 : (x.k == (q : Int)) = true := by simp [he]
       have HE := hide he
       by_cases hn : x.n < n
       · rw [if_pos ⟨he, hn⟩] at hst
         have HS := hide hst
         clear hst he
         go_wp2
         go_quiet (fail)
         go_wp2
         go_roundw
         case rel => exact ⟨k + 1, by omega, by go_num, by rw [unhide HS], by rw [unhide HS], below_drewN (hB.alloc hsz _) _⟩
         case measure => simp [intOf]; omega
       · rw [if_neg (fun g => hn g.2)] at hst
         have HS := hide hst
         clear hst he
         go_wp2
         go_roundw
         case rel => exact ⟨k + 1, by omega, by go_num, by rw [unhide HS], by rw [unhide HS], hB.alloc hsz _⟩
         case measure => simp [intOf]; omega
     · rw [if_neg (fun g => he g.1)] at hst
       have HS := hide hst
       have hk1 : (x.k == (q : Int)) = false := by simp [he]
       clear hst he
       go_wp2
       go_roundw
       case rel => exact ⟨k + 1, by omega, by go_num, by rw [unhide HS], by rw [unhide HS], hB.alloc hsz _⟩
       case measure => simp [intOf]; omega
   · obtain rfl : k = vs.length := by omega
     rw [List.take_length]
     go_wp2
     go_ret2
     exact ⟨rfl, hB⟩
set_option maxRecDepth 100000 in
set_option maxHeartbeats 1000000 in
theorem without_impl (A : Option Addr) (c : Nat) (vs : List Ver) (n : Int) (w : World) (h : Rd w A (vs.flatMap encV)) (hb : vs.length ≤ 1000000) :
   Calls Tryz.prog 169 #[.slice A vs.length c, .int .i64 n] w fun e w' => ∃ A' c', e = .returned (.slice A' (dropV vs n).length c') ∧ w'.ownsRow w.heap.size 166 3 (.slice A' (dropV vs n).length c') (dropV vs n).length ((dropV vs n).flatMap encV) ∧ Below w.heap.size w w' := by
 go_enter Tryz.func169, Tryz.ntmps169
 go_wp2
 go_loopw [5, 10] (fun r i wr => ∃ (k : Nat) (A' : Option Addr) (c' : Nat), k ≤ vs.length ∧ i = .int .i64 k ∧ r = .slice A' (dropV (vs.take k) n).length c' ∧ wr.ownsRow w.heap.size 166 3 (.slice A' (dropV (vs.take k) n).length c') (dropV (vs.take k) n).length ((dropV (vs.take k) n).flatMap encV) ∧ Below w.heap.size w wr) (fun _ i _ => vs.length - (intOf i).toNat)
 case atStart => exact ⟨0, none, 0, Nat.zero_le _, rfl, rfl, own_nil _ _ _ _, Below.refl _ _⟩
 case round =>
   obtain ⟨k, A', c', hk, rfl, rfl, hown, hB⟩ := hrel
   have hsz := hB.size
   by_cases hlt : k < vs.length
   · have i1 : (k : Int) < (vs.length : Int) := by omega
     obtain ⟨b, off, hA, hbb, d0, d1, d2⟩ := (h.new hB).ver hlt
     have hst : dropV (vs.take (k + 1)) n = dropV (vs.take k) n ++ (if vs[k].n = n then [] else [vs[k]]) := by
       rw [List.take_succ_eq_append_getElem hlt]
       unfold dropV
       rw [List.filter_append]
       congr 1
       by_cases e : vs[k].n = n <;> simp [e]
     have hgl : (dropV (vs.take k) n).length ≤ k := Nat.le_trans (dropV_len _ _) (by rw [List.length_take]; omega)
     generalize dropV (vs.take k) n = gs at *
     generalize vs[k] = x at *
     have HA := hide hA
     clear hA
     rw [unhide HA]
     by_cases he : x.n = n
     · rw [if_pos he, List.append_nil] at hst
       have HS := hide hst
       have hn : (x.n != n) = false := by simp [he]
       clear hst he
       go_wp2
       go_roundw
       case rel => exact ⟨k + 1, A', c', by omega, by go_num, by rw [unhide HS], by rw [unhide HS]; exact own_alloc hown _, hB.alloc hsz _⟩
       case measure => simp [intOf]; omega
     · rw [if_neg he] at hst
       have HS := hide hst
       have hn : (x.n != n) = true := by simp [he]
       clear hst
       have HE := hide he
       clear he
       have hrg := own_rng hown
       go_wp2_with (at_builtin; refine wpList_app rfl (.tmp 18) (.tmp 20) 93 rfl el_ver rfl (own_alloc (own_alloc hown _) _) rfl (rd_at (s := wr.heap.size + 1) _ [.int .i64 x.k, .int .i64 x.n, .int .i64 x.v] _ (by simp)) rfl (one_vers [x]) (by simp only [maxLen]; omega) (by omega) (by simp; omega) ?_; intro A3 c3 w3 o3 ch3 _ _)
       have hb3 : Below w.heap.size w w3 := ((hB.alloc hsz _).alloc (by simp; omega) _).trans (ch3.below (fun q hq e => by have := hrg q e; omega) (by simp; omega))
       go_roundw
       case rel => exact ⟨k + 1, A3, c3, by omega, by go_num, by rw [unhide HS]; simp, by rw [unhide HS]; simpa [encV] using o3, hb3⟩
       case measure => simp [intOf]; omega
   · obtain rfl : k = vs.length := by omega
     rw [List.take_length] at hown ⊢
     go_wp2
     go_ret
     exact ⟨A', c', rfl, hown, hB⟩
set_option maxRecDepth 100000 in
theorem cmpOr_any (A : Option Addr) (c : Nat) (a b : Int) (w : World) (h : Rd w A [.int .i64 a, .int .i64 b]) :
   Calls Tryz.prog 196 #[.slice A 2 c] w fun e w' => e = .returned (.int .i64 (if a = 0 then b else a)) ∧ w = w' := by
 obtain ⟨bb, off, rfl, hbb, hc⟩ := h (by simp)
 have x0 : w.cell? ⟨bb, off, none⟩ = some (.int .i64 a) := hc 0 _ rfl
 have x1 : w.cell? ⟨bb, off + 1, none⟩ = some (.int .i64 b) := hc 1 _ rfl
 clear hc h
 by_cases ha : a = 0
 · rw [if_pos ha]
   have a1 : (a != 0) = false := by simp [ha]
   have HA := hide ha
   clear ha
   by_cases hb : b = 0
   · have b1 : (b != 0) = false := by simp [hb]
     have HB := hide hb
     clear hb
     go_enter Tryz.func196, Tryz.ntmps196
     go_wp2
     go_loop [8] (fun i => i = .int .i64 0 ∨ i = .int .i64 1 ∨ i = .int .i64 2) (fun i => 2 - (intOf i).toNat)
     case atStart => exact .inl rfl
     case round =>
       rcases hrel with rfl | rfl | rfl
       · go_wp2
         go_round
         case rel => exact .inr (.inl (by go_num))
         case measure => simp [intOf]
       · go_wp2
         go_round
         case rel => exact .inr (.inr (by go_num))
         case measure => simp [intOf]
       · go_wp2
         go_ret
         exact ⟨reti (unhide HB).symm, rfl⟩
   · have b1 : (b != 0) = true := by simp [hb]
     have HB := hide hb
     clear hb
     go_enter Tryz.func196, Tryz.ntmps196
     go_wp2
     go_loop [8] (fun i => i = .int .i64 0 ∨ i = .int .i64 1) (fun i => 2 - (intOf i).toNat)
     case atStart => exact .inl rfl
     case round =>
       rcases hrel with rfl | rfl
       · go_wp2
         go_round
         case rel => exact .inr (by go_num)
         case measure => simp [intOf]
       · go_wp2
         go_ret
         exact ⟨rfl, rfl⟩
 · rw [if_neg ha]
   have a1 : (a != 0) = true := by simp [ha]
   have HA := hide ha
   clear ha
   go_enter Tryz.func196, Tryz.ntmps196
   go_wp2
   go_loop [8] (fun i => i = .int .i64 0) (fun i => 2 - (intOf i).toNat)
   case atStart => rfl
   case round =>
     obtain rfl := hrel
     go_wp2
     go_ret
     exact ⟨rfl, rfl⟩
set_option maxRecDepth 100000 in
theorem order_any (x y : VerB) (w : World) :
   Calls Tryz.prog 187 #[.agg (encB x).toArray, .agg (encB y).toArray] w fun e w' => e = .returned (.int .i64 (cmpV x.1 y.1)) ∧ ∃ q os', w' = Go.Sort.grow (w.drewN q) os' := by
 obtain ⟨⟨k1, n1, v1⟩, hx1, hx2⟩ := x
 obtain ⟨⟨k2, n2, v2⟩, hy1, hy2⟩ := y
 simp only at hx1 hx2 hy1 hy2
 have h1 : -9223372036854775808 ≤ k1 - k2 := by omega
 have h2 : k1 - k2 ≤ 9223372036854775807 := by omega
 have h3 : -9223372036854775808 ≤ n1 - n2 := by omega
 have h4 : n1 - n2 ≤ 9223372036854775807 := by omega
 have HC := hide (show cmpV ⟨k1, n1, v1⟩ ⟨k2, n2, v2⟩ = if k1 - k2 = 0 then n1 - n2 else k1 - k2 from rfl)
 show Calls _ _ #[.agg #[.int .i64 k1, .int .i64 n1, .int .i64 v1], .agg #[.int .i64 k2, .int .i64 n2, .int .i64 v2]] _ _
 have KO := cmpOr_any (some ⟨w.heap.size + 1 + 1, 0, none⟩) 2 (k1 - k2) (n1 - n2) (((w.alloc (.cells #[.int .i64 k1, .int .i64 n1, .int .i64 v1] 166)).alloc (.cells #[.int .i64 k2, .int .i64 n2, .int .i64 v2] 166)).alloc (.cells #[.int .i64 (k1 - k2), .int .i64 (n1 - n2)] 3)) (rd_at _ [.int .i64 (k1 - k2), .int .i64 (n1 - n2)] _ (by simp))
 rw [← unhide HC] at KO
 rw [unhide HC]
 rw [← unhide HC]
 go_enter Tryz.func187, Tryz.ntmps187
 go_wp2_with fail
 refine KO.mono ?_
 rintro e w' ⟨rfl, rfl⟩
 go_wp2
 go_ret
 exact ⟨rfl, 0, _, by rw [Go.Sort.alloc_eq_grow, Go.Sort.alloc_eq_grow, Go.Sort.alloc_eq_grow, Go.Sort.grow_grow, Go.Sort.grow_grow]; rfl⟩
theorem ver_snoc (n : Int) (ws : List Ent) (j : Nat) (hj : j < ws.length) : (ws.take (j + 1)).map (fun e => (⟨e.k, n, e.v⟩ : Ver)) = (ws.take j).map (fun e => (⟨e.k, n, e.v⟩ : Ver)) ++ [⟨ws[j].k, n, ws[j].v⟩] := by
 rw [List.take_succ_eq_append_getElem hj, List.map_append]
 rfl
theorem keys_apart {l z : Int} {ws : List Ent} (h : evOk l z ws = true) : ws.Pairwise fun a b => a.k < b.k := by
 induction ws generalizing z with
 | nil => exact List.Pairwise.nil
 | cons e ws ih =>
   obtain ⟨a1, a2, a3, a4, a5⟩ := evOk_cons h
   exact List.pairwise_cons.2 ⟨fun x hx => (evOk_all a5 x hx).1, ih a5⟩
set_option maxRecDepth 100000 in
set_option maxHeartbeats 2000000 in
theorem withWrites_impl (A : Option Addr) (c : Nat) (vs : List Ver) (n : Int) (B : Option Addr) (cb : Nat) (ws : List Ent) (w : World) (h : Rd w A (vs.flatMap encV)) (hb : vs.length ≤ 100000) (hw : Rd w B (ws.flatMap encE)) (hbw : ws.length ≤ 100000)
   (hs : srtV vs) (hbd : ∀ x ∈ vs, (0 ≤ x.k ∧ x.k ≤ 31) ∧ 0 ≤ x.n ∧ x.n ≤ 1000) (hn : 0 ≤ n ∧ n ≤ 1000) (hok : evOk 0 (-1) ws = true) :
   Calls Tryz.prog 164 #[.slice A vs.length c, .int .i64 n, .slice B ws.length cb] w fun e w' => ∃ A' c', e = .returned (.slice A' (putW vs n ws).length c') ∧ w'.ownsRow w.heap.size 166 3 (.slice A' (putW vs n ws).length c') (putW vs n ws).length ((putW vs n ws).flatMap encV) ∧ Below w.heap.size w w' := by
 have HS := hide hs
 have HBD := hide hbd
 have HOK := hide hok
 have hdl := dropV_len vs n
 clear hs hbd hok
 go_enter Tryz.func164, Tryz.ntmps164
 go_wp2_with fail
 refine (without_impl A c vs n w h (by omega)).mono ?_
 rintro e w1 ⟨A1, c1, rfl, o1, b1⟩
 have HD := hide (show ∀ x ∈ dropV vs n, (0 ≤ x.k ∧ x.k ≤ 31) ∧ 0 ≤ x.n ∧ x.n ≤ 1000 from fun x hx => unhide HBD x (dropV_mem.1 hx).1)
 have HP := hide (show putW vs n ws = insAll n (dropV vs n) ws from rfl)
 have HM := hide (fun x => putW_mem (vs := vs) (n := n) (ws := ws) (x := x))
 have HPS := hide (putW_srt (n := n) (unhide HS) (unhide HOK))
 have HDM := hide (fun x => dropV_mem (vs := vs) (n := n) (x := x))
 have HDS := hide (dropV_srt (unhide HS) n)
 have hpl : (putW vs n ws).length = (dropV vs n).length + ws.length := by rw [putW, insAll_len]
 obtain ⟨us, hus⟩ : ∃ us, us = putW vs n ws := ⟨_, rfl⟩
 rw [← hus] at HP HM HPS hpl
 have HUS := hide hus
 clear hus
 generalize dropV vs n = ds at *
 go_wp2
 go_loopw [7, 15] (fun r i wr => ∃ (k : Nat) (A' : Option Addr) (c' : Nat), k ≤ ws.length ∧ i = .int .i64 k ∧ r = .slice A' (ds.length + k) c' ∧ wr.ownsRow w.heap.size 166 3 (.slice A' (ds.length + k) c') (ds.length + k) ((ds ++ (ws.take k).map fun e => (⟨e.k, n, e.v⟩ : Ver)).flatMap encV) ∧ Below w.heap.size w wr) (fun _ i _ => ws.length - (intOf i).toNat)
 case atStart => exact ⟨0, A1, c1, Nat.zero_le _, rfl, rfl, by simpa using o1, b1⟩
 case round =>
   clear o1 b1
   obtain ⟨k, A', c', hk, rfl, rfl, hown, hB⟩ := hrel
   have hsz := hB.size
   by_cases hlt : k < ws.length
   · have i1 : (k : Int) < (ws.length : Int) := by omega
     obtain ⟨b, off, hA, hbb, d0, d1⟩ := (hw.new hB).ent hlt
     have HT := hide (show (ds ++ (ws.take (k + 1)).map fun e => (⟨e.k, n, e.v⟩ : Ver)).flatMap encV = (ds ++ (ws.take k).map fun e => (⟨e.k, n, e.v⟩ : Ver)).flatMap encV ++ [.int .i64 ws[k].k, .int .i64 n, .int .i64 ws[k].v] by rw [ver_snoc n ws k hlt, ← List.append_assoc, List.flatMap_append]; rfl)
     generalize ws[k] = x at *
     have HA := hide hA
     clear hA
     rw [unhide HA]
     have hrg := own_rng hown
     go_wp2_with (at_builtin; refine wpList_app rfl (.tmp 19) (.tmp 26) 93 rfl el_ver rfl (own_alloc (own_alloc hown _) _) rfl (rd_at (s := wr.heap.size + 1) _ [.int .i64 x.k, .int .i64 n, .int .i64 x.v] _ (by simp)) rfl (one_vers [⟨x.k, n, x.v⟩]) (by simp only [maxLen]; omega) (by omega) (by simp; omega) ?_; intro A3 c3 w3 o3 ch3 _ _)
     have hb3 : Below w.heap.size w w3 := ((hB.alloc hsz _).alloc (by simp; omega) _).trans (ch3.below (fun q hq e => by have := hrg q e; omega) (by simp; omega))
     go_roundw
     case rel => exact ⟨k + 1, A3, c3, by omega, by go_num, rfl, by rw [unhide HT]; exact o3, hb3⟩
     case measure => simp [intOf]; omega
   · obtain rfl : k = ws.length := by omega
     rw [List.take_length] at hown
     have hLb : ∀ x ∈ ds ++ ws.map (fun e => (⟨e.k, n, e.v⟩ : Ver)), (0 ≤ x.k ∧ x.k ≤ 31) ∧ 0 ≤ x.n ∧ x.n ≤ 1000 := by
       intro x hx
       rcases List.mem_append.1 hx with hx | hx
       · exact unhide HD x hx
       · obtain ⟨e, he, rfl⟩ := List.mem_map.1 hx
         have := evOk_all (unhide HOK) e he
         exact ⟨⟨by simp only; omega, by simp only; omega⟩, hn⟩
     have hLm : ∀ x, x ∈ us ↔ x ∈ ds ++ ws.map (fun e => (⟨e.k, n, e.v⟩ : Ver)) := by
       intro x
       rw [unhide HM x, List.mem_append, unhide HDM x, List.mem_map]
       constructor
       · rintro (g | ⟨e, he, rfl⟩)
         · exact .inl g
         · exact .inr ⟨e, he, rfl⟩
       · rintro (g | ⟨e, he, rfl⟩)
         · exact .inl g
         · exact .inr ⟨e, he, rfl⟩
     have hLn : (ds ++ ws.map (fun e => (⟨e.k, n, e.v⟩ : Ver))).Pairwise fun a b => ¬ (a.k = b.k ∧ a.n = b.n) := by
       refine List.pairwise_append.2 ⟨(unhide HDS).imp fun {a b} hab hh => by unfold ltV at hab; omega, ?_, fun a ha b hb hh => ?_⟩
       · rw [List.pairwise_map]
         exact (keys_apart (unhide HOK)).imp fun {a b} hab hh => by simp only at hh; omega
       · obtain ⟨e, he, rfl⟩ := List.mem_map.1 hb
         exact ((unhide HDM a).1 ha).2 hh.2
     have hLl : (ds ++ ws.map (fun e => (⟨e.k, n, e.v⟩ : Ver))).length = ds.length + ws.length := by rw [List.length_append, List.length_map]
     generalize ds ++ ws.map (fun e => (⟨e.k, n, e.v⟩ : Ver)) = L at *
     rw [← hLl] at hown hpl ⊢
     have hrg := own_rng hown
     by_cases h0 : L.length = 0
     · have hL0 : L = [] := List.eq_nil_of_length_eq_zero h0
       subst hL0
       have hu0 : us = [] := List.eq_nil_of_length_eq_zero (by rw [hpl]; rfl)
       have KN := Go.Proofs.AnyF.slices_SortFunc_none sortV A' c' (.func (.func 187) #[] #[]) wr
       change Calls Tryz.prog 186 _ _ _ at KN
       subst hu0
       clear HM HP HPS hLm hLb hLn hLl HDM HDS HD
       go_wp2_with fail
       refine KN.mono ?_
       rintro e w' ⟨rfl, rfl⟩
       go_wp2
       go_ret
       rw [← unhide HUS]
       exact ⟨A', c', rfl, hown, hB⟩
     · obtain ⟨g, hg, hg1, hg2⟩ := own_addr hown (by omega)
       subst hg
       have hbig : L.length < 4611686018427387904 := by omega
       have hBl : (toB L hLb).length = L.length := by simp [toB]
       have hBv := toB_val L hLb
       generalize toB L hLb = D at *
       subst hBv
       have hDl : D.toArray.size = (D.map (·.1)).length := by simp
       have ho := hown
       rw [← encB_flat, ← hBl] at ho
       have eg : ∀ args w, (callFunc 187 args).run Tryz.prog w = .ok (.enter 187 args) w := enters_of Tryz.func187 (by kernel_rfl) rfl
       have KN := Go.Proofs.AnyQ.slices_SortFunc sortV 3 Tryz.isAgg166 Tryz.sizeOf166 encB (fun _ => rfl) (fun x v hv => one_vers [x.1] v (by simpa [encB] using hv)) (fun a b => cmpV a.1 b.1) (swo_ltV lt_cmpV) 187 #[] g 0 c' D.toArray wr eg (fun _ _ _ _ x y => order_any x y _) (holds_own ho) hg2 (by rw [hDl]; exact hbig)
       change Calls Tryz.prog 186 _ _ _ at KN
       have HFIN := hide (fun (es : Array VerB) (m : Nat) (os : Array Obj) (hp : Go.Sort.PermIn 0 D.toArray.size D.toArray es) (hs : Go.Sort.SortedIn (Go.Proofs.ltOf (fun a b : VerB => cmpV a.1 b.1)) 0 D.toArray.size es) => show (Go.Proofs.sortWorldK encB 3 wr g 0 m es os).ownsRow w.heap.size 166 3 (.slice (some ⟨g, 0, none⟩) us.length c') us.length (us.flatMap encV) ∧ Below w.heap.size w (Go.Proofs.sortWorldK encB 3 wr g 0 m es os) from by
         have hes : es = es.toList.toArray := by simp
         have hel : es.toList.length = D.length := by have := hp.1; simpa using this
         rw [hes] at hp hs ⊢
         have e1 := sort_is lt_cmpV hp hs (unhide HPS) hLm hLn
         obtain ⟨o5, ch5⟩ := own_sorted (m := m) (os := os) ho es.toList hel
         rw [encB_flat, e1, hBl, ← hpl] at o5
         exact ⟨o5, hB.trans (ch5.below (fun q hq e => by omega) hB.size)⟩)
       rw [hDl] at KN
       rw [hDl] at HFIN
       rw [hpl] at HFIN
       have HPL := hide hpl
       clear HM HP HPS hLm hLb hLn hLl HDM HDS HD ho hrg hown hDl hBl eg hpl
       generalize (D.map (·.1)).length = N at *
       go_wp2_with fail
       refine KN.mono ?_
       rintro e w' ⟨rfl, es, m, os, hp, hs, rfl⟩
       obtain ⟨o5, b5⟩ := unhide HFIN es m os hp hs
       go_wp2
       go_ret
       rw [← unhide HUS, unhide HPL]
       exact ⟨_, _, rfl, o5, b5⟩
end Go.Proofs.YtihlhejencninaaGreat
