/- What the laws on counters draw: counters and numbered actions. -/
import Derived.Test.YthddcinpacaacaaDrawC
import Derived.Test.YthddcinpacaacaaTakeS
import Derived.BigRegion
import Derived.Deep.RegionWith
import Derived.RegionTactic
import Derived.Outline
namespace Go.Proofs.Ythddcinpacaacaa
open Go.RowKit
set_option linter.unusedVariables false
set_option linter.unusedSimpArgs false

theorem Blk.chg {S : Nat → Prop} {w w' : World} {g : Nat} {t : TypeId} {cs : Array Value} (h : Blk w g t cs) (hc : Chg S w w') (hS : ¬ S g) : Blk w' g t cs := h.keep (hc.block g h.lt hS)
theorem box_set {w : World} {q : Nat} {t : TypeId} {u v : Value} (k : Blk w q t #[u, v]) (a b : Value) : ((w.setCell ⟨q, 0, none⟩ a).setCell ⟨q, 1, none⟩ b).cell? ⟨q, 0, none⟩ = some a ∧ ((w.setCell ⟨q, 0, none⟩ a).setCell ⟨q, 1, none⟩ b).cell? ⟨q, 1, none⟩ = some b := by
  have := (k.set_ 0 a).set_ 1 b
  exact ⟨by rw [this.cell]; rfl, by rw [this.cell]; rfl⟩
theorem rd_box {w0 w' : World} {A : Option Addr} {xs : List Value} {q : Nat} {u v : Value} (h : Rd w' A xs) (hf : Far w0 A) (hq : q < w0.heap.size) : Rd ((w'.setCell ⟨q, 0, none⟩ u).setCell ⟨q, 1, none⟩ v) A xs :=
  rd_chg h (((Chg.refl (fun k => k = q) w').setCell (p := ⟨q, 0, none⟩) (.inl rfl) u).setCell (p := ⟨q, 1, none⟩) (.inl rfl) v) (fun b off hA e => by have := hf b off hA; omega)
set_option maxHeartbeats 1000000 in
theorem drawTake_any (A : Option Addr) (c : Nat) (bs : List Int) (w : World) (h : Rd w A (bs.map (.int .u8))) (hw : ∀ b ∈ bs, 0 ≤ b ∧ b ≤ 255) (hc : bs.length ≤ c) (hm : c ≤ maxLen) :
    Calls Try.prog 23 #[.slice A bs.length c] w fun e w' => ∃ A' c', ∃ xs : List Int, ∃ n : Nbd, xs.length ≤ 4 ∧ (-10 ≤ n.num ∧ n.num ≤ 2000000) ∧ e = .returned (.tuple #[.slice A' xs.length c', .agg #[.int .i64 n.who, .int .i64 n.num]]) ∧ Rd w' A' (xs.map (.int .i64)) ∧ Below w.heap.size w w' := by
  have hm2 : bs.length ≤ 9223372036854775807 := by simp only [maxLen] at hm; omega
  have k0 := Blk.new w 28 #[.int .i64 0, .int .i64 0]
  have h' := h.alloc (.cells #[.int .i64 0, .int .i64 0] 28)
  have b0 : Below w.heap.size w (w.alloc (.cells #[.int .i64 0, .int .i64 0] 28)) := (Below.refl _ _).alloc (Nat.le_refl _) _
  have s0 : w.heap.size < (w.alloc (.cells #[.int .i64 0, .int .i64 0] 28)).heap.size := by simp
  go_enter Try.func23, Try.ntmps23
  go_wp2_with fail
  have e0 : (w.alloc (.cells #[.int .i64 0, .int .i64 0] 28)).heap.size = w.heap.size + 1 := by simp
  refine (open_any A c bs _ h' hw hc hm).mono ?_
  rintro e w1 ⟨rfl, r1, b1⟩
  replace k0 := k0.new_ b1
  rw [e0] at r1 b1 ⊢
  have b2 : Below w.heap.size w w1 := b0.trans (b1.mono (by omega))
  go_wp2_with fail
  refine (l20Counters_any _ 0 9 w1 r1 (by omega) (by omega) (by omega)).mono ?_
  rintro e w2 ⟨A2, c2, xs, hl, hxb, rfl, _, _, r2, fa2, rd2, ch2⟩
  replace k0 := k0.chg ch2 (by omega)
  have b3 := b2.trans (ch2.below (fun k hk => by omega) b2.size)
  go_wp2_with fail
  refine (pick_any _ _ 4 w2 rd2 (by omega) (by omega) (by omega)).mono ?_
  rintro e w3 ⟨v3, hv3, rfl, rd3, ch3⟩
  replace k0 := k0.chg ch3 (by omega)
  have b4 := b3.trans (ch3.below (fun k hk => by omega) b3.size)
  replace r2 := r2.chg_far fa2 (by have := r1.lt; omega) ch3
  replace k0 := hide k0
  have HXB := hide hxb
  have hgs : w.heap.size + 1 < w1.heap.size := r1.lt
  clear hxb h h' hw ch2 ch3 b0 b1 b2 b3 rd2
  by_cases hlt : v3 < xs.length
  · go_wp2_with fail
    refine (pick_any _ _ 3 w3 rd3 (by omega) (by omega) (by omega)).mono ?_
    rintro e w4 ⟨v4, hv4, rfl, rd4, ch4⟩
    have k := (unhide k0).chg ch4 (by omega)
    have b5' := b4.trans (ch4.below (fun k hk => by omega) b4.size)
    replace r2 := r2.chg_far fa2 hgs ch4
    clear b4
    by_cases h0 : 0 < v4
    · obtain ⟨b, off, rfl, hbb, hcell⟩ := r2.int hlt
      obtain ⟨x0, x1⟩ := unhide HXB _ (List.getElem_mem hlt)
      generalize xs[v3] = x at *
      have z0 := k.cell 0
      have z1 := k.cell 1
      have y0 := k.frozen 0
      have y1 := k.frozen 1
      simp only [List.getElem?_toArray, List.getElem?_cons_zero, List.getElem?_cons_succ] at z0 z1
      have i1 : (v3 : Int) < (xs.length : Int) := by omega
      go_wp2
      go_region
      all_goals go_wp2
      all_goals refine bodyPost_ret (v := .tuple #[.slice (some ⟨b, off, none⟩) xs.length c2, .agg #[.int .i64 v3, .int .i64 x]]) (by have q := box_set k (.int .i64 v3) (.int .i64 x); simp [results, Try.results23, go_sem, q.1, q.2]) rfl ?_
      all_goals exact ⟨_, c2, xs, ⟨v3, x⟩, hl, ⟨by simp only []; omega, by simp only []; omega⟩, rfl, rd_box r2 fa2 (by omega), ((b5'.setCell (Nat.le_refl _) _).setCell (Nat.le_refl _) _).drew⟩
    · obtain rfl : v4 = 0 := by omega
      go_wp2_with fail
      refine (pick_any _ _ 9 _ rd4 (by omega) (by omega) (by omega)).mono ?_
      rintro e w5 ⟨v5, hv5, rfl, rd5, ch5⟩
      have k5 := k.chg ch5 (by omega)
      have b5 := b5'.trans (ch5.below (fun k hk => by omega) b5'.size)
      have r5 := r2.chg_far fa2 hgs ch5
      go_wp2_with fail
      refine (pick_any _ _ 5 _ rd5 (by omega) (by omega) (by omega)).mono ?_
      rintro e w6 ⟨v6, hv6, rfl, rd6, ch6⟩
      have k6 := k5.chg ch6 (by omega)
      have b6 := b5.trans (ch6.below (fun k hk => by omega) b5.size)
      have r6 := r5.chg_far fa2 hgs ch6
      go_wp2_with fail
      refine (pick_any _ _ 9 _ rd6 (by omega) (by omega) (by omega)).mono ?_
      rintro e w7 ⟨v7, hv7, rfl, rd7, ch7⟩
      have k7 := k6.chg ch7 (by omega)
      have b7 := b6.trans (ch7.below (fun k hk => by omega) b6.size)
      have r7 := r6.chg_far fa2 hgs ch7
      clear k k5 k6 b5' b5 b6 r5 r6 ch5 ch6 ch7 rd5 rd6 rd7
      have z0 := k7.cell 0
      have z1 := k7.cell 1
      have y0 := k7.frozen 0
      have y1 := k7.frozen 1
      simp only [List.getElem?_toArray, List.getElem?_cons_zero, List.getElem?_cons_succ] at z0 z1
      go_wp2
      refine bodyPost_ret (v := .tuple #[.slice A2 xs.length c2, .agg #[.int .i64 ((v3 : Int) + (v5 : Int) / 8 * 4), .int .i64 ((v6 : Int) - (v7 : Int) / 8)]]) (by have q := box_set k7 (.int .i64 ((v3 : Int) + (v5 : Int) / 8 * 4)) (.int .i64 ((v6 : Int) - (v7 : Int) / 8)); simp [results, Try.results23, go_sem, q.1, q.2]) rfl ?_
      exact ⟨A2, c2, xs, ⟨(v3 : Int) + (v5 : Int) / 8 * 4, (v6 : Int) - (v7 : Int) / 8⟩, hl, ⟨by simp only []; omega, by simp only []; omega⟩, rfl, rd_box r7 fa2 (by omega), (b7.setCell (Nat.le_refl _) _).setCell (Nat.le_refl _) _⟩
  · have k := unhide k0
    go_wp2_with fail
    refine (pick_any _ _ 9 _ rd3 (by omega) (by omega) (by omega)).mono ?_
    rintro e w5 ⟨v5, hv5, rfl, rd5, ch5⟩
    have k5 := k.chg ch5 (by omega)
    have b5 := b4.trans (ch5.below (fun k hk => by omega) b4.size)
    have r5 := r2.chg_far fa2 hgs ch5
    go_wp2_with fail
    refine (pick_any _ _ 5 _ rd5 (by omega) (by omega) (by omega)).mono ?_
    rintro e w6 ⟨v6, hv6, rfl, rd6, ch6⟩
    have k6 := k5.chg ch6 (by omega)
    have b6 := b5.trans (ch6.below (fun k hk => by omega) b5.size)
    have r6 := r5.chg_far fa2 hgs ch6
    go_wp2_with fail
    refine (pick_any _ _ 9 _ rd6 (by omega) (by omega) (by omega)).mono ?_
    rintro e w7 ⟨v7, hv7, rfl, rd7, ch7⟩
    have k7 := k6.chg ch7 (by omega)
    have b7 := b6.trans (ch7.below (fun k hk => by omega) b6.size)
    have r7 := r6.chg_far fa2 hgs ch7
    clear k k5 k6 b4 b5 b6 r5 r6 ch5 ch6 ch7 rd5 rd6 rd7
    have z0 := k7.cell 0
    have z1 := k7.cell 1
    have y0 := k7.frozen 0
    have y1 := k7.frozen 1
    simp only [List.getElem?_toArray, List.getElem?_cons_zero, List.getElem?_cons_succ] at z0 z1
    go_wp2
    refine bodyPost_ret (v := .tuple #[.slice A2 xs.length c2, .agg #[.int .i64 ((v3 : Int) + (v5 : Int) / 8 * 4), .int .i64 ((v6 : Int) - (v7 : Int) / 8)]]) (by have q := box_set k7 (.int .i64 ((v3 : Int) + (v5 : Int) / 8 * 4)) (.int .i64 ((v6 : Int) - (v7 : Int) / 8)); simp [results, Try.results23, go_sem, q.1, q.2]) rfl ?_
    exact ⟨A2, c2, xs, ⟨(v3 : Int) + (v5 : Int) / 8 * 4, (v6 : Int) - (v7 : Int) / 8⟩, hl, ⟨by simp only []; omega, by simp only []; omega⟩, rfl, rd_box r7 fa2 (by omega), (b7.setCell (Nat.le_refl _) _).setCell (Nat.le_refl _) _⟩
theorem el_nbd : El Try.prog 38 28 2 16 := El.mk_ Try.underlying38 info_nbd rfl (by omega)
theorem one_nbds (es : List Nbd) : ∀ u ∈ es.flatMap encN, u.oneCell' = true := by
  intro u hu
  obtain ⟨e, _, h⟩ := List.mem_flatMap.1 hu
  simp [encN] at h
  rcases h with rfl | rfl <;> rfl
theorem snoc_nbds (gs : List Nbd) (k v : Int) : gs.flatMap encN ++ [.int .i64 k, .int .i64 v] = (gs ++ [(⟨k, v⟩ : Nbd)]).flatMap encN := by simp [encN]
theorem own_head {w : World} {base : Nat} {e : TypeId} {size n c : Nat} {A : Option Addr} {xs : List Value} (h : w.ownsRow base e size (.slice A n c) n xs) : A = none ∧ c = 0 ∨ ∃ q, A = some ⟨q, 0, none⟩ := by
  rcases h.2 with ⟨hv, _⟩ | ⟨g, cap, cur, hv, _⟩
  · injection hv with h1 _ h3
    exact .inl ⟨h1, h3⟩
  · injection hv with h1
    exact .inr ⟨g, h1⟩
set_option maxHeartbeats 1000000 in
theorem drawTakes_any (A : Option Addr) (c : Nat) (bs : List Int) (w : World) (h : Rd w A (bs.map (.int .u8))) (hw : ∀ b ∈ bs, 0 ≤ b ∧ b ≤ 255) (hc : bs.length ≤ c) (hm : c ≤ maxLen) :
    Calls Try.prog 27 #[.slice A bs.length c] w fun e w' => ∃ A' c' B d, ∃ xs : List Int, ∃ ns : List Nbd, xs.length ≤ 4 ∧ ns.length ≤ 41 ∧ ns.length ≤ d ∧ d ≤ maxLen ∧ (B = none ∧ d = 0 ∨ ∃ q, B = some ⟨q, 0, none⟩) ∧ e = .returned (.tuple #[.slice A' xs.length c', .slice B ns.length d]) ∧ Rd w' A' (xs.map (.int .i64)) ∧ Rd w' B (ns.flatMap encN) ∧ Below w.heap.size w w' := by
  have hm2 : bs.length ≤ 9223372036854775807 := by simp only [maxLen] at hm; omega
  have hmk := fun W => make_nbd 41 (by omega) W
  rw [show ((41 : Nat) : Int) = 41 from rfl] at hmk
  go_enter Try.func27, Try.ntmps27
  go_wp2_with fail
  refine (open_any A c bs w h hw hc hm).mono ?_
  rintro e w1 ⟨rfl, r1, b1⟩
  go_wp2_with fail
  refine (l20Counters_any _ 0 9 w1 r1 (by omega) (by omega) (by omega)).mono ?_
  rintro e w2 ⟨A2, c2, xs, hl, _, rfl, _, _, r2, fa2, rd2, ch2⟩
  have b2 : Below w.heap.size w w2 := b1.trans (ch2.below (fun k hk => by omega) b1.size)
  have hgs : w.heap.size < w1.heap.size := r1.lt
  have hgs2 : w1.heap.size ≤ w2.heap.size := ch2.size
  go_wp2_with fail
  refine (pick_any _ _ 12 _ (rd2.alloc _) (by omega) (by omega) (by omega)).mono ?_
  rintro e w3 ⟨v3, hv3, rfl, rd3, ch3⟩
  have o3 := own_reader (own_made (base := w2.heap.size) (e := 28) (size := 2) w2 #[] 0 (Nat.le_refl _) (by simp [maxLen]) rfl) ch3 (by omega)
  have q3 := ((Chg.refl (fun k => k = w.heap.size) w2).alloc _).trans ch3
  clear h hw r1 b1 ch2 ch3 rd2
  go_wp2
  go_loopw [6, 7] (fun v i wr => ∃ (j : Nat) (B : Option Addr) (d : Nat) (ns : List Nbd), j ≤ 11 ∧ ns.length ≤ 11 - j ∧ i = .int .i64 j ∧ v = .slice B ns.length d ∧ wr.ownsRow w2.heap.size 28 2 (.slice B ns.length d) ns.length (ns.flatMap encN) ∧ Rdr wr w.heap.size (21 + 2 * (11 - j)) ∧ Chg (fun k => k = w.heap.size) w2 wr) (fun _ i _ => (intOf i).toNat)
  case atStart => exact ⟨v3, _, _, [], by omega, by simp, rfl, rfl, o3, rd3.more (by omega), q3⟩
  case round =>
    clear o3 rd3 q3
    obtain ⟨j, B, d, ns, hj, hnl, rfl, rfl, hown, hrd, hchg⟩ := hrel
    have hsz := hchg.size
    by_cases hlt : 0 < j
    · have hlt' : (0 : Int) < (j : Int) := by omega
      go_wp2_with fail
      refine (pick_any _ _ 4 wr hrd (by omega) (by omega) (by omega)).mono ?_
      rintro e w4 ⟨v4, hv4, rfl, rd4, ch4⟩
      have o4 := own_reader hown ch4 (by omega)
      have q4 := hchg.trans ch4
      go_wp2_with fail
      refine (pick_any _ _ 7 _ rd4 (by omega) (by omega) (by omega)).mono ?_
      rintro e w5 ⟨v5, hv5, rfl, rd5, ch5⟩
      have o5 := own_reader o4 ch5 (by omega)
      have q5 := q4.trans ch5
      clear o4 q4 ch4 ch5 hown hchg hrd rd4
      go_wp2_with (at_builtin; refine wpList_app rfl (.tmp 19) (.tmp 25) 38 rfl el_nbd rfl (own_alloc o5 _) rfl (rd_lit w5 [.int .i64 v4, .int .i64 v5] _) rfl (one_nbds [⟨v4, v5⟩]) (by simp only [maxLen]; omega) (by omega) (by have := q5.size; simp; omega) ?_; intro B7 d7 w7 o7 ch7 _ _)
      have h7 := (rd5.alloc (.cells #[.int .i64 v4, .int .i64 v5] 28)).chg ch7 (fun k hk hA => by have := own_block o5 k (by rw [hA]; rfl); omega)
      have q7 := chg_g (q5.alloc _) (own_alloc o5 _) ch7 (Nat.le_refl _)
      go_roundw
      case rel =>
        refine ⟨j - 1, B7, d7, ns ++ [⟨v4, v5⟩], by omega, by simp; omega, ?_, by simp, ?_, h7.more (by omega), q7⟩
        · rw [show (j : Int) - 1 = ((j - 1 : Nat) : Int) by omega]
        · rw [← snoc_nbds]; simpa using o7
      case measure => simp [intOf]; omega
    · obtain rfl : j = 0 := by omega
      go_wp2_with fail
      refine (odd_any _ _ 24 wr hrd (by omega) (by omega) (by omega)).mono ?_
      rintro e w4 ⟨b, rfl, _, rd4, ch4⟩
      have o4 := own_reader hown ch4 (by omega)
      have q4 := hchg.trans ch4
      have r4 : Rd w4 A2 (xs.map (.int .i64)) := r2.chg_far fa2 hgs q4
      have hcap := own_cap o4
      have b4 : Below w.heap.size w w4 := b2.trans (q4.below (fun k hk => by omega) b2.size)
      cases b
      · go_wp2
        go_ret2
        exact ⟨A2, c2, B, d, xs, ns, hl, by omega, hcap.1, hcap.2, own_head o4, rfl, r4, own_rd o4, b4⟩
      · go_wp2
        go_ret2
        exact ⟨A2, c2, some ⟨w4.heap.size, 0, none⟩, 41, xs, List.replicate 41 ⟨0, 0⟩, hl, by simp, by simp, by simp [maxLen], .inr ⟨_, rfl⟩, by simp, r4.alloc _, rd_lit w4 _ _, b4.alloc b4.size _⟩
end Go.Proofs.Ythddcinpacaacaa
