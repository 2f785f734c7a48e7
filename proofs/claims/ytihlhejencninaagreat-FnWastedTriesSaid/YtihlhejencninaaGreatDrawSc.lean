/- Scripts that are drawn; stores, actions and scripts (printed by gen_in.py from xdrawsc.in). -/
import Derived.Test.YtihlhejencninaaGreatGdraw
import Derived.Test.YtihlhejencninaaGreatGint
import Derived.Test.YtihlhejencninaaGreatCopyE
import Derived.Test.YtihlhejencninaaGreatGloc
import Derived.Deep.Cut
namespace Go.Proofs.YtihlhejencninaaGreat
open Go.RowKit
set_option linter.unusedVariables false
set_option linter.unusedSimpArgs false

set_option maxHeartbeats 4000000 in
theorem l20Script_any (g N : Nat) (many : Int) (w : World) (h : Rdr w g N) (hN : N ≤ 900000) (hn : 0 ≤ many) (hn2 : many ≤ 1000) :
    Calls Tryz.prog 59 #[.pointer (some ⟨g, 0, none⟩), .int .i64 many] w fun e w' => ∃ A c, ∃ xs : List Int, xs.length ≤ 15 ∧ e = .returned (.slice A xs.length c) ∧ w'.ownsRow w.heap.size 3 1 (.slice A xs.length c) xs.length (xs.map (.int .i64)) ∧ Rdr w' g (N + 40) ∧ Chg (fun k => k = g) w w' := by
  have hg := h.lt
  go_enter Tryz.func59, Tryz.ntmps59
  go_wp2_with fail
  refine (pick_any g N 16 _ (h.alloc _) (by omega) (by omega) (by omega)).mono ?_
  rintro e w1 ⟨v1, hv1, rfl, h1, ch1⟩
  have o1 := own_reader (own_made (base := w.heap.size) (e := 3) (size := 1) w #[] 0 (Nat.le_refl _) (by simp [maxLen]) rfl) ch1 hg
  have q1 := ((Chg.refl (fun k => k = g) w).alloc _).trans ch1
  go_wp2
  go_loopw [5, 6] (fun v i wr => ∃ (j : Nat) (A : Option Addr) (c : Nat) (xs : List Int), j ≤ 15 ∧ xs.length ≤ 15 - j ∧ i = .int .i64 j ∧ v = .slice A xs.length c ∧ wr.ownsRow w.heap.size 3 1 (.slice A xs.length c) xs.length (xs.map (.int .i64)) ∧ Rdr wr g (N + 1 + 2 * (15 - j)) ∧ Chg (fun k => k = g) w wr) (fun _ i _ => (intOf i).toNat)
  case atStart => exact ⟨v1, _, _, [], by omega, by simp, rfl, rfl, o1, h1.more (by omega), q1⟩
  case round =>
    clear o1 q1 h1
    obtain ⟨j, A, c, xs, hj, hxl, rfl, rfl, hown, hrd, hchg⟩ := hrel
    by_cases hlt : 0 < j
    · have hlt' : (0 : Int) < (j : Int) := by omega
      by_cases hmm : many ≤ 1
      · go_wp2_with fail
        refine (pick_any g _ (2) wr hrd (by omega) (by omega) (by omega)).mono ?_
        rintro e w2 ⟨v2, hv2, rfl, h2, ch2⟩
        have o2 := own_reader hown ch2 hg
        have q2 := hchg.trans ch2
        clear hown hrd hchg ch2
        go_wp2_with fail
        refine (pick_any g _ 24 w2 h2 (by omega) (by omega) (by omega)).mono ?_
        rintro e w3 ⟨v3, hv3, rfl, h3, ch3⟩
        have o3 := own_reader o2 ch3 hg
        have q3 := q2.trans ch3
        clear o2 q2 h2 ch3
        have hd0 : (0 : Int) ≤ (v3 : Int) / 23 ∧ (v3 : Int) / 23 ≤ 1 := by omega
        go_wp2_with (at_builtin; refine wpList_app rfl (.tmp 14) (.tmp 24) 26 rfl el_int rfl (own_alloc o3 _) rfl (rd_lit w3 [.int .i64 ((v2 : Int) - (v3 : Int) / 23)] _) rfl (one_ia [(v2 : Int) - (v3 : Int) / 23]) (by simp only [maxLen]; omega) (by omega) (by have := q3.size; simp; omega) ?_; intro A7 c7 w7 o7 ch7 d7 _)
        go_roundw
        case rel => exact ⟨j - 1, A7, c7, xs ++ [(v2 : Int) - (v3 : Int) / 23], by omega, by simp; omega, by go_num, by simp, by simpa using o7, ((h3.alloc _).chg ch7 (fun k hk hA => by have := own_block o3 k (by rw [hA]; rfl); omega)).more (by omega), chg_g (q3.alloc _) (own_alloc o3 _) ch7 (Nat.le_refl _)⟩
        case measure => simp [intOf]; omega
      · have hmm2 : ¬ many ≤ 1 := hmm
        go_wp2_with fail
        refine (pick_any g _ (many + 1) wr hrd (by omega) (by omega) (by omega)).mono ?_
        rintro e w2 ⟨v2, hv2, rfl, h2, ch2⟩
        have o2 := own_reader hown ch2 hg
        have q2 := hchg.trans ch2
        clear hown hrd hchg ch2
        go_wp2_with fail
        refine (pick_any g _ 24 w2 h2 (by omega) (by omega) (by omega)).mono ?_
        rintro e w3 ⟨v3, hv3, rfl, h3, ch3⟩
        have o3 := own_reader o2 ch3 hg
        have q3 := q2.trans ch3
        clear o2 q2 h2 ch3
        have hd0 : (0 : Int) ≤ (v3 : Int) / 23 ∧ (v3 : Int) / 23 ≤ 1 := by omega
        go_wp2_with (at_builtin; refine wpList_app rfl (.tmp 14) (.tmp 24) 26 rfl el_int rfl (own_alloc o3 _) rfl (rd_lit w3 [.int .i64 ((v2 : Int) - (v3 : Int) / 23)] _) rfl (one_ia [(v2 : Int) - (v3 : Int) / 23]) (by simp only [maxLen]; omega) (by omega) (by have := q3.size; simp; omega) ?_; intro A7 c7 w7 o7 ch7 d7 _)
        go_roundw
        case rel => exact ⟨j - 1, A7, c7, xs ++ [(v2 : Int) - (v3 : Int) / 23], by omega, by simp; omega, by go_num, by simp, by simpa using o7, ((h3.alloc _).chg ch7 (fun k hk hA => by have := own_block o3 k (by rw [hA]; rfl); omega)).more (by omega), chg_g (q3.alloc _) (own_alloc o3 _) ch7 (Nat.le_refl _)⟩
        case measure => simp [intOf]; omega
    · have hj0 : (j : Int) ≤ 0 := by omega
      go_wp2
      go_ret
      exact ⟨A, c, xs, by omega, rfl, hown, hrd.more (by omega), hchg⟩
def bStoreR (s : List Ent) (v : Value) (w : World) : Prop := ∃ A c, v = .slice A s.length c ∧ Rd w A (s.flatMap encE)
def zIs (v : Value) (w : World) : Prop := ∃ q, v = .slice (some ⟨q, 0, none⟩) 201 201 ∧ Rd w (some ⟨q, 0, none⟩) ((List.replicate 201 (0 : Int)).map (.int .i64))
theorem sb_zIs : StB zIs := fun _ _ _ hb ⟨q, h1, h2⟩ => ⟨q, h1, h2.new hb⟩
set_option maxRecDepth 100000 in
set_option maxHeartbeats 4000000 in
theorem DrawRunAhead_any (A : Option Addr) (c : Nat) (bs : List Int) (w : World) (h : Rd w A (bs.map (.int .u8))) (hw : ∀ b ∈ bs, 0 ≤ b ∧ b ≤ 255) (hc : bs.length ≤ c) (hm : c ≤ maxLen) :
    Calls Tryz.prog 39 #[.slice A bs.length c] w fun e w' => ∃ (A1 : Option Addr) (c1 : Nat) (s : List Ent) (B : Option Addr) (cb : Nat) (al : List Act) (M : Option Addr) (cm : Nat) (ms : List Int), s.length ≤ 7 ∧ al.length ≤ 11 ∧ ms.length ≤ 201 ∧ e = .returned (.tuple #[.slice A1 s.length c1, .slice B al.length cb, .slice M ms.length cm]) ∧ Rd w' A1 (s.flatMap encE) ∧ Rd w' B (al.flatMap encA) ∧ Rd w' M (ms.map (.int .i64)) ∧ Below w.heap.size w w' := by
  obtain ⟨zc, HZC, hmk⟩ : ∃ zc : Array Value, Hid (zc = ((List.replicate 201 (0 : Int)).map (Value.int .i64)).toArray) ∧ ∀ W : World, (Instr.makeSlice 26 (.int .i64 201) (.int .i64 201)).run Tryz.prog W = .ok (.slice (some ⟨W.heap.size, 0, none⟩) 201 201) (W.alloc (.cells zc 3)) := ⟨Array.replicate 201 (Value.int .i64 0), hide (by kernel_rfl), fun W => make_ints 201 (by omega) W⟩
  go_enter Tryz.func39, Tryz.ntmps39
  go_wp2_with fail
  refine (open_any A c bs w h hw hc hm).mono ?_
  rintro e w1 ⟨rfl, r1, b1⟩
  go_wp2_with fail
  refine (l20Store_any _ _ 14 w1 r1 (by omega) (by omega) (by omega)).mono ?_
  rintro e w2 ⟨A1, c1, s, hs, rfl, o1, r2, ch2⟩
  have b2 := b1.trans (ch2.below (fun k hk e => by omega) b1.size)
  have hg1 := r1.lt
  have hg2 : w.heap.size < w2.heap.size := by have := ch2.size; omega
  clear ch2 b1 h hw r1
  go_wp2_with fail
  refine (l20Actions_any _ _ 14 w2 r2 (by omega) (by omega) (by omega)).mono ?_
  rintro e w3 ⟨B, cb, al, ha, rfl, o2, r3, ch3⟩
  have b3 := b2.trans (ch3.below (fun k hk e => by omega) b2.size)
  have q1 := own_reader o1 ch3 hg1
  clear ch3 b2 r2 o1
  go_wp2_with fail
  refine (odd_any _ _ 24 w3 r3 (by omega) (by omega) (by omega)).mono ?_
  rintro e w4 ⟨b, rfl, -, r4, ch4⟩
  have b4 := b3.trans (ch4.below (fun k hk e => by omega) b3.size)
  have q2 := own_reader q1 ch4 hg1
  have q3 := own_reader o2 ch4 hg2
  clear ch4 b3 r3 q1 o2
  cases b
  · have hal : ((al.length : Nat) : Int) ≤ 11 := by omega
    go_wp2_with fail
    refine (l20Script_any _ _ _ w4 r4 (by omega) (by omega) (by omega)).mono ?_
    rintro e w5 ⟨M, cm, ms, hms, rfl, o5, r5, ch5⟩
    go_wp2
    go_ret3
    exact ⟨A1, c1, s, B, cb, al, M, cm, ms, hs, ha, by omega, rfl, own_rd (own_reader q2 ch5 hg1), own_rd (own_reader q3 ch5 hg2), own_rd o5, b4.trans (ch5.below (fun k hk e => by omega) b4.size)⟩
  · have hF : StBL [bV (.slice A1 s.length c1), bV (.slice B al.length cb), zIs, bV (.slice A1 s.length c1), bV (.slice B al.length cb)] :=
      ⟨sb_V _, sb_V _, sb_zIs, sb_V _, sb_V _, trivial⟩
    go_upto_region 5 with fail
    refine wp_region_loc (by kernel_rfl) [(0, some 16), (1, some 17), (2, some 18), (3, some 2), (4, some 3)] [[], [], [], [(0, some 16)], [(1, some 17)]] (by kernel_rfl)
      (locB _) (fun a b => Below a.heap.size a b) noR [0, 0, 0, 0, 0] 0 (by kernel_rfl) (fun _ => Below.refl _ _) (fun _ _ _ => bthen) (locB_st hF _) trivial ?_ ?_
    · refine steps_cons ?s0 ( steps_cons ?s1 ( steps_cons ?s2 ( steps_cons ?s3 ( steps_cons ?s4 steps_nil))))
      case s0 =>
        intro w' m' hE hR
        intro Q hQ
        go_wp2
        exact hQ _ _ _ rfl rfl (Below.refl _ _) trivial
      case s1 =>
        intro w' m' hE hR
        intro Q hQ
        go_wp2
        exact hQ _ _ _ rfl rfl (Below.refl _ _) trivial
      case s2 =>
        intro w' m' hE hR
        intro Q hQ
        have hsz := hE.size
        have HMK := hmk w'
        go_wp2
        exact hQ _ _ _ rfl ⟨w'.heap.size, rfl, by rw [unhide HZC]; exact rd_lit w' _ _⟩ ((Below.refl _ _).alloc (Nat.le_refl _) _) trivial
      case s3 =>
        intro w' m' hE hR
        rintro _ rfl Q hQ
        go_wp2
        exact hQ _ _ _ rfl rfl (Below.refl _ _) trivial
      case s4 =>
        intro w' m' hE hR
        rintro _ rfl Q hQ
        go_wp2
        exact hQ _ _ _ rfl rfl (Below.refl _ _) trivial
    intro w9 hE _
    rintro v0 - v1 - v2 ⟨q, rfl, rz⟩ v3 hv3 v4 hv4
    obtain rfl : v3 = _ := hv3
    obtain rfl : v4 = _ := hv4
    change wpList _ _ _ [_] _ _
    simp only [Act.put, List.setIfInBounds_toArray, List.set_cons_succ, List.set_cons_zero]
    have b9 := below_undrew hE
    clear hE hF
    go_wp2
    go_ret3
    exact ⟨A1, c1, s, B, cb, al, some ⟨q, 0, none⟩, 201, List.replicate 201 0, hs, ha, by simp, by rw [List.length_replicate]; rfl, (own_rd q2).new b9, (own_rd q3).new b9, rz, bthen' b4 b9 b4.size⟩
theorem DrawWastedTries_any (A : Option Addr) (c : Nat) (bs : List Int) (w : World) (h : Rd w A (bs.map (.int .u8))) (hw : ∀ b ∈ bs, 0 ≤ b ∧ b ≤ 255) (hc : bs.length ≤ c) (hm : c ≤ maxLen) :
    Calls Tryz.prog 28 #[.slice A bs.length c] w fun e w' => ∃ (A1 : Option Addr) (c1 : Nat) (s : List Ent) (B : Option Addr) (cb : Nat) (al : List Act) (M : Option Addr) (cm : Nat) (ms : List Int), s.length ≤ 7 ∧ al.length ≤ 11 ∧ ms.length ≤ 201 ∧ e = .returned (.tuple #[.slice A1 s.length c1, .slice B al.length cb, .slice M ms.length cm]) ∧ Rd w' A1 (s.flatMap encE) ∧ Rd w' B (al.flatMap encA) ∧ Rd w' M (ms.map (.int .i64)) ∧ Below w.heap.size w w' := by
  have K := DrawRunAhead_any A c bs w h hw hc hm
  go_enter Tryz.func28, Tryz.ntmps28
  go_wp2_with fail
  refine K.mono ?_
  rintro e w1 ⟨A1, c1, s, B, cb, al, M, cm, ms, h1, h2, h3, rfl, h4, h5, h6, h7⟩
  go_wp2
  go_ret3
  exact ⟨A1, c1, s, B, cb, al, M, cm, ms, h1, h2, h3, rfl, h4, h5, h6, h7⟩
end Go.Proofs.YtihlhejencninaaGreat
