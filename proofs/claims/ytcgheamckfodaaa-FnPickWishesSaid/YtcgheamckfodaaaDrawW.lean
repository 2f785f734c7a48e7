/- Wishes that are drawn. -/
import Derived.Test.YtcgheamckfodaaaDrawAct
import Derived.Test.YtcgheamckfodaaaWish
import Derived.Test.YtcgheamckfodaaaDrawA
import Derived.Test.YtcgheamckfodaaaLoc
import Derived.BigRegion
import Derived.Deep.RegionWith
import Derived.Deep.RegionLaw
import Derived.Deep.DrawnRows
import Derived.Outline
namespace Go.Proofs.Ytcgheamckfodaaa
open Go.RowKit
set_option linter.unusedVariables false
set_option linter.unusedSimpArgs false
attribute [local go_sem ↓] Go.wp_at_zero Go.wp_at_succ

theorem pick_lit (ns : List Int) (i : Nat) (hi : i < ns.length) : ∃ x, x ∈ ns ∧ (ns.map (Value.int .i64)).toArray[i]? = some (.int .i64 x) := ⟨ns[i], List.getElem_mem hi, by simp [hi]⟩
theorem el_wsh : El Try.prog 25 45 6 48 := El.mk_ Try.underlying25 info_wsh rfl (by omega)
theorem one_wshs (es : List Wsh) : ∀ u ∈ es.flatMap encW, u.oneCell' = true := by
  intro u hu
  obtain ⟨e, _, h⟩ := List.mem_flatMap.1 hu
  simp [encW] at h
  rcases h with rfl | rfl | rfl | rfl | rfl | rfl <;> rfl
theorem snoc_wshs (gs : List Wsh) (x : Wsh) : gs.flatMap encW ++ encW x = (gs ++ [x]).flatMap encW := by simp

theorem blk_st {g : Nat} {t : TypeId} {cs : Array Value} {a b : World} {q : Nat} (h : Blk a q t cs) (hq : q ≠ g) (hc : Chg (fun k => k = g) a b) : Blk b q t cs := h.chg hc hq
/-- what each operation of the round of l20Wishes is good for -/
def wishF (g : Nat) (A : Option Addr) (n c : Nat) (i : Nat) (v : Value) (w : World) : Prop :=
  match i with
  | 0 => v = .slice A n c
  | 1 => v = .pointer (some ⟨g, 0, none⟩)
  | 2 => ∃ a : Act, v = .agg #[.int .i64 a.kind, .int .i64 a.src, .int .i64 a.dst, .int .i64 a.amt]
  | 3 => v = .pointer (some ⟨g, 0, none⟩)
  | 4 => ∃ x : Nat, v = .int .i64 x
  | 5 => v = .pointer (some ⟨g, 0, none⟩)
  | 6 => ∃ x : Nat, v = .int .i64 x
  | 7 => ∃ (q : Nat) (x y : Int), v = .slice (some ⟨q, 0, none⟩) 3 3 ∧ q ≠ g ∧ Blk w q 3 #[.int .i64 x, .int .i64 y, .int .i64 1000]
  | 8 => ∃ q : Nat, v = .slice (some ⟨q, 0, none⟩) 4 4 ∧ q ≠ g ∧ Blk w q 3 #[.int .i64 0, .int .i64 0, .int .i64 1, .int .i64 2]
  | 9 => v = .pointer (some ⟨g, 0, none⟩)
  | 10 => ∃ x : Nat, x < 4 ∧ v = .int .i64 x
  | 11 => ∃ (q i x : Nat), x < 3 ∧ v = .pointer (some ⟨q, i, none⟩) ∧ q ≠ g ∧ q < w.heap.size ∧ w.cell? ⟨q, i, none⟩ = some (.int .i64 x)
  | 12 => ∃ x : Nat, x < 3 ∧ v = .int .i64 x
  | 13 => ∃ (q i : Nat) (x : Int), v = .pointer (some ⟨q, i, none⟩) ∧ q ≠ g ∧ q < w.heap.size ∧ w.cell? ⟨q, i, none⟩ = some (.int .i64 x)
  | 14 => ∃ x : Int, v = .int .i64 x
  | 15 => v = .pointer (some ⟨g, 0, none⟩)
  | 16 => ∃ x : Nat, v = .int .i64 x
  | 17 => ∃ x : Wsh, v = .agg #[.int .i64 x.kind, .int .i64 x.src, .int .i64 x.dst, .int .i64 x.amt, .int .i64 x.fee, .int .i64 x.who]
  | 18 => ∃ (q : Nat) (x : Wsh), v = .slice (some ⟨q, 0, none⟩) 1 1 ∧ q ≠ g ∧ Blk w q 45 #[.int .i64 x.kind, .int .i64 x.src, .int .i64 x.dst, .int .i64 x.amt, .int .i64 x.fee, .int .i64 x.who]
  | _ => True
theorem wishF_st {g : Nat} {A : Option Addr} {n c : Nat} (i : Nat) (v : Value) (a b : World) (hc : Chg (fun k => k = g) a b) (h : wishF g A n c i v a) : wishF g A n c i v b := by
  unfold wishF at *
  split at h
  case h_8 => obtain ⟨q, x, y, h1, h2, h3⟩ := h; exact ⟨q, x, y, h1, h2, h3.chg hc h2⟩
  case h_9 => obtain ⟨q, h1, h2, h3⟩ := h; exact ⟨q, h1, h2, h3.chg hc h2⟩
  case h_12 => obtain ⟨q, i, x, h0, h1, h2, h3, h4⟩ := h; exact ⟨q, i, x, h0, h1, h2, Nat.lt_of_lt_of_le h3 hc.size, hc.cell (p := ⟨q, i, none⟩) h4 h2⟩
  case h_14 => obtain ⟨q, i, x, h1, h2, h3, h4⟩ := h; exact ⟨q, i, x, h1, h2, Nat.lt_of_lt_of_le h3 hc.size, hc.cell (p := ⟨q, i, none⟩) h4 h2⟩
  case h_19 => obtain ⟨q, x, h1, h2, h3⟩ := h; exact ⟨q, x, h1, h2, h3.chg hc h2⟩
  all_goals exact h

set_option maxHeartbeats 4000000 in
theorem l20Wishes_any (g N : Nat) (n : Int) (w : World) (h : Rdr w g N) (hN : N ≤ 980000) (hn : 0 ≤ n) (hn2 : n ≤ 1000000) :
    Calls Try.prog 40 #[.pointer (some ⟨g, 0, none⟩), .int .i64 n] w fun e w' => ∃ A c, ∃ xs : List Wsh, xs.length ≤ 13 ∧ e = .returned (.slice A xs.length c) ∧ w'.ownsRow w.heap.size 45 6 (.slice A xs.length c) xs.length (xs.flatMap encW) ∧ Rdr w' g (N + 250) ∧ Chg (fun k => k = g) w w' := by
  have hg := h.lt
  go_enter Try.func40, Try.ntmps40
  go_wp2_with fail
  refine (pick_any g N 9 _ (h.alloc _) (by omega) (by omega) (by omega)).mono ?_
  rintro e w1 ⟨v1, hv1, rfl, h1, ch1⟩
  have o1 := own_reader (own_made (base := w.heap.size) (e := 45) (size := 6) w #[] 0 (Nat.le_refl _) (by simp [maxLen]) rfl) ch1 hg
  have q1 := ((Chg.refl (fun k => k = g) w).alloc _).trans ch1
  go_wp2
  go_loopw [5, 6] (fun v i wr => ∃ (j : Nat) (A : Option Addr) (c : Nat) (xs : List Wsh), j ≤ 8 ∧ xs.length ≤ 8 - j ∧ i = .int .i64 j ∧ v = .slice A xs.length c ∧ wr.ownsRow w.heap.size 45 6 (.slice A xs.length c) xs.length (xs.flatMap encW) ∧ Rdr wr g (N + 1 + 24 * (8 - j)) ∧ Chg (fun k => k = g) w wr) (fun _ i _ => (intOf i).toNat)
  case atStart => exact ⟨v1, _, _, [], by omega, by simp, rfl, rfl, o1, h1.more (by omega), q1⟩
  case round =>
    clear o1 q1 h1
    obtain ⟨j, A, c, xs, hj, hxl, rfl, rfl, hown, hrd, hchg⟩ := hrel
    by_cases hlt : 0 < j
    · have hd : decide (0 < (j : Int)) = true := by simp; omega
      have hgr := hrd.lt
      go_wp2
      refine wp_region_loc (by kernel_rfl) [(0, some 14), (1, some 15), (2, some 16), (3, some 17), (4, some 18), (5, some 19), (6, some 20), (7, some 21), (8, some 22), (9, some 23), (10, some 24), (11, some 25), (12, some 26), (13, some 27), (14, some 28), (15, some 29), (16, some 30), (17, some 31), (18, some 32)]
        [[], [], [(1, some 15)], [], [(3, some 17)], [], [(5, some 19)], [(4, some 18), (6, some 20)], [], [], [(9, some 23)], [(8, some 22), (10, some 24)], [(11, some 25)], [(7, some 21), (12, some 26)], [(13, some 27)], [], [(15, some 29)], [(2, some 16), (14, some 28), (16, some 30)], [(17, some 31)]] (by kernel_rfl)
        (wishF g A xs.length c) (Chg fun k => k = g) (rdrR g (N + 1 + 24 * (8 - j) + 24)) [0, 0, 20, 0, 1, 0, 1, 0, 0, 0, 1, 0, 0, 0, 0, 0, 1, 0, 0] 24 (by kernel_rfl)
        (Chg.refl _) (fun _ _ _ => Chg.trans) (fun i v a b _ h hc => wishF_st i v a b hc h) ⟨_, by omega, hrd.drew⟩ ?_ ?_
      · refine steps_cons ?s0 (steps_cons ?s1 (steps_cons ?s2 (steps_cons ?s3 (steps_cons ?s4 (steps_cons ?s5 (steps_cons ?s6 (steps_cons ?s7 (steps_cons ?s8 (steps_cons ?s9 (steps_cons ?s10 (steps_cons ?s11 (steps_cons ?s12 (steps_cons ?s13 (steps_cons ?s14 (steps_cons ?s15 (steps_cons ?s16 (steps_cons ?s17 (steps_cons ?s18 (steps_nil)))))))))))))))))))
        case s0 =>
          intro w' m hE hR Q hQ
          go_wp2
          exact hQ _ _ _ rfl rfl (Chg.refl _ _) hR
        case s1 =>
          intro w' m hE hR Q hQ
          go_wp2
          exact hQ _ _ _ rfl rfl (Chg.refl _ _) hR
        case s2 =>
          intro w' m hE hR
          intro v1 h1 Q hQ
          obtain rfl : v1 = _ := h1
          obtain ⟨N1, hN1, hr1⟩ := rdrR_use hR
          simp only [List.getD_cons_succ, List.getD_cons_zero] at hN1
          go_wp2_with fail
          refine (l20Action_any g N1 0 _ hr1 (by omega) (by omega) (by omega)).mono ?_
          rintro e w2 ⟨x, _, rfl, h2, ch2⟩
          go_wp2
          exact hQ _ _ _ rfl ⟨x, rfl⟩ ch2 ⟨N1 + 20, by omega, h2⟩
        case s3 =>
          intro w' m hE hR Q hQ
          go_wp2
          exact hQ _ _ _ rfl rfl (Chg.refl _ _) hR
        case s4 =>
          intro w' m hE hR
          intro v1 h1 Q hQ
          obtain rfl : v1 = _ := h1
          obtain ⟨N1, hN1, hr1⟩ := rdrR_use hR
          simp only [List.getD_cons_succ, List.getD_cons_zero] at hN1
          go_wp2_with fail
          refine (pick_any g N1 6 _ hr1 (by omega) (by omega) (by omega)).mono ?_
          rintro e w2 ⟨x, hx, rfl, h2, ch2⟩
          go_wp2
          exact hQ _ _ _ rfl ⟨x, rfl⟩ ch2 ⟨N1 + 1, by omega, h2⟩
        case s5 =>
          intro w' m hE hR Q hQ
          go_wp2
          exact hQ _ _ _ rfl rfl (Chg.refl _ _) hR
        case s6 =>
          intro w' m hE hR
          intro v1 h1 Q hQ
          obtain rfl : v1 = _ := h1
          obtain ⟨N1, hN1, hr1⟩ := rdrR_use hR
          simp only [List.getD_cons_succ, List.getD_cons_zero] at hN1
          go_wp2_with fail
          refine (pick_any g N1 256 _ hr1 (by omega) (by omega) (by omega)).mono ?_
          rintro e w2 ⟨x, hx, rfl, h2, ch2⟩
          go_wp2
          exact hQ _ _ _ rfl ⟨x, rfl⟩ ch2 ⟨N1 + 1, by omega, h2⟩
        case s7 =>
          intro w' m hE hR
          rintro v1 ⟨x, rfl⟩ v2 ⟨y, rfl⟩ Q hQ
          go_wp2
          exact hQ _ _ _ rfl ⟨_, x, y, rfl, by have := hE.size; simp at this; omega, Blk.new _ _ _⟩ ((Chg.refl _ _).alloc _) (by obtain ⟨N1, hN1, hr1⟩ := hR; exact ⟨N1, hN1, hr1.alloc _⟩)
        case s8 =>
          intro w' m hE hR Q hQ
          go_wp2
          exact hQ _ _ _ rfl ⟨_, rfl, by have := hE.size; simp at this; omega, Blk.new _ _ _⟩ ((Chg.refl _ _).alloc _) (by obtain ⟨N1, hN1, hr1⟩ := hR; exact ⟨N1, hN1, hr1.alloc _⟩)
        case s9 =>
          intro w' m hE hR Q hQ
          go_wp2
          exact hQ _ _ _ rfl rfl (Chg.refl _ _) hR
        case s10 =>
          intro w' m hE hR
          intro v1 h1 Q hQ
          obtain rfl : v1 = _ := h1
          obtain ⟨N1, hN1, hr1⟩ := rdrR_use hR
          simp only [List.getD_cons_succ, List.getD_cons_zero] at hN1
          go_wp2_with fail
          refine (pick_any g N1 4 _ hr1 (by omega) (by omega) (by omega)).mono ?_
          rintro e w2 ⟨x, hx, rfl, h2, ch2⟩
          go_wp2
          exact hQ _ _ _ rfl ⟨x, by omega, rfl⟩ ch2 ⟨N1 + 1, by omega, h2⟩
        case s11 =>
          intro w' m hE hR
          rintro v1 ⟨q, rfl, hq, hk⟩ v2 ⟨x, hx, rfl⟩ Q hQ
          obtain ⟨y, hy, hc⟩ : ∃ y : Nat, y < 3 ∧ w'.cell? ⟨q, x, none⟩ = some (.int .i64 y) := by
            rw [hk.cell]
            rcases x with _ | _ | _ | _ | x
            · exact ⟨0, by omega, rfl⟩
            · exact ⟨0, by omega, rfl⟩
            · exact ⟨1, by omega, rfl⟩
            · exact ⟨2, by omega, rfl⟩
            · omega
          have i1 : (x : Int) < 4 := by omega
          go_wp2
          exact hQ _ _ _ rfl ⟨q, x, y, hy, by simp, hq, hk.lt, hc⟩ (Chg.refl _ _) hR
        case s12 =>
          intro w' m hE hR
          rintro v1 ⟨q, i, x, hx, rfl, hq, hl, hc⟩ Q hQ
          go_wp2
          exact hQ _ _ _ rfl ⟨x, hx, rfl⟩ (Chg.refl _ _) hR
        case s13 =>
          intro w' m hE hR
          rintro v1 ⟨q, x, y, rfl, hq, hk⟩ v2 ⟨z, hz, rfl⟩ Q hQ
          obtain ⟨u, hc⟩ : ∃ u : Int, w'.cell? ⟨q, z, none⟩ = some (.int .i64 u) := by
            rw [hk.cell]
            rcases z with _ | _ | _ | z
            · exact ⟨x, rfl⟩
            · exact ⟨y, rfl⟩
            · exact ⟨1000, rfl⟩
            · omega
          have i1 : (z : Int) < 3 := by omega
          go_wp2
          exact hQ _ _ _ rfl ⟨q, z, u, by simp, hq, hk.lt, hc⟩ (Chg.refl _ _) hR
        case s14 =>
          intro w' m hE hR
          rintro v1 ⟨q, i, x, rfl, hq, hl, hc⟩ Q hQ
          go_wp2
          exact hQ _ _ _ rfl ⟨x, rfl⟩ (Chg.refl _ _) hR
        case s15 =>
          intro w' m hE hR Q hQ
          go_wp2
          exact hQ _ _ _ rfl rfl (Chg.refl _ _) hR
        case s16 =>
          intro w' m hE hR
          intro v1 h1 Q hQ
          obtain rfl : v1 = _ := h1
          obtain ⟨N1, hN1, hr1⟩ := rdrR_use hR
          simp only [List.getD_cons_succ, List.getD_cons_zero] at hN1
          go_wp2_with fail
          refine (pick_any g N1 4 _ hr1 (by omega) (by omega) (by omega)).mono ?_
          rintro e w2 ⟨x, hx, rfl, h2, ch2⟩
          go_wp2
          exact hQ _ _ _ rfl ⟨x, rfl⟩ ch2 ⟨N1 + 1, by omega, h2⟩
        case s17 =>
          intro w' m hE hR
          rintro v1 ⟨a, rfl⟩ v2 ⟨x, rfl⟩ v3 ⟨y, rfl⟩ Q hQ
          go_wp2
          exact hQ _ _ _ rfl ⟨⟨a.kind, a.src, a.dst, a.amt, x, y⟩, rfl⟩ (Chg.refl _ _) hR
        case s18 =>
          intro w' m hE hR
          rintro v1 ⟨x, rfl⟩ Q hQ
          go_wp2
          exact hQ _ _ _ rfl ⟨_, x, rfl, by have := hE.size; simp at this; omega, Blk.new _ _ _⟩ ((Chg.refl _ _).alloc _) (by obtain ⟨N1, hN1, hr1⟩ := hR; exact ⟨N1, hN1, hr1.alloc _⟩)
      · intro w' hE hR
        rintro v0 h0 v1 h1 v2 h2 v3 h3 v4 h4 v5 h5 v6 h6 v7 h7 v8 h8 v9 h9 v10 h10 v11 h11 v12 h12 v13 h13 v14 h14 v15 h15 v16 h16 v17 h17 v18 ⟨q, x, rfl, hq, hk⟩
        obtain rfl : v0 = _ := h0
        clear h1 h2 h3 h4 h5 h6 h7 h8 h9 h10 h11 h12 h13 h14 h15 h16 h17
        obtain ⟨N1, hN1, hr1⟩ := hR
        have o1 := own_reader hown (chg_undrew hE) hg
        have q1 := hchg.trans (chg_undrew hE)
        clear hown hrd hchg
        change wpList _ _ _ [_, _] _ _
        simp only [Act.put, List.setIfInBounds_toArray, List.set_cons_succ, List.set_cons_zero]
        go_wp2_with (at_builtin; refine wpList_app rfl (.tmp 14) (.tmp 32) 25 rfl el_wsh rfl o1 rfl (rd_blk hk) rfl (one_wshs [x]) (by simp only [maxLen]; omega) (by omega) (by have := q1.size; omega) ?_; intro A7 c7 w7 o7 ch7 d7 _)
        go_roundw
        case rel => exact ⟨j - 1, A7, c7, xs ++ [x], by omega, by simp; omega, by go_num, by simp, by rw [← snoc_wshs]; simpa [encW] using o7, (hr1.chg ch7 (fun k hk hA => by have := own_block o1 k (by rw [hA]; rfl); omega)).more (by omega), chg_g q1 o1 ch7 (Nat.le_refl _)⟩
        case measure => simp [intOf]; omega
    · obtain rfl : j = 0 := by omega
      go_wp2_with fail
      refine (odd_any g _ n wr hrd (by omega) hn hn2).mono ?_
      rintro e w2 ⟨b, rfl, -, h2, ch2⟩
      have o2 := own_reader hown ch2 hg
      have q2 := hchg.trans ch2
      clear ch2 hown hchg hrd
      cases b
      · go_wp2_with fail
        refine (odd_any g _ 24 w2 h2 (by omega) (by omega) (by omega)).mono ?_
        rintro e w3 ⟨b, rfl, -, h3, ch3⟩
        have o3 := own_reader o2 ch3 hg
        have q3 := q2.trans ch3
        clear ch3 o2 q2 h2
        cases b
        · go_wp2
          go_ret
          exact ⟨A, c, xs, by omega, rfl, o3, h3.more (by omega), q3⟩
        · go_wp2
          go_loopw [5] (fun v wr => ∃ (A : Option Addr) (c : Nat) (xs : List Wsh), xs.length ≤ 13 ∧ v = .slice A xs.length c ∧ wr.ownsRow w.heap.size 45 6 (.slice A xs.length c) xs.length (xs.flatMap encW) ∧ Rdr wr g (N + 245) ∧ Chg (fun k => k = g) w wr) (fun v _ => match v with | .slice _ n _ => 13 - n | _ => 0)
          case atStart => exact ⟨A, c, xs, by omega, rfl, o3, h3.more (by omega), q3⟩
          case round =>
            clear o3 q3 h3
            obtain ⟨A, c, xs, hxl, rfl, o4, h4, q4⟩ := hrel
            by_cases hl : xs.length ≤ 12
            · have hl' : (xs.length : Int) ≤ 12 := by omega
              go_wp2_with (at_builtin; refine wpList_app rfl (.tmp 57) (.tmp 60) 25 rfl el_wsh rfl (own_alloc o4 _) rfl (rd_lit wr [.int .i64 1, .int .i64 0, .int .i64 0, .int .i64 0, .int .i64 0, .int .i64 0] _) rfl (one_wshs [⟨1, 0, 0, 0, 0, 0⟩]) (by simp only [maxLen]; omega) (by omega) (by have := q4.size; simp; omega) ?_; intro A7 c7 w7 o7 ch7 d7 _)
              go_roundw
              case rel => exact ⟨A7, c7, xs ++ [⟨1, 0, 0, 0, 0, 0⟩], by simp; omega, by simp, by rw [← snoc_wshs]; simpa [encW] using o7, (h4.alloc _).chg ch7 (fun k hk hA => by have := own_block o4 k (by rw [hA]; rfl); omega), chg_g (q4.alloc _) (own_alloc o4 _) ch7 (Nat.le_refl _)⟩
              case measure => simp; omega
            · have hl' : ¬ (xs.length : Int) ≤ 12 := by omega
              go_wp2
              go_ret
              exact ⟨A, c, xs, hxl, rfl, o4, h4.more (by omega), q4⟩
      · go_wp2_with fail
        refine (pick_any g _ 4 _ (h2.alloc _) (by omega) (by omega) (by omega)).mono ?_
        rintro e w3 ⟨v3, hv3, rfl, h3, ch3⟩
        have o3 := own_reader (own_alloc o2 _) ch3 hg
        have q3 := (q2.alloc _).trans ch3
        have kb := Blk.chg (Blk.new w2 45 _) ch3 (by have := h2.lt; omega)
        clear ch3 o2 q2 h2
        have hv : v3 = 0 ∨ v3 = 1 ∨ v3 = 2 ∨ v3 = 3 := by omega
        clear hv3
        rcases hv with rfl | rfl | rfl | rfl
        · have z0 : w3.cell? ⟨w2.heap.size, 0, none⟩ = some (.int .i64 0) := kb.cell 0
          have z1 : w3.cell? ⟨w2.heap.size, 1, none⟩ = some (.int .i64 0) := kb.cell 1
          have z2 : w3.cell? ⟨w2.heap.size, 2, none⟩ = some (.int .i64 0) := kb.cell 2
          have z3 : w3.cell? ⟨w2.heap.size, 3, none⟩ = some (.int .i64 0) := kb.cell 3
          have z4 : w3.cell? ⟨w2.heap.size, 4, none⟩ = some (.int .i64 0) := kb.cell 4
          have z5 : w3.cell? ⟨w2.heap.size, 5, none⟩ = some (.int .i64 0) := kb.cell 5
          clear kb
          go_wp2_with (at_builtin; refine wpList_app rfl (.tmp 37) (.tmp 50) 25 rfl el_wsh rfl (own_alloc o3 _) rfl (rd_lit w3 [.int .i64 0, .int .i64 0, .int .i64 0, .int .i64 0, .int .i64 0, .int .i64 0] _) rfl (one_wshs [⟨0, 0, 0, 0, 0, 0⟩]) (by simp only [maxLen]; omega) (by omega) (by have := q3.size; simp; omega) ?_; intro A7 c7 w7 o7 ch7 d7 _)
          go_ret
          exact ⟨A7, c7, xs ++ [⟨0, 0, 0, 0, 0, 0⟩], by simp; omega, by simp, by rw [← snoc_wshs]; simpa [encW] using o7, ((h3.alloc _).chg ch7 (fun k hk hA => by have := own_block o3 k (by rw [hA]; rfl); omega)).more (by omega), chg_g (q3.alloc _) (own_alloc o3 _) ch7 (Nat.le_refl _)⟩
        · have z0 : w3.cell? ⟨w2.heap.size, 6, none⟩ = some (.int .i64 1) := kb.cell 6
          have z1 : w3.cell? ⟨w2.heap.size, 7, none⟩ = some (.int .i64 0) := kb.cell 7
          have z2 : w3.cell? ⟨w2.heap.size, 8, none⟩ = some (.int .i64 0) := kb.cell 8
          have z3 : w3.cell? ⟨w2.heap.size, 9, none⟩ = some (.int .i64 0) := kb.cell 9
          have z4 : w3.cell? ⟨w2.heap.size, 10, none⟩ = some (.int .i64 0) := kb.cell 10
          have z5 : w3.cell? ⟨w2.heap.size, 11, none⟩ = some (.int .i64 4) := kb.cell 11
          clear kb
          go_wp2_with (at_builtin; refine wpList_app rfl (.tmp 37) (.tmp 50) 25 rfl el_wsh rfl (own_alloc o3 _) rfl (rd_lit w3 [.int .i64 1, .int .i64 0, .int .i64 0, .int .i64 0, .int .i64 0, .int .i64 4] _) rfl (one_wshs [⟨1, 0, 0, 0, 0, 4⟩]) (by simp only [maxLen]; omega) (by omega) (by have := q3.size; simp; omega) ?_; intro A7 c7 w7 o7 ch7 d7 _)
          go_ret
          exact ⟨A7, c7, xs ++ [⟨1, 0, 0, 0, 0, 4⟩], by simp; omega, by simp, by rw [← snoc_wshs]; simpa [encW] using o7, ((h3.alloc _).chg ch7 (fun k hk hA => by have := own_block o3 k (by rw [hA]; rfl); omega)).more (by omega), chg_g (q3.alloc _) (own_alloc o3 _) ch7 (Nat.le_refl _)⟩
        · have z0 : w3.cell? ⟨w2.heap.size, 12, none⟩ = some (.int .i64 1) := kb.cell 12
          have z1 : w3.cell? ⟨w2.heap.size, 13, none⟩ = some (.int .i64 0) := kb.cell 13
          have z2 : w3.cell? ⟨w2.heap.size, 14, none⟩ = some (.int .i64 0) := kb.cell 14
          have z3 : w3.cell? ⟨w2.heap.size, 15, none⟩ = some (.int .i64 0) := kb.cell 15
          have z4 : w3.cell? ⟨w2.heap.size, 16, none⟩ = some (.int .i64 1001) := kb.cell 16
          have z5 : w3.cell? ⟨w2.heap.size, 17, none⟩ = some (.int .i64 0) := kb.cell 17
          clear kb
          go_wp2_with (at_builtin; refine wpList_app rfl (.tmp 37) (.tmp 50) 25 rfl el_wsh rfl (own_alloc o3 _) rfl (rd_lit w3 [.int .i64 1, .int .i64 0, .int .i64 0, .int .i64 0, .int .i64 1001, .int .i64 0] _) rfl (one_wshs [⟨1, 0, 0, 0, 1001, 0⟩]) (by simp only [maxLen]; omega) (by omega) (by have := q3.size; simp; omega) ?_; intro A7 c7 w7 o7 ch7 d7 _)
          go_ret
          exact ⟨A7, c7, xs ++ [⟨1, 0, 0, 0, 1001, 0⟩], by simp; omega, by simp, by rw [← snoc_wshs]; simpa [encW] using o7, ((h3.alloc _).chg ch7 (fun k hk hA => by have := own_block o3 k (by rw [hA]; rfl); omega)).more (by omega), chg_g (q3.alloc _) (own_alloc o3 _) ch7 (Nat.le_refl _)⟩
        · have z0 : w3.cell? ⟨w2.heap.size, 18, none⟩ = some (.int .i64 1) := kb.cell 18
          have z1 : w3.cell? ⟨w2.heap.size, 19, none⟩ = some (.int .i64 0) := kb.cell 19
          have z2 : w3.cell? ⟨w2.heap.size, 20, none⟩ = some (.int .i64 0) := kb.cell 20
          have z3 : w3.cell? ⟨w2.heap.size, 21, none⟩ = some (.int .i64 0) := kb.cell 21
          have z4 : w3.cell? ⟨w2.heap.size, 22, none⟩ = some (.int .i64 (-1)) := kb.cell 22
          have z5 : w3.cell? ⟨w2.heap.size, 23, none⟩ = some (.int .i64 0) := kb.cell 23
          clear kb
          go_wp2_with (at_builtin; refine wpList_app rfl (.tmp 37) (.tmp 50) 25 rfl el_wsh rfl (own_alloc o3 _) rfl (rd_lit w3 [.int .i64 1, .int .i64 0, .int .i64 0, .int .i64 0, .int .i64 (-1), .int .i64 0] _) rfl (one_wshs [⟨1, 0, 0, 0, -1, 0⟩]) (by simp only [maxLen]; omega) (by omega) (by have := q3.size; simp; omega) ?_; intro A7 c7 w7 o7 ch7 d7 _)
          go_ret
          exact ⟨A7, c7, xs ++ [⟨1, 0, 0, 0, -1, 0⟩], by simp; omega, by simp, by rw [← snoc_wshs]; simpa [encW] using o7, ((h3.alloc _).chg ch7 (fun k hk hA => by have := own_block o3 k (by rw [hA]; rfl); omega)).more (by omega), chg_g (q3.alloc _) (own_alloc o3 _) ch7 (Nat.le_refl _)⟩
end Go.Proofs.Ytcgheamckfodaaa
