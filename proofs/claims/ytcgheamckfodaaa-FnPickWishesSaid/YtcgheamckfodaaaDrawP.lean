/- Wishes that are drawn, with a number. -/
import Derived.Test.YtcgheamckfodaaaDrawW
import Derived.Test.YtcgheamckfodaaaLocR
namespace Go.Proofs.Ytcgheamckfodaaa
open Go.RowKit
set_option linter.unusedVariables false
set_option linter.unusedSimpArgs false
attribute [local go_sem ↓] Go.wp_at_zero Go.wp_at_succ

theorem drawWishes_any (A : Option Addr) (c : Nat) (bs : List Int) (w : World) (h : Rd w A (bs.map (.int .u8))) (hw : ∀ b ∈ bs, 0 ≤ b ∧ b ≤ 255) (hc : bs.length ≤ c) (hm : c ≤ maxLen) :
    Calls Try.prog 25 #[.slice A bs.length c] w fun e w' => ∃ A' c', ∃ xs : List Wsh, xs.length ≤ 13 ∧ e = .returned (.slice A' xs.length c') ∧ Rd w' A' (xs.flatMap encW) ∧ xs.length ≤ c' ∧ c' ≤ maxLen ∧ Below w.heap.size w w' := by
  have hm2 : bs.length ≤ 9223372036854775807 := by simp only [maxLen] at hm; omega
  go_enter Try.func25, Try.ntmps25
  go_wp2_with fail
  refine (open_any A c bs w h hw hc hm).mono ?_
  rintro e w1 ⟨rfl, r1, b1⟩
  go_wp2_with fail
  refine (l20Wishes_any _ 0 2 w1 r1 (by omega) (by omega) (by omega)).mono ?_
  rintro e w2 ⟨A2, c2, xs, hl, rfl, o2, h2, ch2⟩
  go_wp2
  go_ret
  exact ⟨A2, c2, xs, hl, rfl, own_rd o2, (own_cap o2).1, (own_cap o2).2, b1.trans (ch2.below (fun k hk => by omega) b1.size)⟩
set_option maxHeartbeats 1000000 in
theorem drawPick_any (A : Option Addr) (c : Nat) (bs : List Int) (w : World) (h : Rd w A (bs.map (.int .u8))) (hw : ∀ b ∈ bs, 0 ≤ b ∧ b ≤ 255) (hc : bs.length ≤ c) (hm : c ≤ maxLen) :
    Calls Try.prog 27 #[.slice A bs.length c] w fun e w' => ∃ A' c', ∃ xs : List Wsh, ∃ n : Int, xs.length ≤ 13 ∧ -1 ≤ n ∧ n ≤ 11 ∧ e = .returned (.tuple #[.slice A' xs.length c', .int .i64 n]) ∧ Rd w' A' (xs.flatMap encW) ∧ Below w.heap.size w w' := by
  have hm2 : bs.length ≤ 9223372036854775807 := by simp only [maxLen] at hm; omega
  go_enter Try.func27, Try.ntmps27
  go_wp2_with fail
  refine (open_any A c bs w h hw hc hm).mono ?_
  rintro e w1 ⟨rfl, r1, b1⟩
  go_wp2_with fail
  refine (l20Wishes_any _ 0 9 w1 r1 (by omega) (by omega) (by omega)).mono ?_
  rintro e w2 ⟨A2, c2, xs, hl, rfl, o2, h2, ch2⟩
  have hg2 := h2.lt
  have hg1 := r1.lt
  have hb2 := b1.trans (ch2.below (fun k hk => by omega) b1.size)
  clear ch2 r1 h
  go_wp2
  refine wp_region_loc (by kernel_rfl) [(0, some 10), (1, some 11), (2, some 12), (3, some 13), (4, some 14), (5, some 15), (6, some 16), (7, some 17), (8, some 18), (9, some 19), (10, some 20), (11, some 2)]
    [[], [], [(1, some 11)], [(2, some 12)], [], [], [(5, some 15)], [(4, some 14), (6, some 16)], [(7, some 17)], [(3, some 13), (8, some 18)], [(9, some 19)], [(0, some 10)]] (by kernel_rfl)
    (locF [kV (.slice A2 xs.length c2), kV (.pointer (some ⟨w.heap.size, 0, none⟩)), kInt 0 5, kRow w.heap.size 3 4 (-1) (11), kRow w.heap.size 3 7 (0) (3), kV (.pointer (some ⟨w.heap.size, 0, none⟩)), kInt 0 6, kPtr w.heap.size (0) (3), kInt (0) (3), kPtr w.heap.size (-1) (11), kInt (-1) (11), kV (.slice A2 xs.length c2)])
    (Chg fun k => k = w.heap.size) (rdrR w.heap.size ((0 + 250) + 2)) [0, 0, 1, 0, 0, 0, 1, 0, 0, 0, 0, 0] 2 (by kernel_rfl)
    (Chg.refl _) (fun _ _ _ => Chg.trans) (fun i v a b h1 h2 hc => locF_st ((stl_cons (st_V _) (stl_cons (st_V _) (stl_cons (st_Int _ _) (stl_cons (st_Row _ _ _ _) (stl_cons (st_Row _ _ _ _) (stl_cons (st_V _) (stl_cons (st_Int _ _) (stl_cons (st_Ptr _ _) (stl_cons (st_Int _ _) (stl_cons (st_Ptr _ _) (stl_cons (st_Int _ _) (stl_cons (st_V _) stl_nil))))))))))))) i v a b _ h1 h2 hc) ⟨_, by omega, (h2).drew⟩ ?_ ?_
  · refine steps_cons ?s0 (steps_cons ?s1 (steps_cons ?s2 (steps_cons ?s3 (steps_cons ?s4 (steps_cons ?s5 (steps_cons ?s6 (steps_cons ?s7 (steps_cons ?s8 (steps_cons ?s9 (steps_cons ?s10 (steps_cons ?s11 (steps_nil))))))))))))
    case s0 =>
      intro w1 m hE hR
      intro Q hQ
      go_wp2
      exact hQ _ _ _ rfl rfl (Chg.refl _ _) hR
    case s1 =>
      intro w1 m hE hR
      intro Q hQ
      go_wp2
      exact hQ _ _ _ rfl rfl (Chg.refl _ _) hR
    case s2 =>
      intro w1 m hE hR
      rintro _ rfl
      intro Q hQ
      obtain ⟨N1, hN1, hr1⟩ := rdrR_use hR
      simp only [List.getD_cons_succ, List.getD_cons_zero] at hN1
      go_wp2_with fail
      refine (pick_any w.heap.size N1 6 _ hr1 (by omega) (by omega) (by omega)).mono ?_
      rintro e w2 ⟨x, hx, rfl, h2, ch2⟩
      go_wp2
      exact hQ _ _ _ rfl ⟨_, rfl, by omega, by omega⟩ ch2 ⟨N1 + 1, by omega, h2⟩
    case s3 =>
      intro w1 m hE hR
      rintro _ ⟨x0, rfl, l0, h0⟩
      intro Q hQ
      go_wp2
      exact hQ _ _ _ rfl (kRow_new [x0, 10, 11, (-1)] 3 (-1) (11) hg2 hE (by intro i hi; simp at hi; rcases i with _ | _ | _ | _ | i <;> simp <;> omega)) ((Chg.refl _ _).alloc _) (rdrR_alloc hR _)
    case s4 =>
      intro w1 m hE hR
      intro Q hQ
      go_wp2
      exact hQ _ _ _ rfl (kRow_new [0, 0, 0, 1, 1, 2, 3] 3 (0) (3) hg2 hE (by intro i hi; simp at hi; rcases i with _ | _ | _ | _ | _ | _ | _ | i <;> simp <;> omega)) ((Chg.refl _ _).alloc _) (rdrR_alloc hR _)
    case s5 =>
      intro w1 m hE hR
      intro Q hQ
      go_wp2
      exact hQ _ _ _ rfl rfl (Chg.refl _ _) hR
    case s6 =>
      intro w1 m hE hR
      rintro _ rfl
      intro Q hQ
      obtain ⟨N1, hN1, hr1⟩ := rdrR_use hR
      simp only [List.getD_cons_succ, List.getD_cons_zero] at hN1
      go_wp2_with fail
      refine (pick_any w.heap.size N1 7 _ hr1 (by omega) (by omega) (by omega)).mono ?_
      rintro e w2 ⟨x, hx, rfl, h2, ch2⟩
      go_wp2
      exact hQ _ _ _ rfl ⟨_, rfl, by omega, by omega⟩ ch2 ⟨N1 + 1, by omega, h2⟩
    case s7 =>
      intro w1 m hE hR
      rintro _ ⟨q0, zs0, rfl, a0, b0, c0, d0⟩ _ ⟨x1, rfl, l1, h1⟩
      intro Q hQ
      obtain ⟨i, z, e1, e2, e3, e4, e5, e6⟩ := kRow_cell (g := w.heap.size) b0 c0 d0 (x := x1) (by omega) (by omega)
      subst e1
      have i1 : (i : Int) < 7 := by omega
      go_wp2
      exact hQ _ _ _ rfl ⟨q0, i, z, by first | rfl | simp, a0, e3, e4, e5, e6⟩ (Chg.refl _ _) hR
    case s8 =>
      intro w1 m hE hR
      rintro _ ⟨q0, i0, z0, rfl, a0, b0, c0, d0, e0⟩
      intro Q hQ
      go_wp2
      exact hQ _ _ _ rfl ⟨_, rfl, by omega, by omega⟩ (Chg.refl _ _) hR
    case s9 =>
      intro w1 m hE hR
      rintro _ ⟨q0, zs0, rfl, a0, b0, c0, d0⟩ _ ⟨x1, rfl, l1, h1⟩
      intro Q hQ
      obtain ⟨i, z, e1, e2, e3, e4, e5, e6⟩ := kRow_cell (g := w.heap.size) b0 c0 d0 (x := x1) (by omega) (by omega)
      subst e1
      have i1 : (i : Int) < 4 := by omega
      go_wp2
      exact hQ _ _ _ rfl ⟨q0, i, z, by first | rfl | simp, a0, e3, e4, e5, e6⟩ (Chg.refl _ _) hR
    case s10 =>
      intro w1 m hE hR
      rintro _ ⟨q0, i0, z0, rfl, a0, b0, c0, d0, e0⟩
      intro Q hQ
      go_wp2
      exact hQ _ _ _ rfl ⟨_, rfl, by omega, by omega⟩ (Chg.refl _ _) hR
    case s11 =>
      intro w1 m hE hR
      rintro _ rfl
      intro Q hQ
      go_wp2
      exact hQ _ _ _ rfl rfl (Chg.refl _ _) hR
  · intro w1 hE hR
    rintro _ rfl _ rfl _ ⟨x2, rfl, l2, h2⟩ v3 f3 v4 f4 _ rfl _ ⟨x6, rfl, l6, h6⟩ v7 f7 _ ⟨x8, rfl, l8, h8⟩ v9 f9 _ ⟨x10, rfl, l10, h10⟩ _ rfl
    clear f3 f4 f7 f9
    obtain ⟨N1, hN1, hr1⟩ := hR
    replace hE := chg_undrew hE
    change wpList _ _ _ [_] _ _
    simp only [Act.put, List.setIfInBounds_toArray, List.set_cons_succ, List.set_cons_zero]
    go_wp2
    go_ret2
    exact ⟨A2, c2, xs, _, hl, by omega, by omega, rfl, own_rd (own_reader o2 hE (by omega)), hb2.trans (hE.below (fun k hk => by omega) hb2.size)⟩
theorem drawPicked_any (A : Option Addr) (c : Nat) (bs : List Int) (w : World) (h : Rd w A (bs.map (.int .u8))) (hw : ∀ b ∈ bs, 0 ≤ b ∧ b ≤ 255) (hc : bs.length ≤ c) (hm : c ≤ maxLen) :
    Calls Try.prog 29 #[.slice A bs.length c] w fun e w' => ∃ A' c', ∃ xs : List Wsh, ∃ n : Int, xs.length ≤ 13 ∧ -1 ≤ n ∧ n ≤ 11 ∧ e = .returned (.tuple #[.slice A' xs.length c', .int .i64 n]) ∧ Rd w' A' (xs.flatMap encW) ∧ Below w.heap.size w w' := by
  have hm2 : bs.length ≤ 9223372036854775807 := by simp only [maxLen] at hm; omega
  go_enter Try.func29, Try.ntmps29
  go_wp2_with fail
  refine (drawPick_any A c bs w h hw hc hm).mono ?_
  rintro e w1 ⟨A2, c2, xs, n, h1, h2, h3, rfl, h4, h5⟩
  go_wp2
  go_ret2
  exact ⟨A2, c2, xs, n, h1, h2, h3, rfl, h4, h5⟩
end Go.Proofs.Ytcgheamckfodaaa
