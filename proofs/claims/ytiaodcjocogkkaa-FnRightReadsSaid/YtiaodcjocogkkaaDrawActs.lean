/- Rows of actions that are drawn. -/
import Derived.Test.YtiaodcjocogkkaaDrawAct
import Derived.Test.YtiaodcjocogkkaaFlatAction
namespace Go.Proofs.Ytiaodcjocogkkaa
open Go.RowKit
set_option linter.unusedVariables false
set_option linter.unusedSimpArgs false

theorem el_actD : El Try.prog 40 75 4 32 := El.mk_ Try.underlying40 info_act rfl (by omega)
theorem one_actsD (es : List Act) : ∀ u ∈ es.flatMap encA, u.oneCell' = true := by
  intro u hu
  obtain ⟨e, _, h⟩ := List.mem_flatMap.1 hu
  simp [encA] at h
  rcases h with rfl | rfl | rfl | rfl <;> rfl
theorem snoc_actsD (gs : List Act) (x : Act) : gs.flatMap encA ++ encA x = (gs ++ [x]).flatMap encA := by simp
set_option maxHeartbeats 4000000 in
theorem l20Actions_any (g N : Nat) (n : Int) (w : World) (h : Rdr w g N) (hN : N ≤ 900000) (hn : 0 ≤ n) (hn2 : n ≤ 1000000) :
    Calls Try.prog 94 #[.pointer (some ⟨g, 0, none⟩), .int .i64 n] w fun e w' => ∃ A c, ∃ xs : List Act, xs.length ≤ 11 ∧ e = .returned (.slice A xs.length c) ∧ w'.ownsRow w.heap.size 75 4 (.slice A xs.length c) xs.length (xs.flatMap encA) ∧ Rdr w' g (N + 200) ∧ Chg (fun k => k = g) w w' := by
  have hg := h.lt
  go_enter Try.func94, Try.ntmps94
  go_wp2_with fail
  refine (pick_any g N 7 _ (h.alloc _) (by omega) (by omega) (by omega)).mono ?_
  rintro e w1 ⟨v1, hv1, rfl, h1, ch1⟩
  have o1 := own_reader (own_made (base := w.heap.size) (e := 75) (size := 4) w #[] 0 (Nat.le_refl _) (by simp [maxLen]) rfl) ch1 hg
  have q1 := ((Chg.refl (fun k => k = g) w).alloc _).trans ch1
  go_wp2
  go_loopw [5, 6] (fun v i wr => ∃ (j : Nat) (A : Option Addr) (c : Nat) (xs : List Act), j ≤ 6 ∧ xs.length ≤ 6 - j ∧ i = .int .i64 j ∧ v = .slice A xs.length c ∧ wr.ownsRow w.heap.size 75 4 (.slice A xs.length c) xs.length (xs.flatMap encA) ∧ Rdr wr g (N + 1 + 20 * (6 - j)) ∧ Chg (fun k => k = g) w wr) (fun _ i _ => (intOf i).toNat)
  case atStart => exact ⟨v1, _, _, [], by omega, by simp, rfl, rfl, o1, h1.more (by omega), q1⟩
  case round =>
    clear o1 q1 h1
    obtain ⟨j, A, c, xs, hj, hxl, rfl, rfl, hown, hrd, hchg⟩ := hrel
    by_cases hlt : 0 < j
    · have hlt' : (0 : Int) < (j : Int) := by omega
      go_wp2_with fail
      refine (l20Action_any g _ 0 wr hrd (by omega) (by omega) (by omega)).mono ?_
      rintro e w2 ⟨x, -, rfl, h2, ch2⟩
      have o2 := own_reader hown ch2 hg
      have q2 := hchg.trans ch2
      clear hown hrd hchg ch2
      go_wp2_with (at_builtin; refine wpList_app rfl (.tmp 14) (.tmp 17) 40 rfl el_actD rfl (own_alloc o2 _) rfl (rd_lit w2 [.int .i64 x.kind, .int .i64 x.src, .int .i64 x.dst, .int .i64 x.amt] _) rfl (one_actsD [x]) (by simp only [maxLen]; omega) (by omega) (by have := q2.size; simp; omega) ?_; intro A7 c7 w7 o7 ch7 d7 _)
      go_roundw
      case rel => exact ⟨j - 1, A7, c7, xs ++ [x], by omega, by simp; omega, by go_num, by simp, by rw [← snoc_actsD]; simpa [encA] using o7, ((h2.alloc _).chg ch7 (fun k hk hA => by have := own_block o2 k (by rw [hA]; rfl); omega)).more (by omega), chg_g (q2.alloc _) (own_alloc o2 _) ch7 (Nat.le_refl _)⟩
      case measure => simp [intOf]; omega
    · have hj0 : (j : Int) ≤ 0 := by omega
      go_wp2_with fail
      refine (odd_any g _ n wr hrd (by omega) hn hn2).mono ?_
      rintro e w2 ⟨b, rfl, _, h2, ch2⟩
      have o2 := own_reader hown ch2 hg
      have q2 := hchg.trans ch2
      clear hown hrd hchg ch2
      cases b
      · go_wp2
        go_ret
        exact ⟨A, c, xs, by omega, rfl, o2, h2.more (by omega), q2⟩
      · go_wp2_with fail
        refine (pick_any g _ 2 w2 h2 (by omega) (by omega) (by omega)).mono ?_
        rintro e w3 ⟨v3, hv3, rfl, h3, ch3⟩
        have o3 := own_reader o2 ch3 hg
        have q3 := q2.trans ch3
        clear o2 q2 h2 ch3
        have hv : v3 = 0 ∨ v3 = 1 := by omega
        clear hv3
        rcases hv with rfl | rfl
        · go_wp2_with fail
          refine (l20Action_any g _ 1 w3 h3 (by omega) (by omega) (by omega)).mono ?_
          rintro e w4 ⟨x, -, rfl, h4, ch4⟩
          have o4 := own_reader o3 ch4 hg
          have q4 := q3.trans ch4
          clear o3 q3 h3 ch4
          go_wp2_with (at_builtin; refine wpList_app rfl (.tmp 25) (.tmp 28) 40 rfl el_actD rfl (own_alloc o4 _) rfl (rd_lit w4 [.int .i64 x.kind, .int .i64 x.src, .int .i64 x.dst, .int .i64 x.amt] _) rfl (one_actsD [x]) (by simp only [maxLen]; omega) (by omega) (by have := q4.size; simp; omega) ?_; intro A7 c7 w7 o7 ch7 d7 _)
          go_ret
          exact ⟨A7, c7, xs ++ [x], by simp; omega, by simp, by rw [← snoc_actsD]; simpa [encA] using o7, ((h4.alloc _).chg ch7 (fun k hk hA => by have := own_block o4 k (by rw [hA]; rfl); omega)).more (by omega), chg_g (q4.alloc _) (own_alloc o4 _) ch7 (Nat.le_refl _)⟩
        · go_wp2
          go_loopw [5] (fun v wr => ∃ (A : Option Addr) (c : Nat) (xs : List Act), xs.length ≤ 11 ∧ v = .slice A xs.length c ∧ wr.ownsRow w.heap.size 75 4 (.slice A xs.length c) xs.length (xs.flatMap encA) ∧ Rdr wr g (N + 190) ∧ Chg (fun k => k = g) w wr) (fun v _ => match v with | .slice _ n _ => 11 - n | _ => 0)
          case atStart => exact ⟨A, c, xs, by omega, rfl, o3, h3.more (by omega), q3⟩
          case round =>
            clear o3 q3 h3
            obtain ⟨A, c, xs, hxl, rfl, o4, h4, q4⟩ := hrel
            by_cases hl : xs.length ≤ 10
            · have hl' : (xs.length : Int) ≤ 10 := by omega
              go_wp2_with (at_builtin; refine wpList_app rfl (.tmp 33) (.tmp 35) 40 rfl el_actD rfl (own_alloc o4 _) rfl (rd_lit wr [.int .i64 1, .int .i64 0, .int .i64 0, .int .i64 0] _) rfl (one_actsD [⟨1, 0, 0, 0⟩]) (by simp only [maxLen]; omega) (by omega) (by have := q4.size; simp; omega) ?_; intro A7 c7 w7 o7 ch7 d7 _)
              go_roundw
              case rel => exact ⟨A7, c7, xs ++ [⟨1, 0, 0, 0⟩], by simp; omega, by simp, by rw [← snoc_actsD]; simpa [encA] using o7, (h4.alloc _).chg ch7 (fun k hk hA => by have := own_block o4 k (by rw [hA]; rfl); omega), chg_g (q4.alloc _) (own_alloc o4 _) ch7 (Nat.le_refl _)⟩
              case measure => simp; omega
            · have hl' : ¬ (xs.length : Int) ≤ 10 := by omega
              go_wp2
              go_ret
              exact ⟨A, c, xs, hxl, rfl, o4, h4.more (by omega), q4⟩
end Go.Proofs.Ytiaodcjocogkkaa
