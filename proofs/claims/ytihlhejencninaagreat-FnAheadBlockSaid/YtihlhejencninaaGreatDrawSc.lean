/- Scripts that are drawn; stores, actions and scripts (printed by gen_in.py from xdrawsc.in). -/
import Derived.Test.YtihlhejencninaaGreatGdraw
import Derived.Test.YtihlhejencninaaGreatGint
import Derived.Test.YtihlhejencninaaGreatCopyE
import Derived.Test.YtihlhejencninaaGreatGloc
import Derived.Deep.Cut
namespace Go.Proofs.YtihlhejencninaaGreat
open Go.RowKit
set_option linter.unusedVariables false
set_option linter.unusedSimpArgs false

set_option maxHeartbeats 4000000 in
theorem l20Script_any (g N : Nat) (many : Int) (w : World) (h : Rdr w g N) (hN : N ≤ 900000) (hn : 0 ≤ many) (hn2 : many ≤ 1000) :
    Calls Tryz.prog 59 #[.pointer (some ⟨g, 0, none⟩), .int .i64 many] w fun e w' => ∃ A c, ∃ xs : List Int, xs.length ≤ 15 ∧ e = .returned (.slice A xs.length c) ∧ w'.ownsRow w.heap.size 3 1 (.slice A xs.length c) xs.length (xs.map (.int .i64)) ∧ Rdr w' g (N + 40) ∧ Chg (fun k => k = g) w w' := by
  have hg := h.lt
  go_enter Tryz.func59, Tryz.ntmps59
  go_wp2_with fail
  refine (pick_any g N 16 _ (h.alloc _) (by omega) (by omega) (by omega)).mono ?_
  rintro e w1 ⟨v1, hv1, rfl, h1, ch1⟩
  have o1 := own_reader (own_made (base := w.heap.size) (e := 3) (size := 1) w #[] 0 (Nat.le_refl _) (by simp [maxLen]) rfl) ch1 hg
  have q1 := ((Chg.refl (fun k => k = g) w).alloc _).trans ch1
  go_wp2
  go_loopw [5, 6] (fun v i wr => ∃ (j : Nat) (A : Option Addr) (c : Nat) (xs : List Int), j ≤ 15 ∧ xs.length ≤ 15 - j ∧ i = .int .i64 j ∧ v = .slice A xs.length c ∧ wr.ownsRow w.heap.size 3 1 (.slice A xs.length c) xs.length (xs.map (.int .i64)) ∧ Rdr wr g (N + 1 + 2 * (15 - j)) ∧ Chg (fun k => k = g) w wr) (fun _ i _ => (intOf i).toNat)
  case atStart => exact ⟨v1, _, _, [], by omega, by simp, rfl, rfl, o1, h1.more (by omega), q1⟩
  case round =>
    clear o1 q1 h1
    obtain ⟨j, A, c, xs, hj, hxl, rfl, rfl, hown, hrd, hchg⟩ := hrel
    by_cases hlt : 0 < j
    · have hlt' : (0 : Int) < (j : Int) := by omega
      by_cases hmm : many ≤ 1
      · go_wp2_with fail
        refine (pick_any g _ (2) wr hrd (by omega) (by omega) (by omega)).mono ?_
        rintro e w2 ⟨v2, hv2, rfl, h2, ch2⟩
        have o2 := own_reader hown ch2 hg
        have q2 := hchg.trans ch2
        clear hown hrd hchg ch2
        go_wp2_with fail
        refine (pick_any g _ 24 w2 h2 (by omega) (by omega) (by omega)).mono ?_
        rintro e w3 ⟨v3, hv3, rfl, h3, ch3⟩
        have o3 := own_reader o2 ch3 hg
        have q3 := q2.trans ch3
        clear o2 q2 h2 ch3
        have hd0 : (0 : Int) ≤ (v3 : Int) / 23 ∧ (v3 : Int) / 23 ≤ 1 := by omega
        go_wp2_with (at_builtin; refine wpList_app rfl (.tmp 14) (.tmp 24) 26 rfl el_int rfl (own_alloc o3 _) rfl (rd_lit w3 [.int .i64 ((v2 : Int) - (v3 : Int) / 23)] _) rfl (one_ia [(v2 : Int) - (v3 : Int) / 23]) (by simp only [maxLen]; omega) (by omega) (by have := q3.size; simp; omega) ?_; intro A7 c7 w7 o7 ch7 d7 _)
        go_roundw
        case rel => exact ⟨j - 1, A7, c7, xs ++ [(v2 : Int) - (v3 : Int) / 23], by omega, by simp; omega, by go_num, by simp, by simpa using o7, ((h3.alloc _).chg ch7 (fun k hk hA => by have := own_block o3 k (by rw [hA]; rfl); omega)).more (by omega), chg_g (q3.alloc _) (own_alloc o3 _) ch7 (Nat.le_refl _)⟩
        case measure => simp [intOf]; omega
      · have hmm2 : ¬ many ≤ 1 := hmm
        go_wp2_with fail
        refine (pick_any g _ (many + 1) wr hrd (by omega) (by omega) (by omega)).mono ?_
        rintro e w2 ⟨v2, hv2, rfl, h2, ch2⟩
        have o2 := own_reader hown ch2 hg
        have q2 := hchg.trans ch2
        clear hown hrd hchg ch2
        go_wp2_with fail
        refine (pick_any g _ 24 w2 h2 (by omega) (by omega) (by omega)).mono ?_
        rintro e w3 ⟨v3, hv3, rfl, h3, ch3⟩
        have o3 := own_reader o2 ch3 hg
        have q3 := q2.trans ch3
        clear o2 q2 h2 ch3
        have hd0 : (0 : Int) ≤ (v3 : Int) / 23 ∧ (v3 : Int) / 23 ≤ 1 := by omega
        go_wp2_with (at_builtin; refine wpList_app rfl (.tmp 14) (.tmp 24) 26 rfl el_int rfl (own_alloc o3 _) rfl (rd_lit w3 [.int .i64 ((v2 : Int) - (v3 : Int) / 23)] _) rfl (one_ia [(v2 : Int) - (v3 : Int) / 23]) (by simp only [maxLen]; omega) (by omega) (by have := q3.size; simp; omega) ?_; intro A7 c7 w7 o7 ch7 d7 _)
        go_roundw
        case rel => exact ⟨j - 1, A7, c7, xs ++ [(v2 : Int) - (v3 : Int) / 23], by omega, by simp; omega, by go_num, by simp, by simpa using o7, ((h3.alloc _).chg ch7 (fun k hk hA => by have := own_block o3 k (by rw [hA]; rfl); omega)).more (by omega), chg_g (q3.alloc _) (own_alloc o3 _) ch7 (Nat.le_refl _)⟩
        case measure => simp [intOf]; omega
    · have hj0 : (j : Int) ≤ 0 := by omega
      go_wp2
      go_ret
      exact ⟨A, c, xs, by omega, rfl, hown, hrd.more (by omega), hchg⟩
end Go.Proofs.YtihlhejencninaaGreat
