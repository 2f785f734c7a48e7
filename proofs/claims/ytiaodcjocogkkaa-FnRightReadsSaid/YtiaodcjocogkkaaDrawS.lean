/- Stores and differences that are drawn. -/
import Derived.Test.YtiaodcjocogkkaaDrawC
import Derived.Test.YtiaodcjocogkkaaDrawKV
import Derived.Test.YtiaodcjocogkkaaStoreS
namespace Go.Proofs.Ytiaodcjocogkkaa
open Go.RowKit
set_option linter.unusedVariables false
set_option linter.unusedSimpArgs false

theorem l20Store_any (g N : Nat) (n : Int) (w : World) (h : Rdr w g N) (hN : N ≤ 990000) (hn : 0 ≤ n) (hn2 : n ≤ 1000000) :
    Calls Try.prog 93 #[.pointer (some ⟨g, 0, none⟩), .int .i64 n] w fun e w' => ∃ A c, ∃ xs : List Ent, xs.length ≤ 7 ∧ e = .returned (.slice A xs.length c) ∧ w'.ownsRow w.heap.size 80 2 (.slice A xs.length c) xs.length (xs.flatMap encE) ∧ Rdr w' g (N + 60) ∧ Chg (fun k => k = g) w w' := by
  have hg := h.lt
  go_enter Try.func93, Try.ntmps93
  go_wp2_with fail
  refine (pick_any g N 7 _ (h.alloc _) (by omega) (by omega) (by omega)).mono ?_
  rintro e w1 ⟨v1, hv1, rfl, h1, ch1⟩
  have o1 := own_reader (own_made (base := w.heap.size) (e := 80) (size := 2) w #[] 0 (Nat.le_refl _) (by simp [maxLen]) rfl) ch1 hg
  have q1 := ((Chg.refl (fun k => k = g) w).alloc _).trans ch1
  go_wp2
  go_loopw [5, 6] (fun v i wr => ∃ (j : Nat) (A : Option Addr) (c : Nat) (xs : List Ent), j ≤ 6 ∧ xs.length ≤ 6 - j ∧ i = .int .i64 j ∧ v = .slice A xs.length c ∧ wr.ownsRow w.heap.size 80 2 (.slice A xs.length c) xs.length (xs.flatMap encE) ∧ Rdr wr g (N + 1 + 6 * (6 - j)) ∧ Chg (fun k => k = g) w wr) (fun _ i _ => (intOf i).toNat)
  case atStart => exact ⟨v1, _, _, [], by omega, by simp, rfl, rfl, o1, h1.more (by omega), q1⟩
  case round =>
    obtain ⟨j, A, c, xs, hj, hxl, rfl, rfl, hown, hrd, hchg⟩ := hrel
    by_cases hlt : 0 < j
    · have hlt' : (0 : Int) < (j : Int) := by omega
      go_wp2_with fail
      refine (l20Key_any g _ wr hrd (by omega)).mono ?_
      rintro e w2 ⟨key, hkey, rfl, h2, ch2⟩
      have o2 := own_reader hown ch2 hg
      go_wp2_with fail
      refine (l20Value_any g _ w2 h2 (by omega)).mono ?_
      rintro e w3 ⟨val, hval, rfl, h3, ch3⟩
      have o3 := own_reader o2 ch3 hg
      have q3 := (hchg.trans ch2).trans ch3
      go_wp2_with fail
      refine (putValue_spec A c xs key val w3 (own_rd o3) (by omega)).mono ?_
      rintro e w4 ⟨A4, c4, rfl, o4, b4⟩
      have h4 := h3.new b4
      have q4 := q3.trans (Chg.of_new (S := fun k => k = g) b4)
      have hl4 := putV_len xs key val
      generalize putV xs key val = ys at *
      go_wp2
      go_roundw
      case rel => exact ⟨j - 1, A4, c4, ys, by omega, by omega, by go_num, rfl, own_base o4 q3.size, h4.more (by omega), q4⟩
      case measure => simp [intOf]; omega
    · have hj0 : (j : Int) ≤ 0 := by omega
      go_wp2_with fail
      refine (odd_any g _ n wr hrd (by omega) hn hn2).mono ?_
      rintro e w2 ⟨b, rfl, _, h2, ch2⟩
      have o2 := own_reader hown ch2 hg
      have q2 := hchg.trans ch2
      cases b
      · go_wp2
        go_ret
        exact ⟨A, c, xs, by omega, rfl, o2, h2.more (by omega), q2⟩
      · go_wp2_with fail
        refine (pick_any g _ 4 w2 h2 (by omega) (by omega) (by omega)).mono ?_
        rintro e w3 ⟨v3, hv3, rfl, h3, ch3⟩
        have o3 := own_reader o2 ch3 hg
        have q3 := q2.trans ch3
        by_cases z0 : v3 = 0
        · subst z0
          go_wp2_with (at_builtin; refine wpList_app rfl (.tmp 34) (.tmp 36) 27 rfl el_ent rfl (own_alloc o3 _) rfl (rd_lit w3 [.int .i64 32, .int .i64 1] _) rfl (one_ents [⟨32, 1⟩]) (by simp only [maxLen]; omega) (by omega) (by have := q3.size; simp; omega) ?_; intro A4 c4 w4 o4 ch4 _ _; rw [snoc_ents] at o4)
          go_ret
          exact ⟨A4, c4, xs ++ [⟨32, 1⟩], by simp; omega, by simp, by simpa using o4, ((h3.alloc _).chg ch4 (fun i hi hA => by have := own_block o3 i (by rw [hA]; rfl); omega)).more (by omega), chg_g (q3.alloc _) (own_alloc o3 _) ch4 (Nat.le_refl _)⟩
        · by_cases z1 : v3 = 1
          · subst z1
            have om := own_alloc (own_made (base := w.heap.size) (e := 80) (size := 2) w3 #[.int .i64 31, .int .i64 1] 1 q3.size (by simp [maxLen]) rfl) (.cells #[.int .i64 0, .int .i64 1] 80)
            have rx : Rd ((w3.alloc (.cells #[.int .i64 31, .int .i64 1] 80)).alloc (.cells #[.int .i64 0, .int .i64 1] 80)) (some ⟨w3.heap.size + 1, 0, none⟩) [.int .i64 0, .int .i64 1] := by
              have := rd_lit (w3.alloc (.cells #[.int .i64 31, .int .i64 1] 80)) [.int .i64 0, .int .i64 1] 80
              simpa using this
            go_wp2_with (at_builtin; refine wpList_app rfl (.tmp 41) (.tmp 43) 27 rfl el_ent rfl om rfl rx rfl (one_ents [⟨0, 1⟩]) (by simp [maxLen]) (by omega) (by have := q3.size; simp; omega) ?_; intro A4 c4 w4 o4 ch4 _ _)
            go_ret
            exact ⟨A4, c4, [⟨31, 1⟩, ⟨0, 1⟩], by simp, rfl, o4, (((h3.alloc _).alloc _).chg ch4 (fun i hi hA => by have := own_block om i (by rw [hA]; rfl); omega)).more (by omega), chg_g ((q3.alloc _).alloc _) om ch4 (Nat.le_refl _)⟩
          · by_cases z2 : v3 = 2
            · subst z2
              go_wp2_with fail
              refine (pick_any g _ 3 _ ((h3.alloc _).alloc _) (by omega) (by omega) (by omega)).mono ?_
              rintro e w4 ⟨v4, hv4, rfl, h4, ch4⟩
              have hg3 := h3.lt
              obtain ⟨x, hx, hc1⟩ := lit_int [0, -1, 1000001] ch4 (show ¬ (w3.alloc _).heap.size = g by simp; omega) (show v4 < 3 by omega)
              simp at hc1
              clear hx
              have om := own_alloc (own_reader (own_alloc (own_made (base := w.heap.size) (e := 80) (size := 2) w3 #[] 0 q3.size (by simp [maxLen]) rfl) _) ch4 hg) (.cells #[.int .i64 1, .int .i64 x] 80)
              have q4 := ((q3.alloc _).alloc _).trans ch4
              go_wp2_with (at_builtin; refine wpList_app rfl (.tmp 47) (.tmp 54) 27 rfl el_ent rfl om rfl (rd_lit w4 [.int .i64 1, .int .i64 x] _) rfl (one_ents [⟨1, x⟩]) (by simp [maxLen]) (by omega) (by have := q4.size; simp; omega) ?_; intro A5 c5 w5 o5 ch5 _ _)
              go_ret
              exact ⟨A5, c5, [⟨1, x⟩], by simp, rfl, o5, ((h4.alloc _).chg ch5 (fun i hi hA => by have := own_block om i (by rw [hA]; rfl); omega)).more (by omega), chg_g (q4.alloc _) om ch5 (Nat.le_refl _)⟩
            · have z3 : v3 = 3 := by omega
              subst z3
              have om := own_made (base := w.heap.size) (e := 80) (size := 2) w3 #[.int .i64 (-1), .int .i64 5] 1 q3.size (by simp [maxLen]) rfl
              go_wp2_with (at_builtin; refine wpList_app rfl (.tmp 29) (.tmp 30) 27 rfl el_ent rfl om rfl (own_rd (own_alloc o3 _)) (by rw [length_flat encE 2 encE_len]) (one_ents xs) (by simp only [maxLen]; omega) (by omega) (by have := q3.size; simp; omega) ?_; intro A5 c5 w5 o5 ch5 _ _)
              go_ret
              refine ⟨A5, c5, ⟨-1, 5⟩ :: xs, by simp; omega, ?_, ?_, ((h3.alloc _).chg ch5 (fun i hi hA => by have := own_block om i (by rw [hA]; rfl); omega)).more (by omega), chg_g (q3.alloc _) om ch5 (Nat.le_refl _)⟩
              · rw [List.length_cons, Nat.add_comm]
                rfl
              · rw [List.length_cons, Nat.add_comm xs.length 1]
                exact o5
end Go.Proofs.Ytiaodcjocogkkaa
