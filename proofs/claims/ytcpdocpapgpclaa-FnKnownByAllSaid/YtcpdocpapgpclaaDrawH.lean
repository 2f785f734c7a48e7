/- What the laws on spreads draw. -/
import Derived.Test.YtcpdocpapgpclaaSpreadK
import Derived.Test.YtcpdocpapgpclaaDrawA
import Derived.BigRegion
import Derived.Deep.RegionWith
import Derived.Deep.RegionLaw
import Derived.Deep.DrawnRows
import Derived.Deep.DeepCutAuto
import Derived.Deep.Cut
import Derived.Outline
namespace Go.Proofs.Ytcpdocpapgpclaa
open Go.RowKit
set_option linter.unusedVariables false
set_option linter.unusedSimpArgs false
attribute [local go_sem ↓] Go.wp_at_zero Go.wp_at_succ

theorem chg_g {g : Nat} {a wr w1 : World} {base : Nat} {e : TypeId} {size n c : Nat} {A : Option Addr} {xs : List Value} (h : Chg (fun k => k = g) a wr) (hown : wr.ownsRow base e size (.slice A n c) n xs)
    (ch : Chg (fun k => A = some ⟨k, 0, none⟩) wr w1) (hB : a.heap.size ≤ base) : Chg (fun k => k = g) a w1 :=
  ⟨ch.os.trans h.os, ch.tape.trans h.tape, ch.output.trans h.output, Nat.le_trans h.size ch.size, fun k hk hn => (ch.block k (Nat.lt_of_lt_of_le hk h.size) (fun hA => by have := own_block hown k (by rw [hA]; rfl); omega)).trans (h.block k hk hn)⟩
theorem own_reader {g base : Nat} {w w' : World} {e : TypeId} {size n c : Nat} {A : Option Addr} {xs : List Value} (hown : w.ownsRow base e size (.slice A n c) n xs) (hc : Chg (fun k => k = g) w w') (hg : g < base) : w'.ownsRow base e size (.slice A n c) n xs :=
  own_chg hown hc fun k hA e => by have := own_block hown k (by rw [hA]; rfl); omega
theorem pick_lit (ns : List Int) (i : Nat) (hi : i < ns.length) : ∃ x, x ∈ ns ∧ (ns.map (Value.int .i64)).toArray[i]? = some (.int .i64 x) := ⟨ns[i], List.getElem_mem hi, by simp [hi]⟩
theorem rd_at {s : Nat} (W : World) (cs : List Value) (t : TypeId) (h : W.heap.size = s) : Rd (W.alloc (.cells cs.toArray t)) (some ⟨s, 0, none⟩) cs := by
  subst h
  exact rd_lit W cs t
def Apart (A B : Option Addr) : Prop := ∀ q, A = some ⟨q, 0, none⟩ → B = some ⟨q, 0, none⟩ → False

theorem apart_symm {A B : Option Addr} (h : Apart A B) : Apart B A := fun q h1 h2 => h q h2 h1
/-- behind an append onto one of two rows of the call's own, beside a reader -/
theorem two_rows {w W w7 : World} {g base N : Nat} {e : TypeId} {size n c m d : Nat} {A B A7 : Option Addr} {xs ys : List Value} (q1 : W.ownsRow base e size (.slice A n c) n xs) (q2 : W.ownsRow base e size (.slice B m d) m ys)
    (ap : Apart A B) (rx : Rdr W g N) (qc : Chg (fun k => k = g) w W) (hg : g < base) (hB : w.heap.size ≤ base) (ch7 : Chg (fun k => A = some ⟨k, 0, none⟩) W w7) (d7 : A7 = A ∨ (A7 = some ⟨W.heap.size, 0, none⟩ ∧ Below W.heap.size W w7)) :
    w7.ownsRow base e size (.slice B m d) m ys ∧ Apart A7 B ∧ Rdr w7 g N ∧ Chg (fun k => k = g) w w7 := by
  refine ⟨own_chg q2 ch7 (fun q h1 h2 => ap q h2 h1), fun q h1 h2 => ?_, rx.chg ch7 (fun k hk hA => by have := own_block q1 k (by rw [hA]; rfl); omega), chg_g qc q1 ch7 hB⟩
  rcases d7 with d7 | ⟨d7, _⟩
  · exact ap q (d7 ▸ h1) h2
  · rw [d7] at h1
    injection h1 with h1
    injection h1 with h1
    have := (q2.lt q (by rw [h2]; rfl)).2
    omega
set_option maxHeartbeats 4000000 in
theorem l20Hears_any (g N : Nat) (n : Int) (w : World) (h : Rdr w g N) (hN : N ≤ 999000) (hn : 0 ≤ n) (hn2 : n ≤ 1000000) :
    Calls Try.prog 29 #[.pointer (some ⟨g, 0, none⟩), .int .i64 n] w fun e w' => ∃ A c B d, ∃ xs ys : List Int, xs.length ≤ 5 ∧ ys.length ≤ 5 ∧ e = .returned (.tuple #[.slice A xs.length c, .slice B ys.length d]) ∧ Rd w' A (xs.map (.int .i64)) ∧ Rd w' B (ys.map (.int .i64)) ∧ Chg (fun k => k = g) w w' := by
  have hg := h.lt
  go_enter Try.func29, Try.ntmps29
  go_wp2
  go_loopw [6, 7, 8] (fun v u i wr => ∃ (k : Nat) (A B : Option Addr) (c d : Nat) (xs ys : List Int), k ≤ 4 ∧ xs.length = k ∧ ys.length = k ∧ i = .int .i64 k ∧ v = .slice A xs.length c ∧ u = .slice B ys.length d ∧ wr.ownsRow w.heap.size 3 1 (.slice A xs.length c) xs.length (xs.map (.int .i64)) ∧ wr.ownsRow w.heap.size 3 1 (.slice B ys.length d) ys.length (ys.map (.int .i64)) ∧ Apart A B ∧ Rdr wr g (N + 5 * k) ∧ Chg (fun k => k = g) w wr) (fun _ _ i _ => 4 - (intOf i).toNat)
  case atStart =>
    refine ⟨0, _, _, _, _, [], [], by omega, rfl, rfl, rfl, rfl, rfl, own_alloc (own_made (base := w.heap.size) w #[] 0 (Nat.le_refl _) (by simp [maxLen]) rfl) _, ?_, ?_, (h.alloc _).alloc _, ((Chg.refl _ _).alloc _).alloc _⟩
    · have := own_made (base := w.heap.size) (e := 3) (size := 1) (w.alloc (.cells #[] 3)) #[] 0 (by simp) (by simp [maxLen]) rfl
      simpa using this
    · intro q h1 h2
      rw [← h1] at h2
      simp at h2
  case round =>
    obtain ⟨k, A, B, c, d, xs, ys, hk, hxl, hyl, rfl, rfl, rfl, o1, o2, ap, ⟨A2, c2, bs2, p2, rx, hp2⟩, hchg⟩ := hrel
    have HXL := hide hxl
    have HYL := hide hyl
    have hx4 : xs.length ≤ 4 := by omega
    have hy4 : ys.length ≤ 4 := by omega
    clear hxl hyl
    by_cases hlt : k < 4
    · have l6 := pickV_lt bs2 (p2 + 1) 3 (by omega)
      obtain ⟨V6, hV6⟩ : ∃ v, v = pickV bs2 (p2 + 1) 3 := ⟨_, rfl⟩
      rw [← hV6] at l6
      have HV6 := hide hV6
      obtain ⟨V5, hV5⟩ : ∃ v, v = pickV bs2 p2 256 := ⟨_, rfl⟩
      have HV5 := hide hV5
      clear hV6 hV5
      have i6 : (V6 : Int) < 3 := l6
      clear l6
      obtain ⟨x, hx, hc1⟩ := pick_lit [IntKind.i64.wrap (2 ^ k), (V5 : Int), 0] V6 (by simp; omega)
      simp only [List.map_cons, List.map_nil] at hc1
      clear hx
      have n0 : wr.heap.size ≠ g := by have := rx.blk.lt; omega
      have n1 : wr.heap.size + 1 ≠ g := by have := rx.blk.lt; omega
      go_wp2
      go_upto_region 6 with fail
      rw [show decide ((k : Int) < 4) = true by simp; omega]
      go_cut [6] from 15 to 26 (fun s6 wx => ∃ (A' : Option Addr) (c' : Nat) (x : Int), s6 = .slice A' (xs ++ [x]).length c' ∧ wx.ownsRow w.heap.size 3 1 (.slice A' (xs ++ [x]).length c') (xs ++ [x]).length ((xs ++ [x]).map (.int .i64)) ∧ wx.ownsRow w.heap.size 3 1 (.slice B ys.length d) ys.length (ys.map (.int .i64)) ∧ Apart A' B ∧ Rdr wx g (N + 5 * k + 2) ∧ Chg (fun k => k = g) w wx)
      case first =>
        have e1 : p2 ≤ 1000000 := by omega
        have e2 : p2 + 1 ≤ 1000000 := by omega
        go_region_law (first
          | (go_simp; go_at_call_of 38 (Value.int IntKind.i64 256); refine (pick_q _ c2 p2 A2 bs2 256 _ ?_ e1 (by omega) (by omega)).mono ?_; (focus (repeat (first | assumption | apply RdrX.alloc | apply RdrX.drew))); rintro e w5 ⟨rfl, rx5, cl5, sz5, ch5⟩; rw [← unhide HV5]; have q1 := own_reader (by exact o1) ch5 hg; have q2 := own_reader (by exact o2) ch5 hg; have qc := hchg.drew.trans ch5)
          | (go_simp; go_at_call_of 38 (Value.int IntKind.i64 3); refine (pick_q _ c2 (p2 + 1) A2 bs2 3 _ ?_ e2 (by omega) (by omega)).mono ?_; (focus (repeat (first | assumption | apply RdrX.alloc | apply RdrX.drew))); rintro e w6 ⟨rfl, rx6, cl6, sz6, ch6⟩; rw [← unhide HV6]; have rd6 : Rdr w6 g (p2 + 1 + 1) := ⟨A2, c2, bs2, _, rx6, Nat.le_refl _⟩; replace q1 := own_reader (by first | exact q1 | exact own_alloc q1 _) ch6 hg; replace q2 := own_reader (by first | exact q2 | exact own_alloc q2 _) ch6 hg; replace qc := Chg.trans (by first | exact qc | exact qc.alloc _) ch6)
          | (refine step_app (by rfl) (.tmp 15) (.tmp 25) _ (by rfl) el_int (by rfl) (own_alloc q1 _) (by rfl) (rd_at (s := wr.heap.size + 1) w6 [.int .i64 x] 3 ?_) (by rfl) (one_ints [x]) ?_ ?_ ?_ ?_; (focus (simp [sz5, sz6])); (focus (simp only [maxLen]; omega)); (focus omega); (focus (have := qc.size; simp; omega)); intro A7 c7 w7 o7 ch7 d7 _)
          | (refine step_app (by rfl) (.tmp 15) (.tmp 25) _ (by rfl) el_int (by rfl) (own_alloc (own_alloc q1 _) _) (by rfl) (rd_at (s := wr.heap.size + 1) (w6.alloc (.cells #[.int .i64 (IntKind.i64.wrap (2 ^ k)), .int .i64 V5, .int .i64 0] 3)) [.int .i64 x] 3 ?_) (by rfl) (one_ints [x]) ?_ ?_ ?_ ?_; (focus (simp [sz5, sz6])); (focus (simp only [maxLen]; omega)); (focus omega); (focus (have := qc.size; simp; omega)); intro A7 c7 w7 o7 ch7 d7 _))
        all_goals go_simp
        all_goals go_wp2_with fail
        all_goals go_meet
        · have st := two_rows (own_alloc q1 _) (own_alloc q2 _) ap (rd6.alloc _) (qc.alloc _) hg (Nat.le_refl _) ch7 d7
          exact ⟨A7, c7, x, by simp, by simpa using o7, st.1, st.2.1, st.2.2.1.more (by omega), st.2.2.2⟩
        · have st := two_rows (own_alloc (own_alloc q1 _) _) (own_alloc (own_alloc q2 _) _) ap ((rd6.alloc _).alloc _) ((qc.alloc _).alloc _) hg (Nat.le_refl _) ch7 d7
          exact ⟨A7, c7, x, by simp, by simpa using o7, st.1, st.2.1, st.2.2.1.more (by omega), st.2.2.2⟩
      case rest =>
      clear o1 o2 ap rx hchg hc1 i6 hp2 n0 n1
      clear HV6 HV5
      obtain ⟨A1, c1, x1, rfl, o1, o2, ap, ⟨A2, c2, bs2, p2, rx, hp2⟩, hchg⟩ := hcut
      obtain ⟨xs1, hxs1⟩ : ∃ z, z = xs ++ [x1] := ⟨_, rfl⟩
      rw [← hxs1] at o1 ⊢
      have HXL1 := hide (show xs1.length = k + 1 by rw [hxs1]; simp [unhide HXL])
      clear hxs1
      have l6 := pickV_lt bs2 (p2 + 1 + 1) 3 (by omega)
      obtain ⟨V6, hV6⟩ : ∃ v, v = pickV bs2 (p2 + 1 + 1) 3 := ⟨_, rfl⟩
      rw [← hV6] at l6
      have HV6 := hide hV6
      obtain ⟨V5, hV5⟩ : ∃ v, v = pickV bs2 (p2 + 1) 16 := ⟨_, rfl⟩
      have HV5 := hide hV5
      obtain ⟨V4, hV4⟩ : ∃ v, v = pickV bs2 p2 4 := ⟨_, rfl⟩
      have HV4 := hide hV4
      clear hV6 hV5 hV4
      have i6 : (V6 : Int) < 3 := l6
      clear l6
      obtain ⟨x, hx, hc1⟩ := pick_lit [0, IntKind.i64.wrap (2 ^ min V4 64), (V5 : Int)] V6 (by simp; omega)
      simp only [List.map_cons, List.map_nil] at hc1
      clear hx
      have n0 : wc.heap.size ≠ g := by have := rx.blk.lt; omega
      have n1 : wc.heap.size + 1 ≠ g := by have := rx.blk.lt; omega
      go_wp2
      go_upto_region 7 with fail
      have e1 : p2 ≤ 1000000 := by omega
      have e2 : p2 + 1 ≤ 1000000 := by omega
      have e3 : p2 + 1 + 1 ≤ 1000000 := by omega
      go_region_law (first
        | (go_simp; go_at_call_of 38 (Value.int IntKind.i64 4); refine (pick_q _ c2 p2 A2 bs2 4 _ ?_ e1 (by omega) (by omega)).mono ?_; (focus (repeat (first | assumption | apply RdrX.alloc | apply RdrX.drew))); rintro e w4 ⟨rfl, rx4, cl4, sz4, ch4⟩; rw [← unhide HV4]; have q1 := own_reader (by exact o1) ch4 hg; have q2 := own_reader (by exact o2) ch4 hg; have qc := hchg.drew.trans ch4)
        | (go_simp; go_at_call_of 38 (Value.int IntKind.i64 16); refine (pick_q _ c2 (p2 + 1) A2 bs2 16 _ ?_ e2 (by omega) (by omega)).mono ?_; (focus (repeat (first | assumption | apply RdrX.alloc | apply RdrX.drew))); rintro e w5 ⟨rfl, rx5, cl5, sz5, ch5⟩; rw [← unhide HV5]; replace q1 := own_reader (by exact q1) ch5 hg; replace q2 := own_reader (by exact q2) ch5 hg; replace qc := qc.trans ch5)
        | (go_simp; go_at_call_of 38 (Value.int IntKind.i64 3); refine (pick_q _ c2 (p2 + 1 + 1) A2 bs2 3 _ ?_ e3 (by omega) (by omega)).mono ?_; (focus (repeat (first | assumption | apply RdrX.alloc | apply RdrX.drew))); rintro e w6 ⟨rfl, rx6, cl6, sz6, ch6⟩; rw [← unhide HV6]; have rd6 : Rdr w6 g (p2 + 1 + 1 + 1) := ⟨A2, c2, bs2, _, rx6, Nat.le_refl _⟩; replace q1 := own_reader (by first | exact q1 | exact own_alloc q1 _) ch6 hg; replace q2 := own_reader (by first | exact q2 | exact own_alloc q2 _) ch6 hg; replace qc := Chg.trans (by first | exact qc | exact qc.alloc _) ch6)
        | (refine step_app (by rfl) (.tmp 27) (.tmp 38) _ (by rfl) el_int (by rfl) (own_alloc q2 _) (by rfl) (rd_at (s := wc.heap.size + 1) w6 [.int .i64 x] 3 ?_) (by rfl) (one_ints [x]) ?_ ?_ ?_ ?_; (focus (simp [sz4, sz5, sz6])); (focus (simp only [maxLen]; omega)); (focus omega); (focus (have := qc.size; simp; omega)); intro A7 c7 w7 o7 ch7 d7 _; have st := two_rows (own_alloc q2 _) (own_alloc q1 _) (apart_symm ap) (rd6.alloc _) (qc.alloc _) hg (Nat.le_refl _) ch7 d7)
        | (refine step_app (by rfl) (.tmp 27) (.tmp 38) _ (by rfl) el_int (by rfl) (own_alloc (own_alloc q2 _) _) (by rfl) (rd_at (s := wc.heap.size + 1) (w6.alloc (.cells #[.int .i64 0, .int .i64 (IntKind.i64.wrap (2 ^ min V4 64)), .int .i64 V5] 3)) [.int .i64 x] 3 ?_) (by rfl) (one_ints [x]) ?_ ?_ ?_ ?_; (focus (simp [sz4, sz5, sz6])); (focus (simp only [maxLen]; omega)); (focus omega); (focus (have := qc.size; simp; omega)); intro A7 c7 w7 o7 ch7 d7 _; have st := two_rows (own_alloc (own_alloc q2 _) _) (own_alloc (own_alloc q1 _) _) (apart_symm ap) ((rd6.alloc _).alloc _) ((qc.alloc _).alloc _) hg (Nat.le_refl _) ch7 d7))
      all_goals go_simp
      all_goals go_wp2
      all_goals
        go_roundw
        case rel => exact ⟨k + 1, A1, A7, c1, c7, xs1, ys ++ [x], by omega, unhide HXL1, by simp [unhide HYL], by go_num, rfl, by simp, st.1, by simpa using o7, apart_symm st.2.1, st.2.2.1.more (by omega), st.2.2.2⟩
        case measure => simp [intOf]; omega
    · have rd : Rdr wr g (N + 20) := ⟨A2, c2, bs2, p2, rx, by omega⟩
      clear rx hp2
      have hcap := own_cap o1
      have hx4' : 4 ≤ xs.length := by have := unhide HXL; omega
      have hy4' : 4 ≤ ys.length := by have := unhide HYL; omega
      go_wp2_with fail
      refine (odd_any g _ n wr rd (by omega) hn hn2).mono ?_
      rintro e w1 ⟨b, rfl, _, h1, ch1⟩
      replace o1 := own_reader o1 ch1 hg
      replace o2 := own_reader o2 ch1 hg
      have qc := hchg.trans ch1
      cases b
      · go_wp2
        go_ret2
        exact ⟨A, c, B, d, xs, ys, by omega, by omega, rfl, own_rd o1, own_rd o2, qc⟩
      · obtain ⟨g1, rfl, hg1, hg2⟩ := own_addr o1 (by omega)
        obtain ⟨g2, rfl, hg3, hg4⟩ := own_addr o2 (by omega)
        have hne : g1 ≠ g2 := fun e => ap g1 rfl (by rw [e])
        go_wp2_with fail
        refine (pick_any g _ 4 w1 h1 (by omega) (by omega) (by omega)).mono ?_
        rintro e w2 ⟨v2, hv2, rfl, h2, ch2⟩
        replace o1 := own_reader o1 ch2 hg
        replace o2 := own_reader o2 ch2 hg
        replace qc := qc.trans ch2
        have hv : v2 = 0 ∨ v2 = 1 ∨ v2 = 2 ∨ v2 = 3 := by omega
        rcases hv with rfl | rfl | rfl | rfl
        · go_wp2_with fail
          refine (pick_any g _ 2 _ (h2.alloc _) (by omega) (by omega) (by omega)).mono ?_
          rintro e w3 ⟨v3, hv3, rfl, h3, ch3⟩
          replace o1 := own_reader (own_alloc o1 _) ch3 hg
          replace o2 := own_reader (own_alloc o2 _) ch3 hg
          replace qc := (qc.alloc _).trans ch3
          obtain ⟨x, hx, hc1⟩ := lit_int [-1, 256] ch3 (show ¬ w2.heap.size = g by have := h2.lt; omega) (show v3 < 2 by omega)
          clear hx
          obtain ⟨u0, hc2⟩ : ∃ u, w3.cell? ⟨g1, 0, none⟩ = some u := ⟨_, own_cell o1 0 (by simp; omega)⟩
          have hc3 : w3.frozen? ⟨g1, 0, none⟩ = false := own_frozen o1 0
          have hset := own_set o1 0 (.int .i64 x)
          rw [← List.map_set] at hset
          have hfar := own_far (p := ⟨g1, 0, none⟩) o2 (fun q hq e => hne (by injection hq with hq; injection hq with hq; rw [hq]; exact e)) (.int .i64 x)
          go_wp2
          go_ret2
          exact ⟨some ⟨g1, 0, none⟩, c, some ⟨g2, 0, none⟩, d, xs.set 0 x, ys, by simp; omega, by omega, by simp, own_rd hset, own_rd hfar, qc.setCell (.inr hg1) _⟩
        · go_wp2_with fail
          refine (pick_any g _ 2 _ (h2.alloc _) (by omega) (by omega) (by omega)).mono ?_
          rintro e w3 ⟨v3, hv3, rfl, h3, ch3⟩
          replace o1 := own_reader (own_alloc o1 _) ch3 hg
          replace o2 := own_reader (own_alloc o2 _) ch3 hg
          replace qc := (qc.alloc _).trans ch3
          obtain ⟨x, hx, hc1⟩ := lit_int [-1, 16] ch3 (show ¬ w2.heap.size = g by have := h2.lt; omega) (show v3 < 2 by omega)
          clear hx
          obtain ⟨u0, hc2⟩ : ∃ u, w3.cell? ⟨g2, 0, none⟩ = some u := ⟨_, own_cell o2 0 (by simp; omega)⟩
          have hc3 : w3.frozen? ⟨g2, 0, none⟩ = false := own_frozen o2 0
          have hset := own_set o2 0 (.int .i64 x)
          rw [← List.map_set] at hset
          have hfar := own_far (p := ⟨g2, 0, none⟩) o1 (fun q hq e => hne (by injection hq with hq; injection hq with hq; rw [hq]; exact e.symm)) (.int .i64 x)
          go_wp2
          go_ret2
          exact ⟨some ⟨g1, 0, none⟩, c, some ⟨g2, 0, none⟩, d, xs, ys.set 0 x, by omega, by simp; omega, by simp, own_rd hfar, own_rd hset, qc.setCell (.inr hg3) _⟩
        · have hi1 : (1 : Int) ≤ (xs.length : Int) := by omega
          have hi2 : (xs.length : Int) ≤ (c : Int) := by omega
          have hc5 : ¬ c = 1 := by omega
          go_wp2
          go_ret2
          refine ⟨some ⟨g1, 1, none⟩, c - 1, some ⟨g2, 0, none⟩, d, xs.drop 1, ys, by simp; omega, by omega, ?_, ?_, own_rd o2, qc⟩
          · rw [List.length_drop]
            rfl
          · have := (own_rd o1).drop 1
            rw [List.map_drop]
            simpa using this
        · go_wp2_with (at_builtin; refine wpList_app rfl (.tmp 45) (.tmp 46) 22 rfl el_int rfl (own_alloc o2 _) rfl (rd_lit w2 [.int .i64 0] _) rfl (one_ints [0]) (by simp only [maxLen]; omega) (by omega) (by have := qc.size; simp; omega) ?_; intro A7 c7 w7 o7 ch7 d7 _)
          have st := two_rows (own_alloc o2 _) (own_alloc o1 _) (apart_symm ap) (h2.alloc _) (qc.alloc _) hg (Nat.le_refl _) ch7 d7
          go_ret2
          exact ⟨_, c, A7, c7, xs, ys ++ [0], by omega, by simp; omega, by simp, own_rd st.1, own_rd (by simpa using o7), st.2.2.2⟩
theorem drawSpreadOnce_any (A : Option Addr) (c : Nat) (bs : List Int) (w : World) (h : Rd w A (bs.map (.int .u8))) (hw : ∀ b ∈ bs, 0 ≤ b ∧ b ≤ 255) (hc : bs.length ≤ c) (hm : c ≤ maxLen) :
    Calls Try.prog 19 #[.slice A bs.length c] w fun e w' => ∃ A c B d, ∃ xs ys : List Int, xs.length ≤ 5 ∧ ys.length ≤ 5 ∧ e = .returned (.tuple #[.slice A xs.length c, .slice B ys.length d]) ∧ Rd w' A (xs.map (.int .i64)) ∧ Rd w' B (ys.map (.int .i64)) ∧ Below w.heap.size w w' := by
  have hm2 : bs.length ≤ 9223372036854775807 := by simp only [maxLen] at hm; omega
  go_enter Try.func19, Try.ntmps19
  go_wp2_with fail
  refine (open_any A c bs w h hw hc hm).mono ?_
  rintro e w1 ⟨rfl, r1, b1⟩
  go_wp2_with fail
  refine (l20Hears_any _ 0 9 w1 r1 (by omega) (by omega) (by omega)).mono ?_
  rintro e w2 ⟨A2, c2, B2, d2, xs, ys, hl, hl', rfl, r2, r3, ch2⟩
  go_wp2
  go_ret2
  exact ⟨A2, c2, B2, d2, xs, ys, hl, hl', rfl, r2, r3, b1.trans (ch2.below (fun k hk => by omega) b1.size)⟩
theorem drawSpreadAll_any (A : Option Addr) (c : Nat) (bs : List Int) (w : World) (h : Rd w A (bs.map (.int .u8))) (hw : ∀ b ∈ bs, 0 ≤ b ∧ b ≤ 255) (hc : bs.length ≤ c) (hm : c ≤ maxLen) :
    Calls Try.prog 22 #[.slice A bs.length c] w fun e w' => ∃ A c B d, ∃ xs ys : List Int, xs.length ≤ 5 ∧ ys.length ≤ 5 ∧ e = .returned (.tuple #[.slice A xs.length c, .slice B ys.length d]) ∧ Rd w' A (xs.map (.int .i64)) ∧ Rd w' B (ys.map (.int .i64)) ∧ Below w.heap.size w w' := by
  have hm2 : bs.length ≤ 9223372036854775807 := by simp only [maxLen] at hm; omega
  go_enter Try.func22, Try.ntmps22
  go_wp2_with fail
  refine (open_any A c bs w h hw hc hm).mono ?_
  rintro e w1 ⟨rfl, r1, b1⟩
  go_wp2_with fail
  refine (l20Hears_any _ 0 9 w1 r1 (by omega) (by omega) (by omega)).mono ?_
  rintro e w2 ⟨A2, c2, B2, d2, xs, ys, hl, hl', rfl, r2, r3, ch2⟩
  go_wp2
  go_ret2
  exact ⟨A2, c2, B2, d2, xs, ys, hl, hl', rfl, r2, r3, b1.trans (ch2.below (fun k hk => by omega) b1.size)⟩
theorem drawKnownByAll_any (A : Option Addr) (c : Nat) (bs : List Int) (w : World) (h : Rd w A (bs.map (.int .u8))) (hw : ∀ b ∈ bs, 0 ≤ b ∧ b ≤ 255) (hc : bs.length ≤ c) (hm : c ≤ maxLen) :
    Calls Try.prog 23 #[.slice A bs.length c] w fun e w' => ∃ A c B d, ∃ xs ys : List Int, xs.length ≤ 5 ∧ ys.length ≤ 5 ∧ e = .returned (.tuple #[.slice A xs.length c, .slice B ys.length d]) ∧ Rd w' A (xs.map (.int .i64)) ∧ Rd w' B (ys.map (.int .i64)) ∧ Below w.heap.size w w' := by
  have hm2 : bs.length ≤ 9223372036854775807 := by simp only [maxLen] at hm; omega
  go_enter Try.func23, Try.ntmps23
  go_wp2_with fail
  refine (open_any A c bs w h hw hc hm).mono ?_
  rintro e w1 ⟨rfl, r1, b1⟩
  go_wp2_with fail
  refine (l20Hears_any _ 0 9 w1 r1 (by omega) (by omega) (by omega)).mono ?_
  rintro e w2 ⟨A2, c2, B2, d2, xs, ys, hl, hl', rfl, r2, r3, ch2⟩
  go_wp2
  go_ret2
  exact ⟨A2, c2, B2, d2, xs, ys, hl, hl', rfl, r2, r3, b1.trans (ch2.below (fun k hk => by omega) b1.size)⟩
end Go.Proofs.Ytcpdocpapgpclaa
