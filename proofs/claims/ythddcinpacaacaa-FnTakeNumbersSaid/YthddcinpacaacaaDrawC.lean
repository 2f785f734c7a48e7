/- What the laws on counters draw. -/
import Derived.Test.YthddcinpacaacaaDrawA
import Derived.Test.YthddcinpacaacaaViews
namespace Go.Proofs.Ythddcinpacaacaa
open Go.RowKit
set_option linter.unusedVariables false
set_option linter.unusedSimpArgs false

theorem chg_g {g : Nat} {a wr w1 : World} {base : Nat} {e : TypeId} {size n c : Nat} {A : Option Addr} {xs : List Value} (h : Chg (fun k => k = g) a wr) (hown : wr.ownsRow base e size (.slice A n c) n xs)
    (ch : Chg (fun k => A = some ⟨k, 0, none⟩) wr w1) (hB : a.heap.size ≤ base) : Chg (fun k => k = g) a w1 :=
  ⟨ch.os.trans h.os, ch.tape.trans h.tape, ch.output.trans h.output, Nat.le_trans h.size ch.size, fun k hk hn => (ch.block k (Nat.lt_of_lt_of_le hk h.size) (fun hA => by have := own_block hown k (by rw [hA]; rfl); omega)).trans (h.block k hk hn)⟩
theorem own_reader {g base : Nat} {w w' : World} {e : TypeId} {size n c : Nat} {A : Option Addr} {xs : List Value} (hown : w.ownsRow base e size (.slice A n c) n xs) (hc : Chg (fun k => k = g) w w') (hg : g < base) : w'.ownsRow base e size (.slice A n c) n xs :=
  own_chg hown hc fun k hA e => by have := own_block hown k (by rw [hA]; rfl); omega

/-- a slice that lies in blocks that were made later -/
def Far (w : World) (A : Option Addr) : Prop := ∀ b off, A = some ⟨b, off, none⟩ → w.heap.size ≤ b
theorem own_far_ {w0 w : World} {base : Nat} {e : TypeId} {size n c : Nat} {A : Option Addr} {xs : List Value} (h : w.ownsRow base e size (.slice A n c) n xs) (hb : w0.heap.size ≤ base) : Far w0 A := by
  intro b off hA
  rcases h.2 with ⟨hv, _⟩ | ⟨g, cap, cur, hv, hg, _⟩
  · injection hv with hv
    rw [hA] at hv
    cases hv
  · injection hv with hv
    rw [hA] at hv
    injection hv with hv
    injection hv with hv
    omega
theorem Rd.chg_far {w0 w w' : World} {g : Nat} {A : Option Addr} {xs : List Value} (h : Rd w A xs) (hf : Far w0 A) (hg : g < w0.heap.size) (hc : Chg (fun k => k = g) w w') : Rd w' A xs := rd_chg h hc (fun b off hA e => by have := hf b off hA; omega)
theorem l20Counters_any (g N : Nat) (n : Int) (w : World) (h : Rdr w g N) (hN : N ≤ 999000) (hn : 0 ≤ n) (hn2 : n ≤ 1000000) :
    Calls Try.prog 34 #[.pointer (some ⟨g, 0, none⟩), .int .i64 n] w fun e w' => ∃ A c, ∃ xs : List Int, xs.length ≤ 4 ∧ (∀ x ∈ xs, -1 ≤ x ∧ x ≤ 1000001) ∧ e = .returned (.slice A xs.length c) ∧ xs.length ≤ c ∧ c ≤ maxLen ∧ Rd w' A (xs.map (.int .i64)) ∧ Far w A ∧ Rdr w' g (N + 20) ∧ Chg (fun k => k = g) w w' := by
  have hg := h.lt
  go_enter Try.func34, Try.ntmps34
  go_wp2
  go_loopw [5, 6] (fun v i wr => ∃ (k : Nat) (A : Option Addr) (c : Nat) (xs : List Int), k ≤ 4 ∧ xs.length = k ∧ (∀ x ∈ xs, -1 ≤ x ∧ x ≤ 1000001) ∧ i = .int .i64 k ∧ v = .slice A xs.length c ∧ wr.ownsRow w.heap.size 3 1 (.slice A xs.length c) xs.length (xs.map (.int .i64)) ∧ Rdr wr g (N + 2 * k) ∧ Chg (fun k => k = g) w wr) (fun _ i _ => 4 - (intOf i).toNat)
  case atStart => exact ⟨0, _, _, [], by omega, rfl, by simp, rfl, rfl, own_made (base := w.heap.size) w #[] 0 (Nat.le_refl _) (by simp [maxLen]) rfl, h.alloc _, (Chg.refl _ _).alloc _⟩
  case round =>
    obtain ⟨k, A, c, xs, hk, hxl, hxs, rfl, rfl, hown, hrd, hchg⟩ := hrel
    subst hxl
    have HX := hide hxs
    clear hxs
    by_cases hlt : xs.length < 4
    · go_wp2_with fail
      refine (pick_any g _ 4 wr hrd (by omega) (by omega) (by omega)).mono ?_
      rintro e w1 ⟨v1, hv1, rfl, h1, ch1⟩
      have o1 := own_reader hown ch1 hg
      have q1 := hchg.trans ch1
      go_wp2_with fail
      refine (pick_any g _ 24 _ (h1.alloc _) (by omega) (by omega) (by omega)).mono ?_
      rintro e w2 ⟨v2, hv2, rfl, h2, ch2⟩
      have o2 := own_reader (own_alloc o1 _) ch2 hg
      have q2 := (q1.alloc _).trans ch2
      have hq : v2 / 23 < 2 := by omega
      have hq2 : (v2 : Int) / 23 = ((v2 / 23 : Nat) : Int) := by omega
      obtain ⟨x, hx, hc1⟩ := lit_int [(v1 : Int), 1000000] ch2 (show ¬ w1.heap.size = g by have := h1.lt; omega) (show v2 / 23 < 2 from hq)
      have hxb : -1 ≤ x ∧ x ≤ 1000001 := by simp at hx; omega
      generalize v2 / 23 = q at *
      have i1 : (q : Int) < 2 := by omega
      have HB := hide hxb
      clear hx hxb hown o1 hrd h1 ch1 hchg q1
      go_wp2_with (at_builtin; refine wpList_app rfl (.tmp 12) (.tmp 21) 22 rfl el_int rfl (own_alloc o2 _) rfl (rd_lit w2 [.int .i64 x] _) rfl (one_ints [x]) (by simp only [maxLen]; omega) (by omega) (by have := q2.size; simp; omega) ?_; intro A1 c1 w3 o3 ch3 _ _)
      have h3 := (h2.alloc _).chg ch3 (fun j hj hA => by have := own_block o2 j (by rw [hA]; rfl); omega)
      have q3 := chg_g (q2.alloc _) (own_alloc o2 _) ch3 (Nat.le_refl _)
      have o3' : w3.ownsRow w.heap.size 3 1 (.slice A1 (xs ++ [x]).length c1) (xs ++ [x]).length ((xs ++ [x]).map (.int .i64)) := by simpa using o3
      go_roundw
      case rel =>
        refine ⟨xs.length + 1, A1, c1, xs ++ [x], by omega, by simp, fun y hy => ?_, by go_num, by simp, o3', h3.more (by omega), q3⟩
        rcases List.mem_append.1 hy with hy | hy
        · exact unhide HX y hy
        · simp at hy
          subst hy
          exact unhide HB
      case measure => simp [intOf]; omega
    · have hcap := own_cap hown
      go_wp2_with fail
      refine (odd_any g _ n wr hrd (by omega) hn hn2).mono ?_
      rintro e w1 ⟨b, rfl, _, h1, ch1⟩
      have o1 := own_reader hown ch1 hg
      have q1 := hchg.trans ch1
      cases b
      · go_wp2
        go_ret
        exact ⟨A, c, xs, hk, unhide HX, rfl, hcap.1, hcap.2, own_rd o1, own_far_ o1 (Nat.le_refl _), h1.more (by omega), q1⟩
      · obtain ⟨g1, rfl, hg1, hg2⟩ := own_addr o1 (by omega)
        go_wp2_with fail
        refine (pick_any g _ 2 w1 h1 (by omega) (by omega) (by omega)).mono ?_
        rintro e w2 ⟨v2, hv2, rfl, h2, ch2⟩
        have o2 := own_reader o1 ch2 hg
        have q2 := q1.trans ch2
        by_cases hz : v2 = 0
        · subst hz
          go_wp2_with fail
          refine (pick_any g _ 2 _ (h2.alloc _) (by omega) (by omega) (by omega)).mono ?_
          rintro e w3 ⟨v3, hv3, rfl, h3, ch3⟩
          have o3 := own_reader (own_alloc o2 _) ch3 hg
          have q3 := (q2.alloc _).trans ch3
          obtain ⟨x, hx, hc1⟩ := lit_int [-1, 1000001] ch3 (show ¬ w2.heap.size = g by have := h2.lt; omega) (show v3 < 2 by omega)
          have hxb : -1 ≤ x ∧ x ≤ 1000001 := by simp at hx; omega
          have HB := hide hxb
          clear hx hxb
          have hlx : 0 < xs.length := by omega
          obtain ⟨u0, hc2⟩ : ∃ u, w3.cell? ⟨g1, 0, none⟩ = some u := ⟨_, own_cell o3 0 (by simpa using hlx)⟩
          have hc3 : w3.frozen? ⟨g1, 0, none⟩ = false := own_frozen o3 0
          have hset := own_set o3 0 (.int .i64 x)
          have hset2 : (w3.setCell ⟨g1, 0, none⟩ (.int .i64 x)).ownsRow w.heap.size 3 1 (.slice (some ⟨g1, 0, none⟩) (xs.set 0 x).length c) (xs.set 0 x).length ((xs.set 0 x).map (.int .i64)) := by
            rw [List.map_set, List.length_set]
            exact hset
          clear hset
          go_wp2
          go_ret
          have h4 := h3.chg (Chg.setCell (S := fun k => k = g1) (p := ⟨g1, 0, none⟩) (Chg.refl _ w3) (.inl rfl) (.int .i64 x)) (fun k hk => by omega)
          refine ⟨some ⟨g1, 0, none⟩, c, xs.set 0 x, by simpa using hk, fun y hy => ?_, by simp, by simpa using hcap.1, hcap.2, own_rd hset2, own_far_ hset2 (Nat.le_refl _), h4.more (by omega), q3.setCell (.inr hg1) _⟩
          rcases List.mem_or_eq_of_mem_set hy with hy | hy
          · exact unhide HX y hy
          · rw [hy]
            exact unhide HB
        · have hv1 : v2 = 1 := by omega
          subst hv1
          have hl4 : xs.length = 4 := by omega
          have HL4 := hide hl4
          have hi1 : (1 : Int) ≤ (xs.length : Int) := by omega
          have hi2 : (xs.length : Int) ≤ (c : Int) := by omega
          have hc5 : ¬ c = 1 := by omega
          clear hl4
          go_wp2
          go_ret
          refine ⟨some ⟨g1, 1, none⟩, c - 1, xs.drop 1, by simp; omega, fun y hy => unhide HX y (List.mem_of_mem_drop hy), ?_, by simp; omega, by omega, ?_, (fun b off hA => by injection hA with hA; injection hA with hA; omega), h2.more (by omega), q2⟩
          · rw [List.length_drop]
            rfl
          · have := (own_rd o2).drop 1
            rw [List.map_drop]
            simpa using this
end Go.Proofs.Ythddcinpacaacaa
