/- What the law on waits draws. -/
import Derived.Test.YtkbbhbgjanfcoaaDrawA
import Derived.BigRegion
import Derived.Deep.RegionWith
import Derived.Deep.DrawnRows
import Derived.Outline
namespace Go.Proofs.Ytkbbhbgjanfcoaa
open Go.RowKit
set_option linter.unusedVariables false
set_option linter.unusedSimpArgs false
attribute [local go_sem ↓] Go.wp_at_zero Go.wp_at_succ

theorem l20Wait_any (g N : Nat) (w : World) (h : Rdr w g N) (hN : N ≤ 999000) :
    Calls Try.prog 55 #[.pointer (some ⟨g, 0, none⟩)] w fun e w' => ∃ v : Int, 0 ≤ v ∧ v ≤ 100001 ∧ e = .returned (.int .i64 v) ∧ Rdr w' g (N + 2) ∧ Chg (fun k => k = g) w w' := by
  go_enter Try.func55, Try.ntmps55
  go_wp2_with fail
  refine (pick_any g N 100 w h (by omega) (by omega) (by omega)).mono ?_
  rintro e w1 ⟨v1, hv1, rfl, h1, ch1⟩
  go_wp2_with fail
  refine (pick_any g (N + 1) 8 _ ((h1.alloc _).alloc _) (by omega) (by omega) (by omega)).mono ?_
  rintro e w3 ⟨v3, hv3, rfl, h3, ch3⟩
  have hg := h1.lt
  obtain ⟨x, hx, hc1⟩ := lit_int [0, 0, 0, 0, 0, 1, 2, 3] ch3 (show ¬ (w1.alloc _).heap.size = g by simp; omega) (show v3 < 8 by omega)
  have hx2 : 0 ≤ x ∧ x < 4 := by simp at hx; omega
  obtain ⟨x, rfl⟩ := Int.eq_ofNat_of_zero_le hx2.1
  obtain ⟨y, hy, hc2⟩ := lit_int [1 + (v1 : Int), 100000, 0, 100001] ((Chg.refl (fun k => k = g) _).alloc _ |>.trans ch3) (show ¬ w1.heap.size = g by omega) (show x < 4 by omega)
  have hyb : 0 ≤ y ∧ y ≤ 100001 := by simp at hy; omega
  simp at hc1
  have i1 : (x : Int) < 4 := by omega
  clear hx hy
  go_wp2
  go_ret
  exact ⟨y, hyb.1, hyb.2, rfl, h3, ch1.trans ((((Chg.refl _ _).alloc _).alloc _).trans ch3)⟩
theorem pick_lit (ns : List Int) (i : Nat) (hi : i < ns.length) : ∃ x, x ∈ ns ∧ (ns.map (Value.int .i64)).toArray[i]? = some (.int .i64 x) := ⟨ns[i], List.getElem_mem hi, by simp [hi]⟩
set_option maxHeartbeats 4000000 in
theorem drawWait_any (A : Option Addr) (c : Nat) (bs : List Int) (w : World) (h : Rd w A (bs.map (.int .u8))) (hw : ∀ b ∈ bs, 0 ≤ b ∧ b ≤ 255) (hc : bs.length ≤ c) (hm : c ≤ maxLen) :
    Calls Try.prog 36 #[.slice A bs.length c] w fun e w' => ∃ v u : Int, 0 ≤ v ∧ v ≤ 100001 ∧ -1 ≤ u ∧ u ≤ 1000 ∧ e = .returned (.tuple #[.int .i64 v, .int .i64 u]) ∧ Below w.heap.size w w' := by
  have hm2 : bs.length ≤ 9223372036854775807 := by simp only [maxLen] at hm; omega
  go_enter Try.func36, Try.ntmps36
  go_wp2_with fail
  refine (open_any A c bs w h hw hc hm).mono ?_
  rintro e w1 ⟨rfl, r1, b1⟩
  go_wp2_with fail
  refine (l20Wait_any _ 0 w1 r1 (by omega)).mono ?_
  rintro e w2 ⟨v, hv1, hv2, rfl, ⟨A2, c2, bs2, p2, rx, hp2⟩, ch2⟩
  obtain ⟨x, hx, hc1⟩ := pick_lit [0, 0, 0, 0, 1, 2] (pickV bs2 (p2 + 1) 6) (by have := pickV_lt bs2 (p2 + 1) 6 (by omega); simp; omega)
  have hx2 : 0 ≤ x ∧ x < 3 := by simp at hx; omega
  obtain ⟨x, rfl⟩ := Int.eq_ofNat_of_zero_le hx2.1
  obtain ⟨y, hy, hc2⟩ := pick_lit [(pickV bs2 p2 20 : Int), 1000, -1] x (by simp; omega)
  have hyb : -1 ≤ y ∧ y ≤ 1000 := by have := pickV_lt bs2 p2 20 (by omega); simp at hy; omega
  have l6 := pickV_lt bs2 (p2 + 1) 6 (by omega)
  have l20 := pickV_lt bs2 p2 20 (by omega)
  generalize hV6 : pickV bs2 (p2 + 1) 6 = V6 at *
  have HV6 := hide hV6
  clear hV6
  simp at hc1 hc2
  have i1 : (x : Int) < 3 := by omega
  have i2 : (V6 : Int) < 6 := by omega
  clear hx hy
  go_wp2_with fail
  have b2 : Below w.heap.size w w2 := b1.trans (ch2.below (fun k hk => by omega) b1.size)
  have n2 : w.heap.size ≤ w2.heap.size := b2.size
  have n0 : w2.heap.size ≠ w.heap.size := by have := rx.blk.lt; omega
  have n1 : w2.heap.size + 1 ≠ w.heap.size := by have := rx.blk.lt; omega
  have e1 : p2 ≤ 1000000 := by omega
  have e2 : p2 + 1 ≤ 1000000 := by omega
  go_region_with (first
    | (go_at_call_of 56 (Value.int IntKind.i64 20); refine (pick_q _ c2 p2 A2 bs2 20 _ ?_ e1 (by omega) (by omega)).mono ?_; (focus (repeat (first | assumption | apply RdrX.alloc | apply RdrX.drew))); rintro e w5 ⟨rfl, rx5, cl5, sz5, ch5⟩)
    | (go_at_call_of 56 (Value.int IntKind.i64 6); refine (pick_q _ c2 (p2 + 1) A2 bs2 6 _ ?_ e2 (by omega) (by omega)).mono ?_; (focus (repeat (first | assumption | apply RdrX.alloc | apply RdrX.drew))); rintro e w6 ⟨rfl, rx6, cl6, sz6, ch6⟩; rw [unhide HV6]))
  all_goals go_wp2
  all_goals go_ret2
  all_goals refine ⟨v, y, hv1, hv2, hyb.1, hyb.2, rfl, ?_⟩
  all_goals repeat (first | assumption | (refine Below.alloc ?_ (by first | assumption | (simp [*]; done) | (simp [*]; omega)) _) | apply Below.drew | (refine bchg ?_ (by assumption) (Nat.le_refl _) (by first | assumption | (simp [*]; done) | (simp [*]; omega))))
set_option maxHeartbeats 4000000 in
theorem drawViews_any (A : Option Addr) (c : Nat) (bs : List Int) (w : World) (h : Rd w A (bs.map (.int .u8))) (hw : ∀ b ∈ bs, 0 ≤ b ∧ b ≤ 255) (hc : bs.length ≤ c) (hm : c ≤ maxLen) :
    Calls Try.prog 39 #[.slice A bs.length c] w fun e w' => ∃ v u : Int, 0 ≤ v ∧ v ≤ 100001 ∧ -1 ≤ u ∧ u ≤ 41 ∧ e = .returned (.tuple #[.int .i64 v, .int .i64 u]) ∧ Below w.heap.size w w' := by
  have hm2 : bs.length ≤ 9223372036854775807 := by simp only [maxLen] at hm; omega
  go_enter Try.func39, Try.ntmps39
  go_wp2_with fail
  refine (open_any A c bs w h hw hc hm).mono ?_
  rintro e w1 ⟨rfl, r1, b1⟩
  go_wp2_with fail
  refine (l20Wait_any _ 0 w1 r1 (by omega)).mono ?_
  rintro e w2 ⟨v, hv1, hv2, rfl, ⟨A2, c2, bs2, p2, rx, hp2⟩, ch2⟩
  obtain ⟨x, hx, hc1⟩ := pick_lit [0, 0, 0, 0, 1, 2, 3] (pickV bs2 (p2 + 1) 7) (by have := pickV_lt bs2 (p2 + 1) 7 (by omega); simp; omega)
  have hx2 : 0 ≤ x ∧ x < 4 := by simp at hx; omega
  obtain ⟨x, rfl⟩ := Int.eq_ofNat_of_zero_le hx2.1
  obtain ⟨y, hy, hc2⟩ := pick_lit [(pickV bs2 p2 12 : Int), 40, 41, -1] x (by simp; omega)
  have hyb : -1 ≤ y ∧ y ≤ 41 := by have := pickV_lt bs2 p2 12 (by omega); simp at hy; omega
  have l6 := pickV_lt bs2 (p2 + 1) 7 (by omega)
  have l20 := pickV_lt bs2 p2 12 (by omega)
  generalize hV6 : pickV bs2 (p2 + 1) 7 = V6 at *
  have HV6 := hide hV6
  clear hV6
  simp at hc1 hc2
  have i1 : (x : Int) < 4 := by omega
  have i2 : (V6 : Int) < 7 := by omega
  clear hx hy
  go_wp2_with fail
  have b2 : Below w.heap.size w w2 := b1.trans (ch2.below (fun k hk => by omega) b1.size)
  have n2 : w.heap.size ≤ w2.heap.size := b2.size
  have n0 : w2.heap.size ≠ w.heap.size := by have := rx.blk.lt; omega
  have n1 : w2.heap.size + 1 ≠ w.heap.size := by have := rx.blk.lt; omega
  have e1 : p2 ≤ 1000000 := by omega
  have e2 : p2 + 1 ≤ 1000000 := by omega
  go_region_with (first
    | (go_at_call_of 56 (Value.int IntKind.i64 12); refine (pick_q _ c2 p2 A2 bs2 12 _ ?_ e1 (by omega) (by omega)).mono ?_; (focus (repeat (first | assumption | apply RdrX.alloc | apply RdrX.drew))); rintro e w5 ⟨rfl, rx5, cl5, sz5, ch5⟩)
    | (go_at_call_of 56 (Value.int IntKind.i64 7); refine (pick_q _ c2 (p2 + 1) A2 bs2 7 _ ?_ e2 (by omega) (by omega)).mono ?_; (focus (repeat (first | assumption | apply RdrX.alloc | apply RdrX.drew))); rintro e w6 ⟨rfl, rx6, cl6, sz6, ch6⟩; rw [unhide HV6]))
  all_goals go_wp2
  all_goals go_ret2
  all_goals refine ⟨v, y, hv1, hv2, hyb.1, hyb.2, rfl, ?_⟩
  all_goals repeat (first | assumption | (refine Below.alloc ?_ (by first | assumption | (simp [*]; done) | (simp [*]; omega)) _) | apply Below.drew | (refine bchg ?_ (by assumption) (Nat.le_refl _) (by first | assumption | (simp [*]; done) | (simp [*]; omega))))
theorem drawNext_any (A : Option Addr) (c : Nat) (bs : List Int) (w : World) (h : Rd w A (bs.map (.int .u8))) (hw : ∀ b ∈ bs, 0 ≤ b ∧ b ≤ 255) (hc : bs.length ≤ c) (hm : c ≤ maxLen) :
    Calls Try.prog 38 #[.slice A bs.length c] w fun e w' => ∃ v u : Int, -1 ≤ v ∧ v ≤ 1001 ∧ -1 ≤ u ∧ u ≤ 4 ∧ e = .returned (.tuple #[.int .i64 v, .int .i64 u]) ∧ Below w.heap.size w w' := by
  have hm2 : bs.length ≤ 9223372036854775807 := by simp only [maxLen] at hm; omega
  go_enter Try.func38, Try.ntmps38
  go_wp2_with fail
  refine (open_any A c bs w h hw hc hm).mono ?_
  rintro e w1 ⟨rfl, r1, b1⟩
  go_wp2_with fail
  refine (l20View_any _ 0 w1 r1 (by omega)).mono ?_
  rintro e w2 ⟨v, hv1, hv2, rfl, r2, ch2⟩
  have b2 : Below w.heap.size w w2 := b1.trans (ch2.below (fun k hk => by omega) b1.size)
  go_wp2_with fail
  refine (pick_any _ _ 5 w2 r2 (by omega) (by omega) (by omega)).mono ?_
  rintro e w3 ⟨v3, hv3, rfl, r3, ch3⟩
  have b3 := bchg b2 ch3 (Nat.le_refl _) b2.size
  go_wp2_with fail
  refine (pick_any _ _ 9 w3 r3 (by omega) (by omega) (by omega)).mono ?_
  rintro e w4 ⟨v4, hv4, rfl, r4, ch4⟩
  have b4 := bchg b3 ch4 (Nat.le_refl _) b3.size
  go_wp2
  go_ret2
  exact ⟨v, _, hv1, hv2, by omega, by omega, rfl, b4⟩
end Go.Proofs.Ytkbbhbgjanfcoaa
