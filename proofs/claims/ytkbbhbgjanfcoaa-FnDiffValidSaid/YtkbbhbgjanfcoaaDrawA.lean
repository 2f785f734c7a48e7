/- What the laws on leaders and waits draw. -/
import Derived.Test.YtkbbhbgjanfcoaaRdr
namespace Go.Proofs.Ytkbbhbgjanfcoaa
open Go.RowKit
set_option linter.unusedVariables false
set_option linter.unusedSimpArgs false

theorem l20View_any (g N : Nat) (w : World) (h : Rdr w g N) (hN : N ≤ 999000) :
    Calls Try.prog 52 #[.pointer (some ⟨g, 0, none⟩)] w fun e w' => ∃ v : Int, -1 ≤ v ∧ v ≤ 1001 ∧ e = .returned (.int .i64 v) ∧ Rdr w' g (N + 3) ∧ Chg (fun k => k = g) w w' := by
  go_enter Try.func52, Try.ntmps52
  go_wp2_with fail
  refine (pick_any g N 40 w h (by omega) (by omega) (by omega)).mono ?_
  rintro e w1 ⟨v1, hv1, rfl, h1, ch1⟩
  go_wp2_with fail
  refine (pick_any g (N + 1) 5 w1 h1 (by omega) (by omega) (by omega)).mono ?_
  rintro e w2 ⟨v2, hv2, rfl, h2, ch2⟩
  go_wp2_with fail
  refine (pick_any g (N + 1 + 1) 7 _ ((h2.alloc _).alloc _) (by omega) (by omega) (by omega)).mono ?_
  rintro e w3 ⟨v3, hv3, rfl, h3, ch3⟩
  have hg := h2.lt
  obtain ⟨x, hx, hc1⟩ := lit_int [0, 0, 0, 1, 1, 2, 3] ch3 (show ¬ (w2.alloc _).heap.size = g by simp; omega) (show v3 < 7 by omega)
  have hx2 : 0 ≤ x ∧ x < 4 := by simp at hx; omega
  obtain ⟨x, rfl⟩ := Int.eq_ofNat_of_zero_le hx2.1
  obtain ⟨y, hy, hc2⟩ := lit_int [(v1 : Int), 1000 - (v2 : Int), 1001, -1] ((Chg.refl (fun k => k = g) _).alloc _ |>.trans ch3) (show ¬ w2.heap.size = g by omega) (show x < 4 by omega)
  have hyb : -1 ≤ y ∧ y ≤ 1001 := by simp at hy; omega
  simp at hc1
  have i1 : (x : Int) < 4 := by omega
  clear hx hy
  go_wp2
  go_ret
  exact ⟨y, hyb.1, hyb.2, rfl, h3, ch1.trans (ch2.trans ((((Chg.refl _ _).alloc _).alloc _).trans ch3))⟩
theorem drawLeader_any (A : Option Addr) (c : Nat) (bs : List Int) (w : World) (h : Rd w A (bs.map (.int .u8))) (hw : ∀ b ∈ bs, 0 ≤ b ∧ b ≤ 255) (hc : bs.length ≤ c) (hm : c ≤ maxLen) :
    Calls Try.prog 30 #[.slice A bs.length c] w fun e w' => ∃ v : Int, -1 ≤ v ∧ v ≤ 1001 ∧ e = .returned (.int .i64 v) ∧ Below w.heap.size w w' := by
  have hm2 : bs.length ≤ 9223372036854775807 := by simp only [maxLen] at hm; omega
  go_enter Try.func30, Try.ntmps30
  go_wp2_with fail
  refine (open_any A c bs w h hw hc hm).mono ?_
  rintro e w1 ⟨rfl, r1, b1⟩
  go_wp2_with fail
  refine (l20View_any _ 0 w1 r1 (by omega)).mono ?_
  rintro e w2 ⟨v, hv1, hv2, rfl, r2, ch2⟩
  go_wp2
  go_ret
  exact ⟨v, hv1, hv2, rfl, b1.trans (ch2.below (fun k hk => by omega) b1.size)⟩
end Go.Proofs.Ytkbbhbgjanfcoaa
