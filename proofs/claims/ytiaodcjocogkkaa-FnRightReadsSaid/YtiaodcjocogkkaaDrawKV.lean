/- Keys and values that are drawn. -/
import Derived.Test.YtiaodcjocogkkaaRdr
namespace Go.Proofs.Ytiaodcjocogkkaa
open Go.RowKit
set_option linter.unusedVariables false
set_option linter.unusedSimpArgs false

theorem l20Key_any (g N : Nat) (w : World) (h : Rdr w g N) (hN : N ≤ 999000) :
    Calls Try.prog 113 #[.pointer (some ⟨g, 0, none⟩)] w fun e w' => ∃ v : Nat, v ≤ 31 ∧ e = .returned (.int .i64 v) ∧ Rdr w' g (N + 3) ∧ Chg (fun k => k = g) w w' := by
  go_enter Try.func113, Try.ntmps113
  go_wp2_with fail
  refine (pick_any g N 5 w h (by omega) (by omega) (by omega)).mono ?_
  rintro e w1 ⟨v1, hv1, rfl, h1, ch1⟩
  go_wp2_with fail
  refine (pick_any g (N + 1) 32 w1 h1 (by omega) (by omega) (by omega)).mono ?_
  rintro e w2 ⟨v2, hv2, rfl, h2, ch2⟩
  go_wp2_with fail
  refine (pick_any g (N + 1 + 1) 4 _ (h2.alloc _) (by omega) (by omega) (by omega)).mono ?_
  rintro e w3 ⟨v3, hv3, rfl, h3, ch3⟩
  have hg := h2.lt
  have hq : v3 / 3 < 2 := by omega
  have hq2 : (v3 : Int) / 3 = ((v3 / 3 : Nat) : Int) := by omega
  obtain ⟨x, hx, hc1⟩ := lit_int [(v1 : Int), (v2 : Int)] ch3 (show ¬ w2.heap.size = g by omega) (show v3 / 3 < 2 from hq)
  have hxb : 0 ≤ x ∧ x ≤ 31 := by simp at hx; omega
  obtain ⟨x, rfl⟩ := Int.eq_ofNat_of_zero_le hxb.1
  generalize v3 / 3 = q at *
  have i1 : (q : Int) < 2 := by omega
  clear hx
  go_wp2
  go_ret
  exact ⟨x, by omega, rfl, h3, ch1.trans (ch2.trans (((Chg.refl _ _).alloc _).trans ch3))⟩
theorem l20Value_any (g N : Nat) (w : World) (h : Rdr w g N) (hN : N ≤ 999000) :
    Calls Try.prog 114 #[.pointer (some ⟨g, 0, none⟩)] w fun e w' => ∃ v : Nat, v ≤ 1000000 ∧ e = .returned (.int .i64 v) ∧ Rdr w' g (N + 3) ∧ Chg (fun k => k = g) w w' := by
  go_enter Try.func114, Try.ntmps114
  go_wp2_with fail
  refine (pick_any g N 12 w h (by omega) (by omega) (by omega)).mono ?_
  rintro e w1 ⟨v1, hv1, rfl, h1, ch1⟩
  go_wp2_with fail
  refine (pick_any g (N + 1) 256 w1 h1 (by omega) (by omega) (by omega)).mono ?_
  rintro e w2 ⟨v2, hv2, rfl, h2, ch2⟩
  go_wp2_with fail
  refine (pick_any g (N + 1 + 1) 7 _ ((h2.alloc _).alloc _) (by omega) (by omega) (by omega)).mono ?_
  rintro e w3 ⟨v3, hv3, rfl, h3, ch3⟩
  have hg := h2.lt
  obtain ⟨x, hx, hc1⟩ := lit_int [0, 0, 1, 1, 2, 3, 4] ch3 (show ¬ (w2.alloc _).heap.size = g by simp; omega) (show v3 < 7 by omega)
  have hx2 : 0 ≤ x ∧ x < 5 := by simp at hx; omega
  obtain ⟨x, rfl⟩ := Int.eq_ofNat_of_zero_le hx2.1
  obtain ⟨y, hy, hc2⟩ := lit_int [(v1 : Int), (v2 : Int), 1000000, 999999, 0] ((Chg.refl (fun k => k = g) _).alloc _ |>.trans ch3) (show ¬ w2.heap.size = g by omega) (show x < 5 by omega)
  have hyb : 0 ≤ y ∧ y ≤ 1000000 := by simp at hy; omega
  obtain ⟨y, rfl⟩ := Int.eq_ofNat_of_zero_le hyb.1
  simp at hc1
  have i1 : (x : Int) < 5 := by omega
  clear hx hy
  go_wp2
  go_ret
  exact ⟨y, by omega, rfl, h3, ch1.trans (ch2.trans ((((Chg.refl _ _).alloc _).alloc _).trans ch3))⟩
end Go.Proofs.Ytiaodcjocogkkaa
