/- Pairs of stores and differences that are drawn. -/
import Derived.Test.YtpfdhbomcoafdaaDrawS
import Derived.Test.YtpfdhbomcoafdaaArr
namespace Go.Proofs.Ytpfdhbomcoafdaa
open Go.RowKit
set_option linter.unusedVariables false
set_option linter.unusedSimpArgs false

theorem drawApply_any (A : Option Addr) (c : Nat) (bs : List Int) (w : World) (h : Rd w A (bs.map (.int .u8))) (hw : ∀ b ∈ bs, 0 ≤ b ∧ b ≤ 255) (hc : bs.length ≤ c) (hm : c ≤ maxLen) :
    Calls Try.prog 20 #[.slice A bs.length c] w fun e w' => ∃ A1 c1 A2 c2, ∃ xs ys : List Ent, xs.length ≤ 33 ∧ ys.length ≤ 33 ∧ e = .returned (.tuple #[.slice A1 xs.length c1, .slice A2 ys.length c2]) ∧ Rd w' A1 (xs.flatMap encE) ∧ Rd w' A2 (ys.flatMap encE) ∧ Below w.heap.size w w' := by
  have hm2 : bs.length ≤ 9223372036854775807 := by simp only [maxLen] at hm; omega
  go_enter Try.func20, Try.ntmps20
  go_wp2_with fail
  refine (open_any A c bs w h hw hc hm).mono ?_
  rintro e w1 ⟨rfl, r1, b1⟩
  have hg1 := r1.lt
  go_wp2_with fail
  refine (l20Store_any _ 0 12 w1 r1 (by omega) (by omega) (by omega)).mono ?_
  rintro e w2 ⟨A2, c2, xs, hl, rfl, o2, h2, ch2⟩
  go_wp2_with fail
  refine (l20Diff_any _ _ 12 w2 h2 (by omega) (by omega) (by omega)).mono ?_
  rintro e w3 ⟨A3, c3, ys, hl3, rfl, _, _, _, o3, h3, ch3⟩
  have r7 : Rd w3 A2 (xs.flatMap encE) := own_rd (own_reader o2 ch3 hg1)
  go_wp2
  go_ret2
  exact ⟨A2, c2, A3, c3, xs, ys, by omega, by omega, rfl, r7, o3, b1.trans ((ch2.trans ch3).below (fun k hk => by omega) b1.size)⟩
theorem drawDiffS_any (A : Option Addr) (c : Nat) (bs : List Int) (w : World) (h : Rd w A (bs.map (.int .u8))) (hw : ∀ b ∈ bs, 0 ≤ b ∧ b ≤ 255) (hc : bs.length ≤ c) (hm : c ≤ maxLen) :
    Calls Try.prog 26 #[.slice A bs.length c] w fun e w' => ∃ A1 c1 A2 c2, ∃ xs ys : List Ent, xs.length ≤ 33 ∧ ys.length ≤ 33 ∧ e = .returned (.tuple #[.slice A1 xs.length c1, .slice A2 ys.length c2]) ∧ Rd w' A1 (xs.flatMap encE) ∧ Rd w' A2 (ys.flatMap encE) ∧ Below w.heap.size w w' := by
  have hm2 : bs.length ≤ 9223372036854775807 := by simp only [maxLen] at hm; omega
  go_enter Try.func26, Try.ntmps26
  go_wp2_with fail
  refine (open_any A c bs w h hw hc hm).mono ?_
  rintro e w1 ⟨rfl, r1, b1⟩
  have hg1 := r1.lt
  go_wp2_with fail
  refine (l20Store_any _ 0 12 w1 r1 (by omega) (by omega) (by omega)).mono ?_
  rintro e w2 ⟨A2, c2, xs, hl, rfl, o2, h2, ch2⟩
  go_wp2_with fail
  refine (l20Store_any _ _ 12 w2 h2 (by omega) (by omega) (by omega)).mono ?_
  rintro e w3 ⟨A3, c3, ys, hl3, rfl, o3, h3, ch3⟩
  have r7 : Rd w3 A2 (xs.flatMap encE) := own_rd (own_reader o2 ch3 hg1)
  go_wp2
  go_ret2
  exact ⟨A2, c2, A3, c3, xs, ys, by omega, by omega, rfl, r7, own_rd o3, b1.trans ((ch2.trans ch3).below (fun k hk => by omega) b1.size)⟩
theorem drawJoin_any (A : Option Addr) (c : Nat) (bs : List Int) (w : World) (h : Rd w A (bs.map (.int .u8))) (hw : ∀ b ∈ bs, 0 ≤ b ∧ b ≤ 255) (hc : bs.length ≤ c) (hm : c ≤ maxLen) :
    Calls Try.prog 28 #[.slice A bs.length c] w fun e w' => ∃ A1 c1 A2 c2, ∃ xs ys : List Ent, xs.length ≤ 33 ∧ ys.length ≤ 33 ∧ e = .returned (.tuple #[.slice A1 xs.length c1, .slice A2 ys.length c2]) ∧ Rd w' A1 (xs.flatMap encE) ∧ Rd w' A2 (ys.flatMap encE) ∧ Below w.heap.size w w' := by
  have hm2 : bs.length ≤ 9223372036854775807 := by simp only [maxLen] at hm; omega
  go_enter Try.func28, Try.ntmps28
  go_wp2_with fail
  refine (open_any A c bs w h hw hc hm).mono ?_
  rintro e w1 ⟨rfl, r1, b1⟩
  have hg1 := r1.lt
  go_wp2_with fail
  refine (l20Diff_any _ 0 12 w1 r1 (by omega) (by omega) (by omega)).mono ?_
  rintro e w2 ⟨A2, c2, xs, hl, rfl, _, _, f2, o2, h2, ch2⟩
  go_wp2_with fail
  refine (l20Diff_any _ _ 12 w2 h2 (by omega) (by omega) (by omega)).mono ?_
  rintro e w3 ⟨A3, c3, ys, hl3, rfl, _, _, _, o3, h3, ch3⟩
  have r7 : Rd w3 A2 (xs.flatMap encE) := o2.chg_far f2 hg1 ch3
  go_wp2
  go_ret2
  exact ⟨A2, c2, A3, c3, xs, ys, by omega, by omega, rfl, r7, o3, b1.trans ((ch2.trans ch3).below (fun k hk => by omega) b1.size)⟩
end Go.Proofs.Ytpfdhbomcoafdaa
