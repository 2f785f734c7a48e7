/- The exact laws of picked wishes. -/
import Derived.Test.YtcgheamckfodaaaPickA
import Derived.Test.YtcgheamckfodaaaFlatAction
import Derived.Test.YtcgheamckfodaaaOpenWish
import Derived.Deep.DeepCutAuto
import Derived.Deep.Cut
namespace Go.Proofs.Ytcgheamckfodaaa
open Go.RowKit
set_option linter.unusedVariables false
set_option linter.unusedSimpArgs false

set_option maxRecDepth 100000 in
set_option maxHeartbeats 4000000 in
theorem law_FnExactPickWishes (A0 : Option Addr) (c0 : Nat) (xs : List Wsh) (many : Int) (w : World) (h0 : Rd w A0 (xs.flatMap encW)) (hw0 : ∀ n ∈ xs, n.wf) (hm0 : xs.length ≤ maxLen) (hi1 : -9223372036854775808 ≤ many) (hj1 : many ≤ 9223372036854775807) :
    Calls Try.prog 4 #[.slice A0 xs.length c0, .int .i64 many] w fun e w' => e = .returned (.bool true) ∧ Below w.heap.size w w' := by
  clear hw0
  have hm0' : xs.length ≤ 9223372036854775807 := by simp only [maxLen] at hm0; omega
  clear hm0
  by_cases hl0 : (xs.length : Int) ≤ 1048576
  rotate_left
  · go_enter Try.func4, Try.ntmps4
    go_wp2_with fail
    refine (szWishS_any A0 xs.length c0 (1048576) _ (by omega) (by omega) (by omega)).mono ?_
    rintro e w' ⟨rfl, rfl⟩
    rw [if_neg (by omega)]
    go_wp2
    go_ret
    first | exact ⟨rfl, Below.refl _ _⟩ | exact ⟨rfl, (Below.refl _ _).alloc (Nat.le_refl _) _⟩
  have hk0 : xs.length ≤ 1048576 := by omega
  have hy0 : (pickI xs many).length ≤ 10 := pickI_le xs many
  go_enter Try.func4, Try.ntmps4
  go_wp2_with fail
  refine (szWishS_any A0 xs.length c0 (1048576) _ (by omega) (by omega) (by omega)).mono ?_
  rintro e w' ⟨rfl, rfl⟩
  rw [if_pos (by omega)]
  have hB := Below.refl w.heap.size w
  go_wp2_with fail
  refine (toWishS_any A0 c0 xs w hk0 (h0.new hB)).mono ?_
  rintro e w1 ⟨B1, d1, rfl, o1, t1⟩
  have HL1 := hide (own_rng o1)
  have s1 := t1.size
  replace hB := bthen hB t1
  go_wp2_with fail
  refine (pickI_spec B1 d1 xs many w1 (own_rd o1) (by omega) (by omega) (by omega)).mono ?_
  rintro e w2 ⟨B2, d2, rfl, o2, t2⟩
  have HL2 := hide (own_rng o2)
  have s2 := t2.size
  replace hB := bthen hB t2
  replace o1 := own_new o1 t2
  go_wp2_with fail
  refine (toWishS_any A0 c0 xs w2 hk0 (h0.new hB)).mono ?_
  rintro e w3 ⟨B3, d3, rfl, o3, t3⟩
  have HL3 := hide (own_rng o3)
  have s3 := t3.size
  replace hB := bthen hB t3
  replace o1 := own_new o1 t3
  replace o2 := own_new o2 t3
  go_wp2_with fail
  refine (pickI_impl B3 d3 xs many w3 (own_rd o3) (by omega) (by omega) (by omega)).mono ?_
  rintro e w4 ⟨B4, d4, rfl, o4, t4⟩
  have HL4 := hide (own_rng o4)
  have s4 := t4.size
  replace hB := bthen hB t4
  replace o1 := own_new o1 t4
  replace o2 := own_new o2 t4
  replace o3 := own_new o3 t4
  go_wp2_with fail
  refine (eqIntS_any B4 B2 d4 d2 _ _ w4 (own_rd o4) (own_rd o2) (by omega)).mono ?_
  rintro e w' ⟨rfl, m, rfl⟩
  have s5 : w4.heap.size ≤ (w4.drewN m).heap.size := Nat.le_refl _
  replace hB := below_drewN hB m
  replace o1 := own_drewN o1 m
  replace o2 := own_drewN o2 m
  replace o3 := own_drewN o3 m
  replace o4 := own_drewN o4 m
  generalize w4.drewN m = w5 at *
  go_wp2_with fail
  refine (toWishS_any A0 c0 xs w5 hk0 (h0.new hB)).mono ?_
  rintro e w6 ⟨B6, d6, rfl, o6, t6⟩
  have HL6 := hide (own_rng o6)
  have s6 := t6.size
  replace hB := bthen hB t6
  replace o1 := own_new o1 t6
  replace o2 := own_new o2 t6
  replace o3 := own_new o3 t6
  replace o4 := own_new o4 t6
  go_wp2_with fail
  refine (eqWishS_any B3 B6 d3 d6 _ _ w6 (own_rd o3) (own_rd o6) (by omega)).mono ?_
  rintro e w7 ⟨rfl, t7⟩
  have s7 := t7.size
  replace hB := bthen hB t7
  replace o1 := own_new o1 t7
  replace o2 := own_new o2 t7
  replace o3 := own_new o3 t7
  replace o4 := own_new o4 t7
  replace o6 := own_new o6 t7
  go_wp2_with fail
  refine (markWishS_any B3 d3 _ (1) _ w7 o3 (by omega) (by omega) (by omega)).mono ?_
  rintro e w8 ⟨rfl, x8, ch8⟩
  have s8 := ch8.size
  replace hB := hB.trans (ch8.below (fun g hg hA => by have := unhide HL3 g hA; omega) (by omega))
  replace o2 := own_chg o2 ch8 (fun g hA hS => by have h1 := unhide HL2 g hA; have h2 := unhide HL3 g hS; omega)
  replace o4 := own_chg o4 ch8 (fun g hA hS => by have h1 := unhide HL4 g hA; have h2 := unhide HL3 g hS; omega)
  replace o3 := x8
  go_wp2_with fail
  refine (eqIntS_any B4 B2 d4 d2 _ _ w8 (own_rd o4) (own_rd o2) (by omega)).mono ?_
  rintro e w' ⟨rfl, m, rfl⟩
  have s9 : w8.heap.size ≤ (w8.drewN m).heap.size := Nat.le_refl _
  replace hB := below_drewN hB m
  replace o2 := own_drewN o2 m
  replace o4 := own_drewN o4 m
  generalize w8.drewN m = w9 at *
  go_wp2_with fail
  refine (markIntS_any B4 d4 _ (1) _ w9 o4 (by omega) (by omega) (by omega)).mono ?_
  rintro e w10 ⟨rfl, x10, ch10⟩
  have s10 := ch10.size
  replace hB := hB.trans (ch10.below (fun g hg hA => by have := unhide HL4 g hA; omega) (by omega))
  replace o2 := own_chg o2 ch10 (fun g hA hS => by have h1 := unhide HL2 g hA; have h2 := unhide HL4 g hS; omega)
  replace o4 := x10
  go_wp2_with fail
  refine (heldIntS_any B4 d4 (pickI xs many).length (1) w10 (own_rd o4) (by omega) (by omega) (by omega)).mono ?_
  rintro e w' ⟨rfl, rfl⟩
  go_wp2_with fail
  refine (toWishS_any A0 c0 xs w10 hk0 (h0.new hB)).mono ?_
  rintro e w11 ⟨B11, d11, rfl, o11, t11⟩
  have HL11 := hide (own_rng o11)
  have s11 := t11.size
  replace hB := bthen hB t11
  replace o2 := own_new o2 t11
  replace o4 := own_new o4 t11
  go_wp2_with fail
  refine (pickI_impl B11 d11 xs many w11 (own_rd o11) (by omega) (by omega) (by omega)).mono ?_
  rintro e w12 ⟨B12, d12, rfl, o12, t12⟩
  have HL12 := hide (own_rng o12)
  have s12 := t12.size
  replace hB := bthen hB t12
  replace o2 := own_new o2 t12
  replace o4 := own_new o4 t12
  replace o11 := own_new o11 t12
  go_wp2_with fail
  refine (eqIntS_any B12 B2 d12 d2 _ _ w12 (own_rd o12) (own_rd o2) (by omega)).mono ?_
  rintro e w' ⟨rfl, m, rfl⟩
  have s13 : w12.heap.size ≤ (w12.drewN m).heap.size := Nat.le_refl _
  replace hB := below_drewN hB m
  replace o2 := own_drewN o2 m
  replace o4 := own_drewN o4 m
  replace o11 := own_drewN o11 m
  replace o12 := own_drewN o12 m
  generalize w12.drewN m = w13 at *
  go_wp2_with fail
  refine (heldIntS_any B4 d4 (pickI xs many).length (1) w13 (own_rd o4) (by omega) (by omega) (by omega)).mono ?_
  rintro e w' ⟨rfl, rfl⟩
  go_wp2
  go_ret
  exact ⟨rfl, hB⟩
set_option maxRecDepth 100000 in
set_option maxHeartbeats 4000000 in
theorem law_FnExactPickedActions (A0 : Option Addr) (c0 : Nat) (xs : List Wsh) (many : Int) (w : World) (h0 : Rd w A0 (xs.flatMap encW)) (hw0 : ∀ n ∈ xs, n.wf) (hm0 : xs.length ≤ maxLen) (hi1 : -9223372036854775808 ≤ many) (hj1 : many ≤ 9223372036854775807) :
    Calls Try.prog 5 #[.slice A0 xs.length c0, .int .i64 many] w fun e w' => e = .returned (.bool true) ∧ Below w.heap.size w w' := by
  clear hw0
  have hm0' : xs.length ≤ 9223372036854775807 := by simp only [maxLen] at hm0; omega
  clear hm0
  by_cases hl0 : (xs.length : Int) ≤ 1048576
  rotate_left
  · go_enter Try.func5, Try.ntmps5
    go_wp2_with fail
    refine (szWishS_any A0 xs.length c0 (1048576) _ (by omega) (by omega) (by omega)).mono ?_
    rintro e w' ⟨rfl, rfl⟩
    rw [if_neg (by omega)]
    go_wp2
    go_ret
    first | exact ⟨rfl, Below.refl _ _⟩ | exact ⟨rfl, (Below.refl _ _).alloc (Nat.le_refl _) _⟩
  have hk0 : xs.length ≤ 1048576 := by omega
  have hy0 : (pickedL xs many).length ≤ 10 := pickedL_le xs many
  go_enter Try.func5, Try.ntmps5
  go_wp2_with fail
  refine (szWishS_any A0 xs.length c0 (1048576) _ (by omega) (by omega) (by omega)).mono ?_
  rintro e w' ⟨rfl, rfl⟩
  rw [if_pos (by omega)]
  have hB := Below.refl w.heap.size w
  go_wp2_with fail
  refine (toWishS_any A0 c0 xs w hk0 (h0.new hB)).mono ?_
  rintro e w1 ⟨B1, d1, rfl, o1, t1⟩
  have HL1 := hide (own_rng o1)
  have s1 := t1.size
  replace hB := bthen hB t1
  go_wp2_with fail
  refine (pickedActions_spec B1 d1 xs many w1 (own_rd o1) (by omega) (by omega) (by omega)).mono ?_
  rintro e w2 ⟨B2, d2, rfl, o2, t2⟩
  have HL2 := hide (own_rng o2)
  have s2 := t2.size
  replace hB := bthen hB t2
  replace o1 := own_new o1 t2
  go_wp2_with fail
  refine (toWishS_any A0 c0 xs w2 hk0 (h0.new hB)).mono ?_
  rintro e w3 ⟨B3, d3, rfl, o3, t3⟩
  have HL3 := hide (own_rng o3)
  have s3 := t3.size
  replace hB := bthen hB t3
  replace o1 := own_new o1 t3
  replace o2 := own_new o2 t3
  go_wp2_with fail
  refine (pickedActions_impl B3 d3 xs many w3 (own_rd o3) (by omega) (by omega) (by omega)).mono ?_
  rintro e w4 ⟨B4, d4, rfl, o4, t4⟩
  have HL4 := hide (own_rng o4)
  have s4 := t4.size
  replace hB := bthen hB t4
  replace o1 := own_new o1 t4
  replace o2 := own_new o2 t4
  replace o3 := own_new o3 t4
  go_wp2_with fail
  refine (eqActionS_any B4 B2 d4 d2 _ _ w4 (own_rd o4) (own_rd o2) (by omega)).mono ?_
  rintro e w5 ⟨rfl, t5⟩
  have s5 := t5.size
  replace hB := bthen hB t5
  replace o1 := own_new o1 t5
  replace o2 := own_new o2 t5
  replace o3 := own_new o3 t5
  replace o4 := own_new o4 t5
  go_wp2_with fail
  refine (toWishS_any A0 c0 xs w5 hk0 (h0.new hB)).mono ?_
  rintro e w6 ⟨B6, d6, rfl, o6, t6⟩
  have HL6 := hide (own_rng o6)
  have s6 := t6.size
  replace hB := bthen hB t6
  replace o1 := own_new o1 t6
  replace o2 := own_new o2 t6
  replace o3 := own_new o3 t6
  replace o4 := own_new o4 t6
  go_wp2_with fail
  refine (eqWishS_any B3 B6 d3 d6 _ _ w6 (own_rd o3) (own_rd o6) (by omega)).mono ?_
  rintro e w7 ⟨rfl, t7⟩
  have s7 := t7.size
  replace hB := bthen hB t7
  replace o1 := own_new o1 t7
  replace o2 := own_new o2 t7
  replace o3 := own_new o3 t7
  replace o4 := own_new o4 t7
  replace o6 := own_new o6 t7
  go_wp2_with fail
  refine (markWishS_any B3 d3 _ (1) _ w7 o3 (by omega) (by omega) (by omega)).mono ?_
  rintro e w8 ⟨rfl, x8, ch8⟩
  have s8 := ch8.size
  replace hB := hB.trans (ch8.below (fun g hg hA => by have := unhide HL3 g hA; omega) (by omega))
  replace o2 := own_chg o2 ch8 (fun g hA hS => by have h1 := unhide HL2 g hA; have h2 := unhide HL3 g hS; omega)
  replace o4 := own_chg o4 ch8 (fun g hA hS => by have h1 := unhide HL4 g hA; have h2 := unhide HL3 g hS; omega)
  replace o3 := x8
  go_wp2_with fail
  refine (eqActionS_any B4 B2 d4 d2 _ _ w8 (own_rd o4) (own_rd o2) (by omega)).mono ?_
  rintro e w9 ⟨rfl, t9⟩
  have s9 := t9.size
  replace hB := bthen hB t9
  replace o2 := own_new o2 t9
  replace o4 := own_new o4 t9
  go_wp2_with fail
  refine (markActionS_any B4 d4 _ (1) _ w9 o4 (by omega) (by omega) (by omega)).mono ?_
  rintro e w10 ⟨rfl, x10, ch10⟩
  have s10 := ch10.size
  replace hB := hB.trans (ch10.below (fun g hg hA => by have := unhide HL4 g hA; omega) (by omega))
  replace o2 := own_chg o2 ch10 (fun g hA hS => by have h1 := unhide HL2 g hA; have h2 := unhide HL4 g hS; omega)
  replace o4 := x10
  go_wp2_with fail
  refine (heldActionS_any B4 d4 (pickedL xs many).length (1) w10 (own_rd o4) (by omega) (by omega) (by omega)).mono ?_
  rintro e w' ⟨rfl, rfl⟩
  go_wp2_with fail
  refine (toWishS_any A0 c0 xs w10 hk0 (h0.new hB)).mono ?_
  rintro e w11 ⟨B11, d11, rfl, o11, t11⟩
  have HL11 := hide (own_rng o11)
  have s11 := t11.size
  replace hB := bthen hB t11
  replace o2 := own_new o2 t11
  replace o4 := own_new o4 t11
  go_wp2_with fail
  refine (pickedActions_impl B11 d11 xs many w11 (own_rd o11) (by omega) (by omega) (by omega)).mono ?_
  rintro e w12 ⟨B12, d12, rfl, o12, t12⟩
  have HL12 := hide (own_rng o12)
  have s12 := t12.size
  replace hB := bthen hB t12
  replace o2 := own_new o2 t12
  replace o4 := own_new o4 t12
  replace o11 := own_new o11 t12
  go_wp2_with fail
  refine (eqActionS_any B12 B2 d12 d2 _ _ w12 (own_rd o12) (own_rd o2) (by omega)).mono ?_
  rintro e w13 ⟨rfl, t13⟩
  have s13 := t13.size
  replace hB := bthen hB t13
  replace o2 := own_new o2 t13
  replace o4 := own_new o4 t13
  replace o11 := own_new o11 t13
  replace o12 := own_new o12 t13
  go_wp2_with fail
  refine (heldActionS_any B4 d4 (pickedL xs many).length (1) w13 (own_rd o4) (by omega) (by omega) (by omega)).mono ?_
  rintro e w' ⟨rfl, rfl⟩
  go_wp2
  go_ret
  exact ⟨rfl, hB⟩
end Go.Proofs.Ytcgheamckfodaaa
