/- The exact laws of differences: walks printed by gen_exact.py. -/
import Derived.Test.YtpfdhbomcoafdaaJoin
import Derived.Test.YtpfdhbomcoafdaaFlatEntry
import Derived.Test.YtpfdhbomcoafdaaOpenEntry
import Derived.Deep.DeepCutAuto
import Derived.Deep.Cut
namespace Go.Proofs.Ytpfdhbomcoafdaa
open Go.RowKit
set_option linter.unusedVariables false
set_option linter.unusedSimpArgs false

set_option maxRecDepth 100000 in
set_option maxHeartbeats 4000000 in
theorem law_FnExactJoinDiffs (A0 : Option Addr) (c0 : Nat) (xs : List Ent) (A1 : Option Addr) (c1 : Nat) (ys : List Ent) (w : World) (h0 : Rd w A0 (xs.flatMap encE)) (hw0 : ∀ n ∈ xs, n.wf) (hm0 : xs.length ≤ maxLen) (h1 : Rd w A1 (ys.flatMap encE)) (hw1 : ∀ n ∈ ys, n.wf) (hm1 : ys.length ≤ maxLen) :
    Calls Try.prog 3 #[.slice A0 xs.length c0, .slice A1 ys.length c1] w fun e w' => e = .returned (.bool true) ∧ Below w.heap.size w w' := by
  clear hw0
  clear hw1
  have hm0' : xs.length ≤ 9223372036854775807 := by simp only [maxLen] at hm0; omega
  clear hm0
  have hm1' : ys.length ≤ 9223372036854775807 := by simp only [maxLen] at hm1; omega
  clear hm1
  by_cases hl0 : (xs.length : Int) ≤ 1048576
  rotate_left
  · go_enter Try.func3, Try.ntmps3
    go_wp2_with fail
    refine (szEntryS_any A0 xs.length c0 (1048576) _ (by omega) (by omega) (by omega)).mono ?_
    rintro e w' ⟨rfl, rfl⟩
    rw [if_neg (by omega)]
    go_wp2
    go_ret
    first | exact ⟨rfl, Below.refl _ _⟩ | exact ⟨rfl, (Below.refl _ _).alloc (Nat.le_refl _) _⟩
  by_cases hl1 : (ys.length : Int) ≤ 1048576 - (xs.length : Int)
  rotate_left
  · go_enter Try.func3, Try.ntmps3
    go_wp2_with fail
    refine (szEntryS_any A0 xs.length c0 (1048576) _ (by omega) (by omega) (by omega)).mono ?_
    rintro e w' ⟨rfl, rfl⟩
    rw [if_pos (by omega)]
    go_wp2_with fail
    refine (szEntryS_any A1 ys.length c1 (1048576 - (xs.length : Int)) _ (by omega) (by omega) (by omega)).mono ?_
    rintro e w' ⟨rfl, rfl⟩
    rw [if_neg (by omega)]
    go_wp2
    go_ret
    first | exact ⟨rfl, Below.refl _ _⟩ | exact ⟨rfl, (Below.refl _ _).alloc (Nat.le_refl _) _⟩
  have hk0 : xs.length ≤ 1048576 := by omega
  have hk1 : ys.length ≤ 1048576 := by omega
  have hy0 : (joinL xs ys).length ≤ 32 := joinL_len xs ys
  go_enter Try.func3, Try.ntmps3
  go_wp2_with fail
  refine (szEntryS_any A0 xs.length c0 (1048576) _ (by omega) (by omega) (by omega)).mono ?_
  rintro e w' ⟨rfl, rfl⟩
  rw [if_pos (by omega)]
  go_wp2_with fail
  refine (szEntryS_any A1 ys.length c1 (1048576 - (xs.length : Int)) _ (by omega) (by omega) (by omega)).mono ?_
  rintro e w' ⟨rfl, rfl⟩
  rw [if_pos (by omega)]
  have hB := Below.refl w.heap.size w
  go_wp2_with fail
  refine (toEntryS_any A0 c0 xs w hk0 (h0.new hB)).mono ?_
  rintro e w1 ⟨B1, d1, rfl, o1, t1⟩
  have HL1 := hide (own_rng o1)
  have s1 := t1.size
  replace hB := bthen hB t1
  go_wp2_with fail
  refine (toEntryS_any A1 c1 ys w1 hk1 (h1.new hB)).mono ?_
  rintro e w2 ⟨B2, d2, rfl, o2, t2⟩
  have HL2 := hide (own_rng o2)
  have s2 := t2.size
  replace hB := bthen hB t2
  replace o1 := own_new o1 t2
  go_wp2_with fail
  refine (joinDiffs_spec B1 B2 d1 d2 xs ys w2 (own_rd o1) (own_rd o2) (by omega) (by omega)).mono ?_
  rintro e w3 ⟨B3, d3, rfl, o3, t3⟩
  have HL3 := hide (own_rng o3)
  have s3 := t3.size
  replace hB := bthen hB t3
  replace o1 := own_new o1 t3
  replace o2 := own_new o2 t3
  go_wp2_with fail
  refine (toEntryS_any A0 c0 xs w3 hk0 (h0.new hB)).mono ?_
  rintro e w4 ⟨B4, d4, rfl, o4, t4⟩
  have HL4 := hide (own_rng o4)
  have s4 := t4.size
  replace hB := bthen hB t4
  replace o1 := own_new o1 t4
  replace o2 := own_new o2 t4
  replace o3 := own_new o3 t4
  go_wp2_with fail
  refine (toEntryS_any A1 c1 ys w4 hk1 (h1.new hB)).mono ?_
  rintro e w5 ⟨B5, d5, rfl, o5, t5⟩
  have HL5 := hide (own_rng o5)
  have s5 := t5.size
  replace hB := bthen hB t5
  replace o1 := own_new o1 t5
  replace o2 := own_new o2 t5
  replace o3 := own_new o3 t5
  replace o4 := own_new o4 t5
  go_wp2_with fail
  refine (joinDiffs_impl B4 B5 d4 d5 xs ys w5 (own_rd o4) (own_rd o5) (by omega) (by omega)).mono ?_
  rintro e w6 ⟨B6, d6, rfl, o6, t6⟩
  have HL6 := hide (own_rng o6)
  have s6 := t6.size
  replace hB := bthen hB t6
  replace o1 := own_new o1 t6
  replace o2 := own_new o2 t6
  replace o3 := own_new o3 t6
  replace o4 := own_new o4 t6
  replace o5 := own_new o5 t6
  go_wp2_with fail
  refine (eqEntryS_any B6 B3 d6 d3 _ _ w6 (own_rd o6) (own_rd o3) (by omega)).mono ?_
  rintro e w7 ⟨rfl, t7⟩
  have s7 := t7.size
  replace hB := bthen hB t7
  replace o1 := own_new o1 t7
  replace o2 := own_new o2 t7
  replace o3 := own_new o3 t7
  replace o4 := own_new o4 t7
  replace o5 := own_new o5 t7
  replace o6 := own_new o6 t7
  go_wp2_with fail
  refine (toEntryS_any A0 c0 xs w7 hk0 (h0.new hB)).mono ?_
  rintro e w8 ⟨B8, d8, rfl, o8, t8⟩
  have HL8 := hide (own_rng o8)
  have s8 := t8.size
  replace hB := bthen hB t8
  replace o1 := own_new o1 t8
  replace o2 := own_new o2 t8
  replace o3 := own_new o3 t8
  replace o4 := own_new o4 t8
  replace o5 := own_new o5 t8
  replace o6 := own_new o6 t8
  go_wp2_with fail
  refine (eqEntryS_any B4 B8 d4 d8 _ _ w8 (own_rd o4) (own_rd o8) (by omega)).mono ?_
  rintro e w9 ⟨rfl, t9⟩
  have s9 := t9.size
  replace hB := bthen hB t9
  replace o1 := own_new o1 t9
  replace o2 := own_new o2 t9
  replace o3 := own_new o3 t9
  replace o4 := own_new o4 t9
  replace o5 := own_new o5 t9
  replace o6 := own_new o6 t9
  replace o8 := own_new o8 t9
  go_wp2_with fail
  refine (toEntryS_any A1 c1 ys w9 hk1 (h1.new hB)).mono ?_
  rintro e w10 ⟨B10, d10, rfl, o10, t10⟩
  have HL10 := hide (own_rng o10)
  have s10 := t10.size
  replace hB := bthen hB t10
  replace o1 := own_new o1 t10
  replace o2 := own_new o2 t10
  replace o3 := own_new o3 t10
  replace o4 := own_new o4 t10
  replace o5 := own_new o5 t10
  replace o6 := own_new o6 t10
  go_wp2_with fail
  refine (eqEntryS_any B5 B10 d5 d10 _ _ w10 (own_rd o5) (own_rd o10) (by omega)).mono ?_
  rintro e w11 ⟨rfl, t11⟩
  have s11 := t11.size
  replace hB := bthen hB t11
  replace o1 := own_new o1 t11
  replace o2 := own_new o2 t11
  replace o3 := own_new o3 t11
  replace o4 := own_new o4 t11
  replace o5 := own_new o5 t11
  replace o6 := own_new o6 t11
  replace o10 := own_new o10 t11
  go_wp2_with fail
  refine (markEntryS_any B4 d4 _ (1) _ w11 o4 (by omega) (by omega) (by omega)).mono ?_
  rintro e w12 ⟨rfl, x12, ch12⟩
  have s12 := ch12.size
  replace hB := hB.trans (ch12.below (fun g hg hA => by have := unhide HL4 g hA; omega) (by omega))
  replace o3 := own_chg o3 ch12 (fun g hA hS => by have h1 := unhide HL3 g hA; have h2 := unhide HL4 g hS; omega)
  replace o5 := own_chg o5 ch12 (fun g hA hS => by have h1 := unhide HL5 g hA; have h2 := unhide HL4 g hS; omega)
  replace o6 := own_chg o6 ch12 (fun g hA hS => by have h1 := unhide HL6 g hA; have h2 := unhide HL4 g hS; omega)
  replace o4 := x12
  go_wp2_with fail
  refine (markEntryS_any B5 d5 _ (1 + (xs).length * 2) _ w12 o5 (by omega) (by omega) (by omega)).mono ?_
  rintro e w13 ⟨rfl, x13, ch13⟩
  have s13 := ch13.size
  replace hB := hB.trans (ch13.below (fun g hg hA => by have := unhide HL5 g hA; omega) (by omega))
  replace o3 := own_chg o3 ch13 (fun g hA hS => by have h1 := unhide HL3 g hA; have h2 := unhide HL5 g hS; omega)
  replace o4 := own_chg o4 ch13 (fun g hA hS => by have h1 := unhide HL4 g hA; have h2 := unhide HL5 g hS; omega)
  replace o6 := own_chg o6 ch13 (fun g hA hS => by have h1 := unhide HL6 g hA; have h2 := unhide HL5 g hS; omega)
  replace o5 := x13
  go_wp2_with fail
  refine (eqEntryS_any B6 B3 d6 d3 _ _ w13 (own_rd o6) (own_rd o3) (by omega)).mono ?_
  rintro e w14 ⟨rfl, t14⟩
  have s14 := t14.size
  replace hB := bthen hB t14
  replace o3 := own_new o3 t14
  replace o6 := own_new o6 t14
  go_wp2_with fail
  refine (markEntryS_any B6 d6 _ (1) _ w14 o6 (by omega) (by omega) (by omega)).mono ?_
  rintro e w15 ⟨rfl, x15, ch15⟩
  have s15 := ch15.size
  replace hB := hB.trans (ch15.below (fun g hg hA => by have := unhide HL6 g hA; omega) (by omega))
  replace o3 := own_chg o3 ch15 (fun g hA hS => by have h1 := unhide HL3 g hA; have h2 := unhide HL6 g hS; omega)
  replace o6 := x15
  go_wp2_with fail
  refine (heldEntryS_any B6 d6 (joinL xs ys).length (1) w15 (own_rd o6) (by omega) (by omega) (by omega)).mono ?_
  rintro e w' ⟨rfl, rfl⟩
  go_wp2_with fail
  refine (toEntryS_any A0 c0 xs w15 hk0 (h0.new hB)).mono ?_
  rintro e w16 ⟨B16, d16, rfl, o16, t16⟩
  have HL16 := hide (own_rng o16)
  have s16 := t16.size
  replace hB := bthen hB t16
  replace o3 := own_new o3 t16
  replace o6 := own_new o6 t16
  go_wp2_with fail
  refine (toEntryS_any A1 c1 ys w16 hk1 (h1.new hB)).mono ?_
  rintro e w17 ⟨B17, d17, rfl, o17, t17⟩
  have HL17 := hide (own_rng o17)
  have s17 := t17.size
  replace hB := bthen hB t17
  replace o3 := own_new o3 t17
  replace o6 := own_new o6 t17
  replace o16 := own_new o16 t17
  go_wp2_with fail
  refine (joinDiffs_impl B16 B17 d16 d17 xs ys w17 (own_rd o16) (own_rd o17) (by omega) (by omega)).mono ?_
  rintro e w18 ⟨B18, d18, rfl, o18, t18⟩
  have HL18 := hide (own_rng o18)
  have s18 := t18.size
  replace hB := bthen hB t18
  replace o3 := own_new o3 t18
  replace o6 := own_new o6 t18
  replace o16 := own_new o16 t18
  replace o17 := own_new o17 t18
  go_wp2_with fail
  refine (eqEntryS_any B18 B3 d18 d3 _ _ w18 (own_rd o18) (own_rd o3) (by omega)).mono ?_
  rintro e w19 ⟨rfl, t19⟩
  have s19 := t19.size
  replace hB := bthen hB t19
  replace o3 := own_new o3 t19
  replace o6 := own_new o6 t19
  replace o16 := own_new o16 t19
  replace o17 := own_new o17 t19
  replace o18 := own_new o18 t19
  go_wp2_with fail
  refine (heldEntryS_any B6 d6 (joinL xs ys).length (1) w19 (own_rd o6) (by omega) (by omega) (by omega)).mono ?_
  rintro e w' ⟨rfl, rfl⟩
  go_wp2
  go_ret
  exact ⟨rfl, hB⟩
set_option maxRecDepth 100000 in
set_option maxHeartbeats 4000000 in
theorem law_FnExactDiffStores (A0 : Option Addr) (c0 : Nat) (xs : List Ent) (A1 : Option Addr) (c1 : Nat) (ys : List Ent) (w : World) (h0 : Rd w A0 (xs.flatMap encE)) (hw0 : ∀ n ∈ xs, n.wf) (hm0 : xs.length ≤ maxLen) (h1 : Rd w A1 (ys.flatMap encE)) (hw1 : ∀ n ∈ ys, n.wf) (hm1 : ys.length ≤ maxLen) :
    Calls Try.prog 4 #[.slice A0 xs.length c0, .slice A1 ys.length c1] w fun e w' => e = .returned (.bool true) ∧ Below w.heap.size w w' := by
  clear hw0
  clear hw1
  have hm0' : xs.length ≤ 9223372036854775807 := by simp only [maxLen] at hm0; omega
  clear hm0
  have hm1' : ys.length ≤ 9223372036854775807 := by simp only [maxLen] at hm1; omega
  clear hm1
  by_cases hl0 : (xs.length : Int) ≤ 1048576
  rotate_left
  · go_enter Try.func4, Try.ntmps4
    go_wp2_with fail
    refine (szEntryS_any A0 xs.length c0 (1048576) _ (by omega) (by omega) (by omega)).mono ?_
    rintro e w' ⟨rfl, rfl⟩
    rw [if_neg (by omega)]
    go_wp2
    go_ret
    first | exact ⟨rfl, Below.refl _ _⟩ | exact ⟨rfl, (Below.refl _ _).alloc (Nat.le_refl _) _⟩
  by_cases hl1 : (ys.length : Int) ≤ 1048576 - (xs.length : Int)
  rotate_left
  · go_enter Try.func4, Try.ntmps4
    go_wp2_with fail
    refine (szEntryS_any A0 xs.length c0 (1048576) _ (by omega) (by omega) (by omega)).mono ?_
    rintro e w' ⟨rfl, rfl⟩
    rw [if_pos (by omega)]
    go_wp2_with fail
    refine (szEntryS_any A1 ys.length c1 (1048576 - (xs.length : Int)) _ (by omega) (by omega) (by omega)).mono ?_
    rintro e w' ⟨rfl, rfl⟩
    rw [if_neg (by omega)]
    go_wp2
    go_ret
    first | exact ⟨rfl, Below.refl _ _⟩ | exact ⟨rfl, (Below.refl _ _).alloc (Nat.le_refl _) _⟩
  have hk0 : xs.length ≤ 1048576 := by omega
  have hk1 : ys.length ≤ 1048576 := by omega
  have hy0 : (diffL xs ys).length ≤ 32 := diffL_len xs ys
  go_enter Try.func4, Try.ntmps4
  go_wp2_with fail
  refine (szEntryS_any A0 xs.length c0 (1048576) _ (by omega) (by omega) (by omega)).mono ?_
  rintro e w' ⟨rfl, rfl⟩
  rw [if_pos (by omega)]
  go_wp2_with fail
  refine (szEntryS_any A1 ys.length c1 (1048576 - (xs.length : Int)) _ (by omega) (by omega) (by omega)).mono ?_
  rintro e w' ⟨rfl, rfl⟩
  rw [if_pos (by omega)]
  have hB := Below.refl w.heap.size w
  go_wp2_with fail
  refine (toEntryS_any A0 c0 xs w hk0 (h0.new hB)).mono ?_
  rintro e w1 ⟨B1, d1, rfl, o1, t1⟩
  have HL1 := hide (own_rng o1)
  have s1 := t1.size
  replace hB := bthen hB t1
  go_wp2_with fail
  refine (toEntryS_any A1 c1 ys w1 hk1 (h1.new hB)).mono ?_
  rintro e w2 ⟨B2, d2, rfl, o2, t2⟩
  have HL2 := hide (own_rng o2)
  have s2 := t2.size
  replace hB := bthen hB t2
  replace o1 := own_new o1 t2
  go_wp2_with fail
  refine (diffStores_spec B1 B2 d1 d2 xs ys w2 (own_rd o1) (own_rd o2) (by omega) (by omega)).mono ?_
  rintro e w3 ⟨B3, d3, rfl, o3, t3⟩
  have HL3 := hide (own_rng o3)
  have s3 := t3.size
  replace hB := bthen hB t3
  replace o1 := own_new o1 t3
  replace o2 := own_new o2 t3
  go_wp2_with fail
  refine (toEntryS_any A0 c0 xs w3 hk0 (h0.new hB)).mono ?_
  rintro e w4 ⟨B4, d4, rfl, o4, t4⟩
  have HL4 := hide (own_rng o4)
  have s4 := t4.size
  replace hB := bthen hB t4
  replace o1 := own_new o1 t4
  replace o2 := own_new o2 t4
  replace o3 := own_new o3 t4
  go_wp2_with fail
  refine (toEntryS_any A1 c1 ys w4 hk1 (h1.new hB)).mono ?_
  rintro e w5 ⟨B5, d5, rfl, o5, t5⟩
  have HL5 := hide (own_rng o5)
  have s5 := t5.size
  replace hB := bthen hB t5
  replace o1 := own_new o1 t5
  replace o2 := own_new o2 t5
  replace o3 := own_new o3 t5
  replace o4 := own_new o4 t5
  go_wp2_with fail
  refine (diffStores_impl B4 B5 d4 d5 xs ys w5 (own_rd o4) (own_rd o5) (by omega) (by omega)).mono ?_
  rintro e w6 ⟨B6, d6, rfl, o6, t6⟩
  have HL6 := hide (own_rng o6)
  have s6 := t6.size
  replace hB := bthen hB t6
  replace o1 := own_new o1 t6
  replace o2 := own_new o2 t6
  replace o3 := own_new o3 t6
  replace o4 := own_new o4 t6
  replace o5 := own_new o5 t6
  go_wp2_with fail
  refine (eqEntryS_any B6 B3 d6 d3 _ _ w6 (own_rd o6) (own_rd o3) (by omega)).mono ?_
  rintro e w7 ⟨rfl, t7⟩
  have s7 := t7.size
  replace hB := bthen hB t7
  replace o1 := own_new o1 t7
  replace o2 := own_new o2 t7
  replace o3 := own_new o3 t7
  replace o4 := own_new o4 t7
  replace o5 := own_new o5 t7
  replace o6 := own_new o6 t7
  go_wp2_with fail
  refine (toEntryS_any A0 c0 xs w7 hk0 (h0.new hB)).mono ?_
  rintro e w8 ⟨B8, d8, rfl, o8, t8⟩
  have HL8 := hide (own_rng o8)
  have s8 := t8.size
  replace hB := bthen hB t8
  replace o1 := own_new o1 t8
  replace o2 := own_new o2 t8
  replace o3 := own_new o3 t8
  replace o4 := own_new o4 t8
  replace o5 := own_new o5 t8
  replace o6 := own_new o6 t8
  go_wp2_with fail
  refine (eqEntryS_any B4 B8 d4 d8 _ _ w8 (own_rd o4) (own_rd o8) (by omega)).mono ?_
  rintro e w9 ⟨rfl, t9⟩
  have s9 := t9.size
  replace hB := bthen hB t9
  replace o1 := own_new o1 t9
  replace o2 := own_new o2 t9
  replace o3 := own_new o3 t9
  replace o4 := own_new o4 t9
  replace o5 := own_new o5 t9
  replace o6 := own_new o6 t9
  replace o8 := own_new o8 t9
  go_wp2_with fail
  refine (toEntryS_any A1 c1 ys w9 hk1 (h1.new hB)).mono ?_
  rintro e w10 ⟨B10, d10, rfl, o10, t10⟩
  have HL10 := hide (own_rng o10)
  have s10 := t10.size
  replace hB := bthen hB t10
  replace o1 := own_new o1 t10
  replace o2 := own_new o2 t10
  replace o3 := own_new o3 t10
  replace o4 := own_new o4 t10
  replace o5 := own_new o5 t10
  replace o6 := own_new o6 t10
  go_wp2_with fail
  refine (eqEntryS_any B5 B10 d5 d10 _ _ w10 (own_rd o5) (own_rd o10) (by omega)).mono ?_
  rintro e w11 ⟨rfl, t11⟩
  have s11 := t11.size
  replace hB := bthen hB t11
  replace o1 := own_new o1 t11
  replace o2 := own_new o2 t11
  replace o3 := own_new o3 t11
  replace o4 := own_new o4 t11
  replace o5 := own_new o5 t11
  replace o6 := own_new o6 t11
  replace o10 := own_new o10 t11
  go_wp2_with fail
  refine (markEntryS_any B4 d4 _ (1) _ w11 o4 (by omega) (by omega) (by omega)).mono ?_
  rintro e w12 ⟨rfl, x12, ch12⟩
  have s12 := ch12.size
  replace hB := hB.trans (ch12.below (fun g hg hA => by have := unhide HL4 g hA; omega) (by omega))
  replace o3 := own_chg o3 ch12 (fun g hA hS => by have h1 := unhide HL3 g hA; have h2 := unhide HL4 g hS; omega)
  replace o5 := own_chg o5 ch12 (fun g hA hS => by have h1 := unhide HL5 g hA; have h2 := unhide HL4 g hS; omega)
  replace o6 := own_chg o6 ch12 (fun g hA hS => by have h1 := unhide HL6 g hA; have h2 := unhide HL4 g hS; omega)
  replace o4 := x12
  go_wp2_with fail
  refine (markEntryS_any B5 d5 _ (1 + (xs).length * 2) _ w12 o5 (by omega) (by omega) (by omega)).mono ?_
  rintro e w13 ⟨rfl, x13, ch13⟩
  have s13 := ch13.size
  replace hB := hB.trans (ch13.below (fun g hg hA => by have := unhide HL5 g hA; omega) (by omega))
  replace o3 := own_chg o3 ch13 (fun g hA hS => by have h1 := unhide HL3 g hA; have h2 := unhide HL5 g hS; omega)
  replace o4 := own_chg o4 ch13 (fun g hA hS => by have h1 := unhide HL4 g hA; have h2 := unhide HL5 g hS; omega)
  replace o6 := own_chg o6 ch13 (fun g hA hS => by have h1 := unhide HL6 g hA; have h2 := unhide HL5 g hS; omega)
  replace o5 := x13
  go_wp2_with fail
  refine (eqEntryS_any B6 B3 d6 d3 _ _ w13 (own_rd o6) (own_rd o3) (by omega)).mono ?_
  rintro e w14 ⟨rfl, t14⟩
  have s14 := t14.size
  replace hB := bthen hB t14
  replace o3 := own_new o3 t14
  replace o6 := own_new o6 t14
  go_wp2_with fail
  refine (markEntryS_any B6 d6 _ (1) _ w14 o6 (by omega) (by omega) (by omega)).mono ?_
  rintro e w15 ⟨rfl, x15, ch15⟩
  have s15 := ch15.size
  replace hB := hB.trans (ch15.below (fun g hg hA => by have := unhide HL6 g hA; omega) (by omega))
  replace o3 := own_chg o3 ch15 (fun g hA hS => by have h1 := unhide HL3 g hA; have h2 := unhide HL6 g hS; omega)
  replace o6 := x15
  go_wp2_with fail
  refine (heldEntryS_any B6 d6 (diffL xs ys).length (1) w15 (own_rd o6) (by omega) (by omega) (by omega)).mono ?_
  rintro e w' ⟨rfl, rfl⟩
  go_wp2_with fail
  refine (toEntryS_any A0 c0 xs w15 hk0 (h0.new hB)).mono ?_
  rintro e w16 ⟨B16, d16, rfl, o16, t16⟩
  have HL16 := hide (own_rng o16)
  have s16 := t16.size
  replace hB := bthen hB t16
  replace o3 := own_new o3 t16
  replace o6 := own_new o6 t16
  go_wp2_with fail
  refine (toEntryS_any A1 c1 ys w16 hk1 (h1.new hB)).mono ?_
  rintro e w17 ⟨B17, d17, rfl, o17, t17⟩
  have HL17 := hide (own_rng o17)
  have s17 := t17.size
  replace hB := bthen hB t17
  replace o3 := own_new o3 t17
  replace o6 := own_new o6 t17
  replace o16 := own_new o16 t17
  go_wp2_with fail
  refine (diffStores_impl B16 B17 d16 d17 xs ys w17 (own_rd o16) (own_rd o17) (by omega) (by omega)).mono ?_
  rintro e w18 ⟨B18, d18, rfl, o18, t18⟩
  have HL18 := hide (own_rng o18)
  have s18 := t18.size
  replace hB := bthen hB t18
  replace o3 := own_new o3 t18
  replace o6 := own_new o6 t18
  replace o16 := own_new o16 t18
  replace o17 := own_new o17 t18
  go_wp2_with fail
  refine (eqEntryS_any B18 B3 d18 d3 _ _ w18 (own_rd o18) (own_rd o3) (by omega)).mono ?_
  rintro e w19 ⟨rfl, t19⟩
  have s19 := t19.size
  replace hB := bthen hB t19
  replace o3 := own_new o3 t19
  replace o6 := own_new o6 t19
  replace o16 := own_new o16 t19
  replace o17 := own_new o17 t19
  replace o18 := own_new o18 t19
  go_wp2_with fail
  refine (heldEntryS_any B6 d6 (diffL xs ys).length (1) w19 (own_rd o6) (by omega) (by omega) (by omega)).mono ?_
  rintro e w' ⟨rfl, rfl⟩
  go_wp2
  go_ret
  exact ⟨rfl, hB⟩
set_option maxRecDepth 100000 in
set_option maxHeartbeats 4000000 in
theorem law_FnExactApplyDiff (A0 : Option Addr) (c0 : Nat) (xs : List Ent) (A1 : Option Addr) (c1 : Nat) (ys : List Ent) (w : World) (h0 : Rd w A0 (xs.flatMap encE)) (hw0 : ∀ n ∈ xs, n.wf) (hm0 : xs.length ≤ maxLen) (h1 : Rd w A1 (ys.flatMap encE)) (hw1 : ∀ n ∈ ys, n.wf) (hm1 : ys.length ≤ maxLen) :
    Calls Try.prog 5 #[.slice A0 xs.length c0, .slice A1 ys.length c1] w fun e w' => e = .returned (.bool true) ∧ Below w.heap.size w w' := by
  clear hw0
  clear hw1
  have hm0' : xs.length ≤ 9223372036854775807 := by simp only [maxLen] at hm0; omega
  clear hm0
  have hm1' : ys.length ≤ 9223372036854775807 := by simp only [maxLen] at hm1; omega
  clear hm1
  by_cases hl0 : (xs.length : Int) ≤ 1048576
  rotate_left
  · go_enter Try.func5, Try.ntmps5
    go_wp2_with fail
    refine (szEntryS_any A0 xs.length c0 (1048576) _ (by omega) (by omega) (by omega)).mono ?_
    rintro e w' ⟨rfl, rfl⟩
    rw [if_neg (by omega)]
    go_wp2
    go_ret
    first | exact ⟨rfl, Below.refl _ _⟩ | exact ⟨rfl, (Below.refl _ _).alloc (Nat.le_refl _) _⟩
  by_cases hl1 : (ys.length : Int) ≤ 1048576 - (xs.length : Int)
  rotate_left
  · go_enter Try.func5, Try.ntmps5
    go_wp2_with fail
    refine (szEntryS_any A0 xs.length c0 (1048576) _ (by omega) (by omega) (by omega)).mono ?_
    rintro e w' ⟨rfl, rfl⟩
    rw [if_pos (by omega)]
    go_wp2_with fail
    refine (szEntryS_any A1 ys.length c1 (1048576 - (xs.length : Int)) _ (by omega) (by omega) (by omega)).mono ?_
    rintro e w' ⟨rfl, rfl⟩
    rw [if_neg (by omega)]
    go_wp2
    go_ret
    first | exact ⟨rfl, Below.refl _ _⟩ | exact ⟨rfl, (Below.refl _ _).alloc (Nat.le_refl _) _⟩
  have hk0 : xs.length ≤ 1048576 := by omega
  have hk1 : ys.length ≤ 1048576 := by omega
  have hy0 : (applyL xs ys).length ≤ 32 := applyL_len xs ys
  go_enter Try.func5, Try.ntmps5
  go_wp2_with fail
  refine (szEntryS_any A0 xs.length c0 (1048576) _ (by omega) (by omega) (by omega)).mono ?_
  rintro e w' ⟨rfl, rfl⟩
  rw [if_pos (by omega)]
  go_wp2_with fail
  refine (szEntryS_any A1 ys.length c1 (1048576 - (xs.length : Int)) _ (by omega) (by omega) (by omega)).mono ?_
  rintro e w' ⟨rfl, rfl⟩
  rw [if_pos (by omega)]
  have hB := Below.refl w.heap.size w
  go_wp2_with fail
  refine (toEntryS_any A0 c0 xs w hk0 (h0.new hB)).mono ?_
  rintro e w1 ⟨B1, d1, rfl, o1, t1⟩
  have HL1 := hide (own_rng o1)
  have s1 := t1.size
  replace hB := bthen hB t1
  go_wp2_with fail
  refine (toEntryS_any A1 c1 ys w1 hk1 (h1.new hB)).mono ?_
  rintro e w2 ⟨B2, d2, rfl, o2, t2⟩
  have HL2 := hide (own_rng o2)
  have s2 := t2.size
  replace hB := bthen hB t2
  replace o1 := own_new o1 t2
  go_wp2_with fail
  refine (applyDiff_spec B1 B2 d1 d2 xs ys w2 (own_rd o1) (own_rd o2) (by omega) (by omega)).mono ?_
  rintro e w3 ⟨B3, d3, rfl, o3, t3⟩
  have HL3 := hide (own_rng o3)
  have s3 := t3.size
  replace hB := bthen hB t3
  replace o1 := own_new o1 t3
  replace o2 := own_new o2 t3
  go_wp2_with fail
  refine (toEntryS_any A0 c0 xs w3 hk0 (h0.new hB)).mono ?_
  rintro e w4 ⟨B4, d4, rfl, o4, t4⟩
  have HL4 := hide (own_rng o4)
  have s4 := t4.size
  replace hB := bthen hB t4
  replace o1 := own_new o1 t4
  replace o2 := own_new o2 t4
  replace o3 := own_new o3 t4
  go_wp2_with fail
  refine (toEntryS_any A1 c1 ys w4 hk1 (h1.new hB)).mono ?_
  rintro e w5 ⟨B5, d5, rfl, o5, t5⟩
  have HL5 := hide (own_rng o5)
  have s5 := t5.size
  replace hB := bthen hB t5
  replace o1 := own_new o1 t5
  replace o2 := own_new o2 t5
  replace o3 := own_new o3 t5
  replace o4 := own_new o4 t5
  go_wp2_with fail
  refine (applyDiff_impl B4 B5 d4 d5 xs ys w5 (own_rd o4) (own_rd o5) (by omega) (by omega)).mono ?_
  rintro e w6 ⟨B6, d6, rfl, o6, t6⟩
  have HL6 := hide (own_rng o6)
  have s6 := t6.size
  replace hB := bthen hB t6
  replace o1 := own_new o1 t6
  replace o2 := own_new o2 t6
  replace o3 := own_new o3 t6
  replace o4 := own_new o4 t6
  replace o5 := own_new o5 t6
  go_wp2_with fail
  refine (eqEntryS_any B6 B3 d6 d3 _ _ w6 (own_rd o6) (own_rd o3) (by omega)).mono ?_
  rintro e w7 ⟨rfl, t7⟩
  have s7 := t7.size
  replace hB := bthen hB t7
  replace o1 := own_new o1 t7
  replace o2 := own_new o2 t7
  replace o3 := own_new o3 t7
  replace o4 := own_new o4 t7
  replace o5 := own_new o5 t7
  replace o6 := own_new o6 t7
  go_wp2_with fail
  refine (toEntryS_any A0 c0 xs w7 hk0 (h0.new hB)).mono ?_
  rintro e w8 ⟨B8, d8, rfl, o8, t8⟩
  have HL8 := hide (own_rng o8)
  have s8 := t8.size
  replace hB := bthen hB t8
  replace o1 := own_new o1 t8
  replace o2 := own_new o2 t8
  replace o3 := own_new o3 t8
  replace o4 := own_new o4 t8
  replace o5 := own_new o5 t8
  replace o6 := own_new o6 t8
  go_wp2_with fail
  refine (eqEntryS_any B4 B8 d4 d8 _ _ w8 (own_rd o4) (own_rd o8) (by omega)).mono ?_
  rintro e w9 ⟨rfl, t9⟩
  have s9 := t9.size
  replace hB := bthen hB t9
  replace o1 := own_new o1 t9
  replace o2 := own_new o2 t9
  replace o3 := own_new o3 t9
  replace o4 := own_new o4 t9
  replace o5 := own_new o5 t9
  replace o6 := own_new o6 t9
  replace o8 := own_new o8 t9
  go_wp2_with fail
  refine (toEntryS_any A1 c1 ys w9 hk1 (h1.new hB)).mono ?_
  rintro e w10 ⟨B10, d10, rfl, o10, t10⟩
  have HL10 := hide (own_rng o10)
  have s10 := t10.size
  replace hB := bthen hB t10
  replace o1 := own_new o1 t10
  replace o2 := own_new o2 t10
  replace o3 := own_new o3 t10
  replace o4 := own_new o4 t10
  replace o5 := own_new o5 t10
  replace o6 := own_new o6 t10
  go_wp2_with fail
  refine (eqEntryS_any B5 B10 d5 d10 _ _ w10 (own_rd o5) (own_rd o10) (by omega)).mono ?_
  rintro e w11 ⟨rfl, t11⟩
  have s11 := t11.size
  replace hB := bthen hB t11
  replace o1 := own_new o1 t11
  replace o2 := own_new o2 t11
  replace o3 := own_new o3 t11
  replace o4 := own_new o4 t11
  replace o5 := own_new o5 t11
  replace o6 := own_new o6 t11
  replace o10 := own_new o10 t11
  go_wp2_with fail
  refine (markEntryS_any B4 d4 _ (1) _ w11 o4 (by omega) (by omega) (by omega)).mono ?_
  rintro e w12 ⟨rfl, x12, ch12⟩
  have s12 := ch12.size
  replace hB := hB.trans (ch12.below (fun g hg hA => by have := unhide HL4 g hA; omega) (by omega))
  replace o3 := own_chg o3 ch12 (fun g hA hS => by have h1 := unhide HL3 g hA; have h2 := unhide HL4 g hS; omega)
  replace o5 := own_chg o5 ch12 (fun g hA hS => by have h1 := unhide HL5 g hA; have h2 := unhide HL4 g hS; omega)
  replace o6 := own_chg o6 ch12 (fun g hA hS => by have h1 := unhide HL6 g hA; have h2 := unhide HL4 g hS; omega)
  replace o4 := x12
  go_wp2_with fail
  refine (markEntryS_any B5 d5 _ (1 + (xs).length * 2) _ w12 o5 (by omega) (by omega) (by omega)).mono ?_
  rintro e w13 ⟨rfl, x13, ch13⟩
  have s13 := ch13.size
  replace hB := hB.trans (ch13.below (fun g hg hA => by have := unhide HL5 g hA; omega) (by omega))
  replace o3 := own_chg o3 ch13 (fun g hA hS => by have h1 := unhide HL3 g hA; have h2 := unhide HL5 g hS; omega)
  replace o4 := own_chg o4 ch13 (fun g hA hS => by have h1 := unhide HL4 g hA; have h2 := unhide HL5 g hS; omega)
  replace o6 := own_chg o6 ch13 (fun g hA hS => by have h1 := unhide HL6 g hA; have h2 := unhide HL5 g hS; omega)
  replace o5 := x13
  go_wp2_with fail
  refine (eqEntryS_any B6 B3 d6 d3 _ _ w13 (own_rd o6) (own_rd o3) (by omega)).mono ?_
  rintro e w14 ⟨rfl, t14⟩
  have s14 := t14.size
  replace hB := bthen hB t14
  replace o3 := own_new o3 t14
  replace o6 := own_new o6 t14
  go_wp2_with fail
  refine (markEntryS_any B6 d6 _ (1) _ w14 o6 (by omega) (by omega) (by omega)).mono ?_
  rintro e w15 ⟨rfl, x15, ch15⟩
  have s15 := ch15.size
  replace hB := hB.trans (ch15.below (fun g hg hA => by have := unhide HL6 g hA; omega) (by omega))
  replace o3 := own_chg o3 ch15 (fun g hA hS => by have h1 := unhide HL3 g hA; have h2 := unhide HL6 g hS; omega)
  replace o6 := x15
  go_wp2_with fail
  refine (heldEntryS_any B6 d6 (applyL xs ys).length (1) w15 (own_rd o6) (by omega) (by omega) (by omega)).mono ?_
  rintro e w' ⟨rfl, rfl⟩
  go_wp2_with fail
  refine (toEntryS_any A0 c0 xs w15 hk0 (h0.new hB)).mono ?_
  rintro e w16 ⟨B16, d16, rfl, o16, t16⟩
  have HL16 := hide (own_rng o16)
  have s16 := t16.size
  replace hB := bthen hB t16
  replace o3 := own_new o3 t16
  replace o6 := own_new o6 t16
  go_wp2_with fail
  refine (toEntryS_any A1 c1 ys w16 hk1 (h1.new hB)).mono ?_
  rintro e w17 ⟨B17, d17, rfl, o17, t17⟩
  have HL17 := hide (own_rng o17)
  have s17 := t17.size
  replace hB := bthen hB t17
  replace o3 := own_new o3 t17
  replace o6 := own_new o6 t17
  replace o16 := own_new o16 t17
  go_wp2_with fail
  refine (applyDiff_impl B16 B17 d16 d17 xs ys w17 (own_rd o16) (own_rd o17) (by omega) (by omega)).mono ?_
  rintro e w18 ⟨B18, d18, rfl, o18, t18⟩
  have HL18 := hide (own_rng o18)
  have s18 := t18.size
  replace hB := bthen hB t18
  replace o3 := own_new o3 t18
  replace o6 := own_new o6 t18
  replace o16 := own_new o16 t18
  replace o17 := own_new o17 t18
  go_wp2_with fail
  refine (eqEntryS_any B18 B3 d18 d3 _ _ w18 (own_rd o18) (own_rd o3) (by omega)).mono ?_
  rintro e w19 ⟨rfl, t19⟩
  have s19 := t19.size
  replace hB := bthen hB t19
  replace o3 := own_new o3 t19
  replace o6 := own_new o6 t19
  replace o16 := own_new o16 t19
  replace o17 := own_new o17 t19
  replace o18 := own_new o18 t19
  go_wp2_with fail
  refine (heldEntryS_any B6 d6 (applyL xs ys).length (1) w19 (own_rd o6) (by omega) (by omega) (by omega)).mono ?_
  rintro e w' ⟨rfl, rfl⟩
  go_wp2
  go_ret
  exact ⟨rfl, hB⟩
end Go.Proofs.Ytpfdhbomcoafdaa
