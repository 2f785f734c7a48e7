/- The laws FnExactRightReads, FnExactEffectsStore: walks printed by gen_exact.py. -/
import Derived.Test.YtiaodcjocogkkaaEffD
import Derived.Test.YtiaodcjocogkkaaEffM
import Derived.Test.YtiaodcjocogkkaaFlatEntry
import Derived.Test.YtiaodcjocogkkaaOpenEntry
namespace Go.Proofs.Ytiaodcjocogkkaa
open Go.RowKit
set_option linter.unusedVariables false
set_option linter.unusedSimpArgs false

set_option maxRecDepth 100000 in
set_option maxHeartbeats 4000000 in
theorem law_FnExactRightReads (A0 : Option Addr) (c0 : Nat) (xs : List Ent) (A1 : Option Addr) (c1 : Nat) (ys : List Eff) (w : World) (h0 : Rd w A0 (xs.flatMap encE)) (hw0 : ∀ n ∈ xs, n.wf) (hm0 : xs.length ≤ maxLen) (h1 : RdD effR (fun _ => True) w A1 ys) (hm1 : ys.length ≤ maxLen) :
    Calls Try.prog 3 #[.slice A0 xs.length c0, .slice A1 ys.length c1] w fun e w' => e = .returned (.bool true) ∧ Below w.heap.size w w' := by
  clear hw0
  have hm0' : xs.length ≤ 9223372036854775807 := by simp only [maxLen] at hm0; omega
  clear hm0
  have hm1' : ys.length ≤ 9223372036854775807 := by simp only [maxLen] at hm1; omega
  clear hm1
  by_cases hl0 : (xs.length : Int) ≤ 1048576
  rotate_left
  · go_enter Try.func3, Try.ntmps3
    have hB := Below.refl w.heap.size w
    go_wp2_with fail
    refine (szEntryS_any A0 xs.length c0 (1048576) _ (by omega) (by omega) (by omega)).mono ?_
    rintro e w' ⟨rfl, rfl⟩
    rw [if_neg (by omega)]
    go_wp2
    go_ret
    exact ⟨rfl, hB⟩
  by_cases hl1 : ((ys.length + effTot ys : Nat) : Int) ≤ 1048576 - (xs.length : Int)
  rotate_left
  · go_enter Try.func3, Try.ntmps3
    have hB := Below.refl w.heap.size w
    go_wp2_with fail
    refine (szEntryS_any A0 xs.length c0 (1048576) _ (by omega) (by omega) (by omega)).mono ?_
    rintro e w' ⟨rfl, rfl⟩
    rw [if_pos (by omega)]
    go_wp2_with fail
    refine (szEffectS_any A1 c1 ys (1048576 - (xs.length : Int)) _ _ (h1.new eff_good hB) (by omega) (by omega) (by omega)).mono ?_
    rintro e wz1 ⟨rfl, bz1⟩
    have sz1 := bz1.size
    replace hB := bthen hB bz1
    rw [szL_no (by omega)]
    go_wp2
    go_ret
    exact ⟨rfl, hB⟩
  have hk0 : xs.length ≤ 1048576 := by omega
  have hk1 : ys.length ≤ 1048576 := by omega
  have hbs1 : ∀ x ∈ ys, x.reads.length ≤ 1048576 ∧ x.writes.length ≤ 1048576 := fun x hx => by have := effTot_mem hx; omega
  go_enter Try.func3, Try.ntmps3
  have hB := Below.refl w.heap.size w
  go_wp2_with fail
  refine (szEntryS_any A0 xs.length c0 (1048576) _ (by omega) (by omega) (by omega)).mono ?_
  rintro e w' ⟨rfl, rfl⟩
  rw [if_pos (by omega)]
  go_wp2_with fail
  refine (szEffectS_any A1 c1 ys (1048576 - (xs.length : Int)) _ _ (h1.new eff_good hB) (by omega) (by omega) (by omega)).mono ?_
  rintro e wz1 ⟨rfl, bz1⟩
  have sz1 := bz1.size
  replace hB := bthen hB bz1
  rw [szL_yes (by omega)]
  have hng1 : ¬ (1048576 - (xs.length : Int) - ((ys.length + effTot ys : Nat) : Int)) < 0 := by omega
  go_wp2_with fail
  refine (toEntryS_any A0 c0 xs wz1 hk0 (h0.new hB)).mono ?_
  rintro e w1 ⟨B1, d1, rfl, o1, t1⟩
  have HL1 := hide (own_rng o1)
  have s1 := t1.size
  replace hB := bthen hB t1
  go_wp2_with fail
  refine (toEffectS_any A1 c1 ys w1 hk1 _ (h1.new eff_good hB) hbs1).mono ?_
  rintro e w2 ⟨B2, d2, fp2, rfl, o2, ge2, t2⟩
  have HL2 := hide (fun g (hg : g ∈ fp2) => (⟨ge2 g hg, o2.lt effO_good g hg⟩ : _ ∧ _))
  clear ge2
  have s2 := t2.size
  replace hB := bthen hB t2
  replace o1 := own_new o1 t2
  go_wp2_with fail
  refine (rightReads_spec B1 d1 xs B2 d2 ys _ w2 (own_rd o1) (by omega) (o2.rd effO_good eff_good (P := fun _ => True) (fun _ _ => trivial)) (by omega) hbs1).mono ?_
  rintro e w3 ⟨rfl, t3⟩
  have s3 := t3.size
  replace hB := bthen hB t3
  replace o1 := own_new o1 t3
  replace o2 := o2.new effO_good t3
  go_wp2_with fail
  refine (toEntryS_any A0 c0 xs w3 hk0 (h0.new hB)).mono ?_
  rintro e w4 ⟨B4, d4, rfl, o4, t4⟩
  have HL4 := hide (own_rng o4)
  have s4 := t4.size
  replace hB := bthen hB t4
  replace o1 := own_new o1 t4
  replace o2 := o2.new effO_good t4
  go_wp2_with fail
  refine (toEffectS_any A1 c1 ys w4 hk1 _ (h1.new eff_good hB) hbs1).mono ?_
  rintro e w5 ⟨B5, d5, fp5, rfl, o5, ge5, t5⟩
  have HL5 := hide (fun g (hg : g ∈ fp5) => (⟨ge5 g hg, o5.lt effO_good g hg⟩ : _ ∧ _))
  clear ge5
  have s5 := t5.size
  replace hB := bthen hB t5
  replace o1 := own_new o1 t5
  replace o2 := o2.new effO_good t5
  replace o4 := own_new o4 t5
  go_wp2_with fail
  refine (rightReads_impl B4 d4 xs B5 d5 ys _ w5 (own_rd o4) (by omega) (o5.rd effO_good eff_good (P := fun _ => True) (fun _ _ => trivial)) (by omega) hbs1).mono ?_
  rintro e w6 ⟨rfl, t6⟩
  have s6 := t6.size
  replace hB := bthen hB t6
  replace o1 := own_new o1 t6
  replace o2 := o2.new effO_good t6
  replace o4 := own_new o4 t6
  replace o5 := o5.new effO_good t6
  go_wp2_with fail
  refine (toEntryS_any A0 c0 xs w6 hk0 (h0.new hB)).mono ?_
  rintro e w7 ⟨B7, d7, rfl, o7, t7⟩
  have HL7 := hide (own_rng o7)
  have s7 := t7.size
  replace hB := bthen hB t7
  replace o1 := own_new o1 t7
  replace o2 := o2.new effO_good t7
  replace o4 := own_new o4 t7
  replace o5 := o5.new effO_good t7
  go_wp2_with fail
  refine (eqEntryS_any B4 B7 d4 d7 _ _ w7 (own_rd o4) (own_rd o7) (by omega)).mono ?_
  rintro e w8 ⟨rfl, t8⟩
  have s8 := t8.size
  replace hB := bthen hB t8
  replace o1 := own_new o1 t8
  replace o2 := o2.new effO_good t8
  replace o4 := own_new o4 t8
  replace o5 := o5.new effO_good t8
  replace o7 := own_new o7 t8
  go_wp2_with fail
  refine (toEffectS_any A1 c1 ys w8 hk1 _ (h1.new eff_good hB) hbs1).mono ?_
  rintro e w9 ⟨B9, d9, fp9, rfl, o9, ge9, t9⟩
  have HL9 := hide (fun g (hg : g ∈ fp9) => (⟨ge9 g hg, o9.lt effO_good g hg⟩ : _ ∧ _))
  clear ge9
  have s9 := t9.size
  replace hB := bthen hB t9
  replace o1 := own_new o1 t9
  replace o2 := o2.new effO_good t9
  replace o4 := own_new o4 t9
  replace o5 := o5.new effO_good t9
  go_wp2_with fail
  refine (eqEffectS_any B5 B9 d5 d9 _ _ w9 _ _ (o5.rd effO_good eff_good (P := fun _ => True) (fun _ _ => trivial)) (o9.rd effO_good eff_good (P := fun _ => True) (fun _ _ => trivial)) (by omega) (fun x hx => by have := hbs1 x hx; omega)).mono ?_
  rintro e w10 ⟨rfl, t10⟩
  have s10 := t10.size
  replace hB := bthen hB t10
  replace o1 := own_new o1 t10
  replace o2 := o2.new effO_good t10
  replace o4 := own_new o4 t10
  replace o5 := o5.new effO_good t10
  replace o9 := o9.new effO_good t10
  go_wp2
  go_ret
  exact ⟨rfl, hB⟩
set_option maxRecDepth 100000 in
set_option maxHeartbeats 4000000 in
theorem law_FnExactEffectsStore (A0 : Option Addr) (c0 : Nat) (xs : List Ent) (A1 : Option Addr) (c1 : Nat) (ys : List Eff) (w : World) (h0 : Rd w A0 (xs.flatMap encE)) (hw0 : ∀ n ∈ xs, n.wf) (hm0 : xs.length ≤ maxLen) (h1 : RdD effR (fun _ => True) w A1 ys) (hm1 : ys.length ≤ maxLen) :
    Calls Try.prog 4 #[.slice A0 xs.length c0, .slice A1 ys.length c1] w fun e w' => e = .returned (.bool true) ∧ Below w.heap.size w w' := by
  clear hw0
  have hm0' : xs.length ≤ 9223372036854775807 := by simp only [maxLen] at hm0; omega
  clear hm0
  have hm1' : ys.length ≤ 9223372036854775807 := by simp only [maxLen] at hm1; omega
  clear hm1
  by_cases hl0 : (xs.length : Int) ≤ 1048576
  rotate_left
  · go_enter Try.func4, Try.ntmps4
    have hB := Below.refl w.heap.size w
    go_wp2_with fail
    refine (szEntryS_any A0 xs.length c0 (1048576) _ (by omega) (by omega) (by omega)).mono ?_
    rintro e w' ⟨rfl, rfl⟩
    rw [if_neg (by omega)]
    go_wp2
    go_ret
    exact ⟨rfl, hB⟩
  by_cases hl1 : ((ys.length + effTot ys : Nat) : Int) ≤ 1048576 - (xs.length : Int)
  rotate_left
  · go_enter Try.func4, Try.ntmps4
    have hB := Below.refl w.heap.size w
    go_wp2_with fail
    refine (szEntryS_any A0 xs.length c0 (1048576) _ (by omega) (by omega) (by omega)).mono ?_
    rintro e w' ⟨rfl, rfl⟩
    rw [if_pos (by omega)]
    go_wp2_with fail
    refine (szEffectS_any A1 c1 ys (1048576 - (xs.length : Int)) _ _ (h1.new eff_good hB) (by omega) (by omega) (by omega)).mono ?_
    rintro e wz1 ⟨rfl, bz1⟩
    have sz1 := bz1.size
    replace hB := bthen hB bz1
    rw [szL_no (by omega)]
    go_wp2
    go_ret
    exact ⟨rfl, hB⟩
  have hk0 : xs.length ≤ 1048576 := by omega
  have hk1 : ys.length ≤ 1048576 := by omega
  have hbs1 : ∀ x ∈ ys, x.reads.length ≤ 1048576 ∧ x.writes.length ≤ 1048576 := fun x hx => by have := effTot_mem hx; omega
  have hy0 : (effStore xs ys).length ≤ 32 := effStore_len xs ys
  go_enter Try.func4, Try.ntmps4
  have hB := Below.refl w.heap.size w
  go_wp2_with fail
  refine (szEntryS_any A0 xs.length c0 (1048576) _ (by omega) (by omega) (by omega)).mono ?_
  rintro e w' ⟨rfl, rfl⟩
  rw [if_pos (by omega)]
  go_wp2_with fail
  refine (szEffectS_any A1 c1 ys (1048576 - (xs.length : Int)) _ _ (h1.new eff_good hB) (by omega) (by omega) (by omega)).mono ?_
  rintro e wz1 ⟨rfl, bz1⟩
  have sz1 := bz1.size
  replace hB := bthen hB bz1
  rw [szL_yes (by omega)]
  have hng1 : ¬ (1048576 - (xs.length : Int) - ((ys.length + effTot ys : Nat) : Int)) < 0 := by omega
  go_wp2_with fail
  refine (toEntryS_any A0 c0 xs wz1 hk0 (h0.new hB)).mono ?_
  rintro e w1 ⟨B1, d1, rfl, o1, t1⟩
  have HL1 := hide (own_rng o1)
  have s1 := t1.size
  replace hB := bthen hB t1
  go_wp2_with fail
  refine (toEffectS_any A1 c1 ys w1 hk1 _ (h1.new eff_good hB) hbs1).mono ?_
  rintro e w2 ⟨B2, d2, fp2, rfl, o2, ge2, t2⟩
  have HL2 := hide (fun g (hg : g ∈ fp2) => (⟨ge2 g hg, o2.lt effO_good g hg⟩ : _ ∧ _))
  clear ge2
  have s2 := t2.size
  replace hB := bthen hB t2
  replace o1 := own_new o1 t2
  go_wp2_with fail
  refine (effectsStore_spec B1 d1 xs B2 d2 ys _ w2 (own_rd o1) (by omega) (o2.rd effO_good eff_good (P := fun _ => True) (fun _ _ => trivial)) (by omega) hbs1).mono ?_
  rintro e w3 ⟨B3, d3, rfl, o3, t3⟩
  have HL3 := hide (own_rng o3)
  have s3 := t3.size
  replace hB := bthen hB t3
  replace o1 := own_new o1 t3
  replace o2 := o2.new effO_good t3
  go_wp2_with fail
  refine (toEntryS_any A0 c0 xs w3 hk0 (h0.new hB)).mono ?_
  rintro e w4 ⟨B4, d4, rfl, o4, t4⟩
  have HL4 := hide (own_rng o4)
  have s4 := t4.size
  replace hB := bthen hB t4
  replace o1 := own_new o1 t4
  replace o2 := o2.new effO_good t4
  replace o3 := own_new o3 t4
  go_wp2_with fail
  refine (toEffectS_any A1 c1 ys w4 hk1 _ (h1.new eff_good hB) hbs1).mono ?_
  rintro e w5 ⟨B5, d5, fp5, rfl, o5, ge5, t5⟩
  have HL5 := hide (fun g (hg : g ∈ fp5) => (⟨ge5 g hg, o5.lt effO_good g hg⟩ : _ ∧ _))
  clear ge5
  have s5 := t5.size
  replace hB := bthen hB t5
  replace o1 := own_new o1 t5
  replace o2 := o2.new effO_good t5
  replace o3 := own_new o3 t5
  replace o4 := own_new o4 t5
  go_wp2_with fail
  refine (effectsStore_impl B4 d4 xs B5 d5 ys _ w5 (own_rd o4) (by omega) (o5.rd effO_good eff_good (P := fun _ => True) (fun _ _ => trivial)) (by omega) hbs1).mono ?_
  rintro e w6 ⟨B6, d6, rfl, o6, t6⟩
  have HL6 := hide (own_rng o6)
  have s6 := t6.size
  replace hB := bthen hB t6
  replace o1 := own_new o1 t6
  replace o2 := o2.new effO_good t6
  replace o3 := own_new o3 t6
  replace o4 := own_new o4 t6
  replace o5 := o5.new effO_good t6
  go_wp2_with fail
  refine (eqEntryS_any B6 B3 d6 d3 _ _ w6 (own_rd o6) (own_rd o3) (by omega)).mono ?_
  rintro e w7 ⟨rfl, t7⟩
  have s7 := t7.size
  replace hB := bthen hB t7
  replace o1 := own_new o1 t7
  replace o2 := o2.new effO_good t7
  replace o3 := own_new o3 t7
  replace o4 := own_new o4 t7
  replace o5 := o5.new effO_good t7
  replace o6 := own_new o6 t7
  go_wp2_with fail
  refine (toEntryS_any A0 c0 xs w7 hk0 (h0.new hB)).mono ?_
  rintro e w8 ⟨B8, d8, rfl, o8, t8⟩
  have HL8 := hide (own_rng o8)
  have s8 := t8.size
  replace hB := bthen hB t8
  replace o1 := own_new o1 t8
  replace o2 := o2.new effO_good t8
  replace o3 := own_new o3 t8
  replace o4 := own_new o4 t8
  replace o5 := o5.new effO_good t8
  replace o6 := own_new o6 t8
  go_wp2_with fail
  refine (eqEntryS_any B4 B8 d4 d8 _ _ w8 (own_rd o4) (own_rd o8) (by omega)).mono ?_
  rintro e w9 ⟨rfl, t9⟩
  have s9 := t9.size
  replace hB := bthen hB t9
  replace o1 := own_new o1 t9
  replace o2 := o2.new effO_good t9
  replace o3 := own_new o3 t9
  replace o4 := own_new o4 t9
  replace o5 := o5.new effO_good t9
  replace o6 := own_new o6 t9
  replace o8 := own_new o8 t9
  go_wp2_with fail
  refine (toEffectS_any A1 c1 ys w9 hk1 _ (h1.new eff_good hB) hbs1).mono ?_
  rintro e w10 ⟨B10, d10, fp10, rfl, o10, ge10, t10⟩
  have HL10 := hide (fun g (hg : g ∈ fp10) => (⟨ge10 g hg, o10.lt effO_good g hg⟩ : _ ∧ _))
  clear ge10
  have s10 := t10.size
  replace hB := bthen hB t10
  replace o1 := own_new o1 t10
  replace o2 := o2.new effO_good t10
  replace o3 := own_new o3 t10
  replace o4 := own_new o4 t10
  replace o5 := o5.new effO_good t10
  replace o6 := own_new o6 t10
  go_wp2_with fail
  refine (eqEffectS_any B5 B10 d5 d10 _ _ w10 _ _ (o5.rd effO_good eff_good (P := fun _ => True) (fun _ _ => trivial)) (o10.rd effO_good eff_good (P := fun _ => True) (fun _ _ => trivial)) (by omega) (fun x hx => by have := hbs1 x hx; omega)).mono ?_
  rintro e w11 ⟨rfl, t11⟩
  have s11 := t11.size
  replace hB := bthen hB t11
  replace o1 := own_new o1 t11
  replace o2 := o2.new effO_good t11
  replace o3 := own_new o3 t11
  replace o4 := own_new o4 t11
  replace o5 := o5.new effO_good t11
  replace o6 := own_new o6 t11
  replace o10 := o10.new effO_good t11
  go_wp2_with fail
  refine (markEntryS_any B4 d4 _ (1) _ w11 o4 (by omega) (by omega) (by omega)).mono ?_
  rintro e w12 ⟨rfl, x12, ch12⟩
  have s12 := ch12.size
  replace hB := hB.trans (ch12.below (fun g hg hA => by have := unhide HL4 g hA; omega) (by omega))
  replace o3 := own_chg o3 ch12 (fun g hA hS => by have h1 := unhide HL3 g hA; have h2 := unhide HL4 g hS; omega)
  replace o5 := o5.keep effO_good (fun g hA hgw => ch12.block g hgw (fun hS => by have h1 := unhide HL5 g hA; have h2 := unhide HL4 g hS; omega))
  replace o6 := own_chg o6 ch12 (fun g hA hS => by have h1 := unhide HL6 g hA; have h2 := unhide HL4 g hS; omega)
  replace o4 := x12
  go_wp2_with fail
  refine (markEffectS_any B5 d5 (1 + (xs).length * 2) _ fp5 w12 o5 (by omega) (by rw [markEnd_eq]; omega)).mono ?_
  rintro e w13 ⟨rfl, x13, ch13⟩
  rw [markEnd_eq]
  have s13 := ch13.size
  replace hB := hB.trans (ch13.below (fun g hg hA => by have := unhide HL5 g hA; omega) (by omega))
  replace o3 := own_chg o3 ch13 (fun g hA hS => by have h1 := unhide HL3 g hA; have h2 := unhide HL5 g hS; omega)
  replace o4 := own_chg o4 ch13 (fun g hA hS => by have h1 := unhide HL4 g hA; have h2 := unhide HL5 g hS; omega)
  replace o6 := own_chg o6 ch13 (fun g hA hS => by have h1 := unhide HL6 g hA; have h2 := unhide HL5 g hS; omega)
  replace o5 := x13
  have hnk13 : ¬ (1 + (xs).length * 2 + ((ys.length + 2 * effTot ys : Nat) : Int)) < 0 := by omega
  go_wp2_with fail
  refine (eqEntryS_any B6 B3 d6 d3 _ _ w13 (own_rd o6) (own_rd o3) (by omega)).mono ?_
  rintro e w14 ⟨rfl, t14⟩
  have s14 := t14.size
  replace hB := bthen hB t14
  replace o3 := own_new o3 t14
  replace o6 := own_new o6 t14
  go_wp2_with fail
  refine (markEntryS_any B6 d6 _ (1) _ w14 o6 (by omega) (by omega) (by omega)).mono ?_
  rintro e w15 ⟨rfl, x15, ch15⟩
  have s15 := ch15.size
  replace hB := hB.trans (ch15.below (fun g hg hA => by have := unhide HL6 g hA; omega) (by omega))
  replace o3 := own_chg o3 ch15 (fun g hA hS => by have h1 := unhide HL3 g hA; have h2 := unhide HL6 g hS; omega)
  replace o6 := x15
  go_wp2_with fail
  refine (heldEntryS_any B6 d6 (effStore xs ys).length (1) w15 (own_rd o6) (by omega) (by omega) (by omega)).mono ?_
  rintro e w' ⟨rfl, rfl⟩
  go_wp2_with fail
  refine (toEntryS_any A0 c0 xs w15 hk0 (h0.new hB)).mono ?_
  rintro e w16 ⟨B16, d16, rfl, o16, t16⟩
  have HL16 := hide (own_rng o16)
  have s16 := t16.size
  replace hB := bthen hB t16
  replace o3 := own_new o3 t16
  replace o6 := own_new o6 t16
  go_wp2_with fail
  refine (toEffectS_any A1 c1 ys w16 hk1 _ (h1.new eff_good hB) hbs1).mono ?_
  rintro e w17 ⟨B17, d17, fp17, rfl, o17, ge17, t17⟩
  have HL17 := hide (fun g (hg : g ∈ fp17) => (⟨ge17 g hg, o17.lt effO_good g hg⟩ : _ ∧ _))
  clear ge17
  have s17 := t17.size
  replace hB := bthen hB t17
  replace o3 := own_new o3 t17
  replace o6 := own_new o6 t17
  replace o16 := own_new o16 t17
  go_wp2_with fail
  refine (effectsStore_impl B16 d16 xs B17 d17 ys _ w17 (own_rd o16) (by omega) (o17.rd effO_good eff_good (P := fun _ => True) (fun _ _ => trivial)) (by omega) hbs1).mono ?_
  rintro e w18 ⟨B18, d18, rfl, o18, t18⟩
  have HL18 := hide (own_rng o18)
  have s18 := t18.size
  replace hB := bthen hB t18
  replace o3 := own_new o3 t18
  replace o6 := own_new o6 t18
  replace o16 := own_new o16 t18
  replace o17 := o17.new effO_good t18
  go_wp2_with fail
  refine (eqEntryS_any B18 B3 d18 d3 _ _ w18 (own_rd o18) (own_rd o3) (by omega)).mono ?_
  rintro e w19 ⟨rfl, t19⟩
  have s19 := t19.size
  replace hB := bthen hB t19
  replace o3 := own_new o3 t19
  replace o6 := own_new o6 t19
  replace o16 := own_new o16 t19
  replace o17 := o17.new effO_good t19
  replace o18 := own_new o18 t19
  go_wp2_with fail
  refine (heldEntryS_any B6 d6 (effStore xs ys).length (1) w19 (own_rd o6) (by omega) (by omega) (by omega)).mono ?_
  rintro e w' ⟨rfl, rfl⟩
  go_wp2
  go_ret
  exact ⟨rfl, hB⟩
end Go.Proofs.Ytiaodcjocogkkaa
