/- The law FnExactRunAhead: walk printed by gen_exact.py. -/
import Derived.Test.YtihlhejencninaaGreatAheadS
import Derived.Test.YtihlhejencninaaGreatGint
import Derived.Test.YtihlhejencninaaGreatGact
import Derived.Test.YtihlhejencninaaGreatHeldE
import Derived.Test.YtihlhejencninaaGreatGeff
import Derived.Test.YtihlhejencninaaGreatOpenEntry
import Derived.Test.YtihlhejencninaaGreatOpenAction
namespace Go.Proofs.YtihlhejencninaaGreat
open Go.RowKit
set_option linter.unusedVariables false
set_option linter.unusedSimpArgs false

theorem aheadS_len (s : List Ent) (al : List Act) (ms : List Int) : (aheadS s al ms).length ≤ 32 := by
  unfold aheadS
  split
  · exact serialS_len _ _
  · simp
theorem aheadE_len (s : List Ent) (al : List Act) (ms : List Int) : (aheadE s al ms).length ≤ 10 := by
  unfold aheadE
  split
  · exact serialE_len _ _
  · simp
theorem aheadE_small (s : List Ent) (al : List Act) (ms : List Int) : ∀ x ∈ aheadE s al ms, x.reads.length ≤ 2 ∧ x.writes.length ≤ 2 := by
  unfold aheadE
  split
  · exact serialE_small _ _
  · intro x hx; cases hx
theorem effTot_small : ∀ (xs : List Eff), (∀ x ∈ xs, x.reads.length ≤ 2 ∧ x.writes.length ≤ 2) → effTot xs ≤ 4 * xs.length
  | [], _ => by simp [effTot]
  | x :: xs, h => by
    have h1 := h x (by simp)
    have h2 := effTot_small xs fun y hy => h y (by simp [hy])
    rw [effTot, List.length_cons]
    omega
theorem aheadE_tot (s : List Ent) (al : List Act) (ms : List Int) : effTot (aheadE s al ms) ≤ 40 := by
  have h1 := effTot_small _ (aheadE_small s al ms)
  have h2 := aheadE_len s al ms
  omega
set_option maxRecDepth 100000 in
set_option maxHeartbeats 8000000 in
theorem law_FnExactRunAhead (A0 : Option Addr) (c0 : Nat) (xs : List Ent) (A1 : Option Addr) (c1 : Nat) (ys : List Act) (A2 : Option Addr) (c2 : Nat) (zs : List Int) (w : World) (h0 : Rd w A0 (xs.flatMap encE)) (hw0 : ∀ n ∈ xs, n.wf) (hm0 : xs.length ≤ maxLen) (h1 : Rd w A1 (ys.flatMap encA)) (hw1 : ∀ n ∈ ys, n.wf) (hm1 : ys.length ≤ maxLen) (h2 : Rd w A2 (zs.map (.int .i64))) (hw2 : ∀ n ∈ zs, -9223372036854775808 ≤ n ∧ n ≤ 9223372036854775807) (hm2 : zs.length ≤ maxLen) :
    Calls Tryz.prog 7 #[.slice A0 xs.length c0, .slice A1 ys.length c1, .slice A2 zs.length c2] w fun e w' => e = .returned (.bool true) ∧ Below w.heap.size w w' := by
  clear hw0
  clear hw1
  clear hw2
  have hm0' : xs.length ≤ 9223372036854775807 := by simp only [maxLen] at hm0; omega
  clear hm0
  have hm1' : ys.length ≤ 9223372036854775807 := by simp only [maxLen] at hm1; omega
  clear hm1
  have hm2' : zs.length ≤ 9223372036854775807 := by simp only [maxLen] at hm2; omega
  clear hm2
  by_cases hl2 : (1048576 : Int) < (zs.length : Int)
  · go_enter Tryz.func7, Tryz.ntmps7
    go_wp2
    go_ret
    first | exact ⟨rfl, Below.refl _ _⟩ | exact ⟨rfl, (Below.refl _ _).alloc (Nat.le_refl _) _⟩
  replace hl2 : zs.length ≤ 1048576 := by omega
  by_cases hl0 : (xs.length : Int) ≤ 1048576
  rotate_left
  · go_enter Tryz.func7, Tryz.ntmps7
    go_wp2_with fail
    refine (szEntryS_any A0 xs.length c0 (1048576) _ (by omega) (by omega) (by omega)).mono ?_
    rintro e w' ⟨rfl, rfl⟩
    rw [if_neg (by omega)]
    go_wp2
    go_ret
    first | exact ⟨rfl, Below.refl _ _⟩ | exact ⟨rfl, (Below.refl _ _).alloc (Nat.le_refl _) _⟩
  by_cases hl1 : (ys.length : Int) ≤ 1048576 - (xs.length : Int)
  rotate_left
  · go_enter Tryz.func7, Tryz.ntmps7
    go_wp2_with fail
    refine (szEntryS_any A0 xs.length c0 (1048576) _ (by omega) (by omega) (by omega)).mono ?_
    rintro e w' ⟨rfl, rfl⟩
    rw [if_pos (by omega)]
    go_wp2_with fail
    refine (szActionS_any A1 ys.length c1 (1048576 - (xs.length : Int)) _ (by omega) (by omega) (by omega)).mono ?_
    rintro e w' ⟨rfl, rfl⟩
    rw [if_neg (by omega)]
    go_wp2
    go_ret
    first | exact ⟨rfl, Below.refl _ _⟩ | exact ⟨rfl, (Below.refl _ _).alloc (Nat.le_refl _) _⟩
  have hk0 : xs.length ≤ 1048576 := by omega
  have hk1 : ys.length ≤ 1048576 := by omega
  have hes := aheadE_small xs ys zs
  have htot := aheadE_tot xs ys zs
  have hy0 : (aheadS xs ys zs).length ≤ 32 := aheadS_len xs ys zs
  have hy1 : (aheadE xs ys zs).length ≤ 10 := aheadE_len xs ys zs
  go_enter Tryz.func7, Tryz.ntmps7
  go_wp2_with fail
  refine (szEntryS_any A0 xs.length c0 (1048576) _ (by omega) (by omega) (by omega)).mono ?_
  rintro e w' ⟨rfl, rfl⟩
  rw [if_pos (by omega)]
  go_wp2_with fail
  refine (szActionS_any A1 ys.length c1 (1048576 - (xs.length : Int)) _ (by omega) (by omega) (by omega)).mono ?_
  rintro e w' ⟨rfl, rfl⟩
  rw [if_pos (by omega)]
  have hB := Below.refl w.heap.size w
  go_wp2_with fail
  refine (toEntryS_any A0 c0 xs w hk0 (h0.new hB)).mono ?_
  rintro e w1 ⟨B1, d1, rfl, o1, t1⟩
  have HL1 := hide (own_rng o1)
  have s1 := t1.size
  replace hB := bthen hB t1
  go_wp2_with fail
  refine (toActionS_any A1 c1 ys w1 hk1 (h1.new hB)).mono ?_
  rintro e w2 ⟨B2, d2, rfl, o2, t2⟩
  have HL2 := hide (own_rng o2)
  have s2 := t2.size
  replace hB := bthen hB t2
  replace o1 := own_new o1 t2
  go_wp2_with fail
  refine (toIntS_any A2 c2 zs w2 hl2 (h2.new hB)).mono ?_
  rintro e w3 ⟨B3, d3, rfl, o3, t3⟩
  have HL3 := hide (own_rng o3)
  have s3 := t3.size
  replace hB := bthen hB t3
  replace o1 := own_new o1 t3
  replace o2 := own_new o2 t3
  go_wp2_with fail
  refine (runAhead_spec B1 d1 xs B2 d2 ys B3 d3 zs w3 (own_rd o1) (by omega) (own_rd o2) (by omega) (own_rd o3) (by omega)).mono ?_
  rintro e w4 ⟨B4, d4, B4b, d4b, rfl, q4, q4b, t4⟩
  have HS4 := hide (fun (w' : World) (hb : Below w4.heap.size w4 w') => (Rd.new q4 hb : Rd w' B4 ((aheadS xs ys zs).flatMap encE)))
  have HS4b := hide (fun (w' : World) (hb : Below w4.heap.size w4 w') => q4b.new eff_good hb)
  clear q4 q4b
  have s4 := t4.size
  replace hB := bthen hB t4
  replace o1 := own_new o1 t4
  replace o2 := own_new o2 t4
  replace o3 := own_new o3 t4
  have hV := Below.refl w4.heap.size w4
  obtain ⟨vsz, hvs⟩ : ∃ z, z = w4.heap.size := ⟨_, rfl⟩
  go_wp2_with fail
  refine (toEntryS_any A0 c0 xs w4 hk0 (h0.new hB)).mono ?_
  rintro e w5 ⟨B5, d5, rfl, o5, t5⟩
  have HL5 := hide (own_rng o5)
  have s5 := t5.size
  replace hB := bthen hB t5
  replace hV := bthen hV t5
  replace o1 := own_new o1 t5
  replace o2 := own_new o2 t5
  replace o3 := own_new o3 t5
  go_wp2_with fail
  refine (toActionS_any A1 c1 ys w5 hk1 (h1.new hB)).mono ?_
  rintro e w6 ⟨B6, d6, rfl, o6, t6⟩
  have HL6 := hide (own_rng o6)
  have s6 := t6.size
  replace hB := bthen hB t6
  replace hV := bthen hV t6
  replace o1 := own_new o1 t6
  replace o2 := own_new o2 t6
  replace o3 := own_new o3 t6
  replace o5 := own_new o5 t6
  go_wp2_with fail
  refine (toIntS_any A2 c2 zs w6 hl2 (h2.new hB)).mono ?_
  rintro e w7 ⟨B7, d7, rfl, o7, t7⟩
  have HL7 := hide (own_rng o7)
  have s7 := t7.size
  replace hB := bthen hB t7
  replace hV := bthen hV t7
  replace o1 := own_new o1 t7
  replace o2 := own_new o2 t7
  replace o3 := own_new o3 t7
  replace o5 := own_new o5 t7
  replace o6 := own_new o6 t7
  go_wp2_with fail
  refine (runAhead_impl B5 d5 xs B6 d6 ys B7 d7 zs w7 (own_rd o5) (by omega) (own_rd o6) (by omega) (own_rd o7) (by omega)).mono ?_
  rintro e w8 ⟨B8, d8, B8b, d8b, fp8b, rfl, o8, o8b, ge8, ap8, t8⟩
  have HL8 := hide (own_rng o8)
  have HL8b := hide (fun g (hg : g ∈ fp8b) => (⟨ge8 g hg, o8b.lt effO_good g hg⟩ : _ ∧ _))
  have AP8 := hide ap8
  clear ge8 ap8
  have s8 := t8.size
  replace hB := bthen hB t8
  replace hV := bthen hV t8
  replace o1 := own_new o1 t8
  replace o2 := own_new o2 t8
  replace o3 := own_new o3 t8
  replace o5 := own_new o5 t8
  replace o6 := own_new o6 t8
  replace o7 := own_new o7 t8
  go_wp2_with fail
  refine (eqEntryS_any B8 B4 d8 d4 _ _ w8 (own_rd o8) (unhide HS4 w8 hV) (by omega)).mono ?_
  rintro e w9 ⟨rfl, t9⟩
  have s9 := t9.size
  replace hB := bthen hB t9
  replace hV := bthen hV t9
  replace o1 := own_new o1 t9
  replace o2 := own_new o2 t9
  replace o3 := own_new o3 t9
  replace o5 := own_new o5 t9
  replace o6 := own_new o6 t9
  replace o7 := own_new o7 t9
  replace o8 := own_new o8 t9
  replace o8b := o8b.new effO_good t9
  go_wp2_with fail
  refine (eqEffectS_any B8b B4b d8b d4b _ _ w9 _ _ (o8b.rd effO_good eff_good (P := fun _ => True) (fun _ _ => trivial)) (unhide HS4b w9 hV) (by omega) (fun x hx => by have := hes x hx; omega)).mono ?_
  rintro e w10 ⟨rfl, t10⟩
  have s10 := t10.size
  replace hB := bthen hB t10
  replace hV := bthen hV t10
  replace o1 := own_new o1 t10
  replace o2 := own_new o2 t10
  replace o3 := own_new o3 t10
  replace o5 := own_new o5 t10
  replace o6 := own_new o6 t10
  replace o7 := own_new o7 t10
  replace o8 := own_new o8 t10
  replace o8b := o8b.new effO_good t10
  go_wp2_with fail
  refine (toEntryS_any A0 c0 xs w10 hk0 (h0.new hB)).mono ?_
  rintro e w11 ⟨B11, d11, rfl, o11, t11⟩
  have HL11 := hide (own_rng o11)
  have s11 := t11.size
  replace hB := bthen hB t11
  replace hV := bthen hV t11
  replace o1 := own_new o1 t11
  replace o2 := own_new o2 t11
  replace o3 := own_new o3 t11
  replace o5 := own_new o5 t11
  replace o6 := own_new o6 t11
  replace o7 := own_new o7 t11
  replace o8 := own_new o8 t11
  replace o8b := o8b.new effO_good t11
  go_wp2_with fail
  refine (eqEntryS_any B5 B11 d5 d11 _ _ w11 (own_rd o5) (own_rd o11) (by omega)).mono ?_
  rintro e w12 ⟨rfl, t12⟩
  have s12 := t12.size
  replace hB := bthen hB t12
  replace hV := bthen hV t12
  replace o1 := own_new o1 t12
  replace o2 := own_new o2 t12
  replace o3 := own_new o3 t12
  replace o5 := own_new o5 t12
  replace o6 := own_new o6 t12
  replace o7 := own_new o7 t12
  replace o8 := own_new o8 t12
  replace o8b := o8b.new effO_good t12
  replace o11 := own_new o11 t12
  go_wp2_with fail
  refine (toActionS_any A1 c1 ys w12 hk1 (h1.new hB)).mono ?_
  rintro e w13 ⟨B13, d13, rfl, o13, t13⟩
  have HL13 := hide (own_rng o13)
  have s13 := t13.size
  replace hB := bthen hB t13
  replace hV := bthen hV t13
  replace o1 := own_new o1 t13
  replace o2 := own_new o2 t13
  replace o3 := own_new o3 t13
  replace o5 := own_new o5 t13
  replace o6 := own_new o6 t13
  replace o7 := own_new o7 t13
  replace o8 := own_new o8 t13
  replace o8b := o8b.new effO_good t13
  go_wp2_with fail
  refine (eqActionS_any B6 B13 d6 d13 _ _ w13 (own_rd o6) (own_rd o13) (by omega)).mono ?_
  rintro e w14 ⟨rfl, t14⟩
  have s14 := t14.size
  replace hB := bthen hB t14
  replace hV := bthen hV t14
  replace o1 := own_new o1 t14
  replace o2 := own_new o2 t14
  replace o3 := own_new o3 t14
  replace o5 := own_new o5 t14
  replace o6 := own_new o6 t14
  replace o7 := own_new o7 t14
  replace o8 := own_new o8 t14
  replace o8b := o8b.new effO_good t14
  replace o13 := own_new o13 t14
  go_wp2_with fail
  refine (toIntS_any A2 c2 zs w14 hl2 (h2.new hB)).mono ?_
  rintro e w15 ⟨B15, d15, rfl, o15, t15⟩
  have HL15 := hide (own_rng o15)
  have s15 := t15.size
  replace hB := bthen hB t15
  replace hV := bthen hV t15
  replace o1 := own_new o1 t15
  replace o2 := own_new o2 t15
  replace o3 := own_new o3 t15
  replace o5 := own_new o5 t15
  replace o6 := own_new o6 t15
  replace o7 := own_new o7 t15
  replace o8 := own_new o8 t15
  replace o8b := o8b.new effO_good t15
  go_wp2_with fail
  refine (eqIntS_any B7 B15 d7 d15 _ _ w15 (own_rd o7) (own_rd o15) (by omega)).mono ?_
  rintro e w' ⟨rfl, m, rfl⟩
  have s16 : w15.heap.size ≤ (w15.drewN m).heap.size := Nat.le_refl _
  replace hB := below_drewN hB m
  replace hV := below_drewN hV m
  replace o1 := own_drewN o1 m
  replace o2 := own_drewN o2 m
  replace o3 := own_drewN o3 m
  replace o5 := own_drewN o5 m
  replace o6 := own_drewN o6 m
  replace o7 := own_drewN o7 m
  replace o8 := own_drewN o8 m
  replace o8b := o8b.keep effO_good (w' := w15.drewN m) (fun _ _ _ => rfl)
  replace o15 := own_drewN o15 m
  generalize w15.drewN m = w16 at *
  go_wp2_with fail
  refine (markEntryS_any B5 d5 _ (1) _ w16 o5 (by omega) (by omega) (by omega)).mono ?_
  rintro e w17 ⟨rfl, x17, ch17⟩
  have s17 := ch17.size
  replace hB := hB.trans (ch17.below (fun g hg hA => by have := unhide HL5 g hA; omega) (by omega))
  replace hV := hV.trans (ch17.below (fun g hg hA => by have := unhide HL5 g hA; omega) (by omega))
  replace o6 := own_chg o6 ch17 (fun g hA hS => by have h1 := unhide HL6 g hA; have h2 := unhide HL5 g hS; omega)
  replace o7 := own_chg o7 ch17 (fun g hA hS => by have h1 := unhide HL7 g hA; have h2 := unhide HL5 g hS; omega)
  replace o8 := own_chg o8 ch17 (fun g hA hS => by have h1 := unhide HL8 g hA; have h2 := unhide HL5 g hS; omega)
  replace o8b := o8b.keep effO_good (fun g hA hgw => ch17.block g hgw (fun hS => by have h1 := unhide HL8b g hA; have h2 := unhide HL5 g hS; omega))
  replace o5 := x17
  go_wp2_with fail
  refine (markActionS_any B6 d6 _ (1 + (xs).length * 2) _ w17 o6 (by omega) (by omega) (by omega)).mono ?_
  rintro e w18 ⟨rfl, x18, ch18⟩
  have s18 := ch18.size
  replace hB := hB.trans (ch18.below (fun g hg hA => by have := unhide HL6 g hA; omega) (by omega))
  replace hV := hV.trans (ch18.below (fun g hg hA => by have := unhide HL6 g hA; omega) (by omega))
  replace o5 := own_chg o5 ch18 (fun g hA hS => by have h1 := unhide HL5 g hA; have h2 := unhide HL6 g hS; omega)
  replace o7 := own_chg o7 ch18 (fun g hA hS => by have h1 := unhide HL7 g hA; have h2 := unhide HL6 g hS; omega)
  replace o8 := own_chg o8 ch18 (fun g hA hS => by have h1 := unhide HL8 g hA; have h2 := unhide HL6 g hS; omega)
  replace o8b := o8b.keep effO_good (fun g hA hgw => ch18.block g hgw (fun hS => by have h1 := unhide HL8b g hA; have h2 := unhide HL6 g hS; omega))
  replace o6 := x18
  go_wp2_with fail
  refine (markIntS_any B7 d7 _ (1 + (xs).length * 2 + (ys).length * 4) _ w18 o7 (by omega) (by omega) (by omega)).mono ?_
  rintro e w19 ⟨rfl, x19, ch19⟩
  have s19 := ch19.size
  replace hB := hB.trans (ch19.below (fun g hg hA => by have := unhide HL7 g hA; omega) (by omega))
  replace hV := hV.trans (ch19.below (fun g hg hA => by have := unhide HL7 g hA; omega) (by omega))
  replace o5 := own_chg o5 ch19 (fun g hA hS => by have h1 := unhide HL5 g hA; have h2 := unhide HL7 g hS; omega)
  replace o6 := own_chg o6 ch19 (fun g hA hS => by have h1 := unhide HL6 g hA; have h2 := unhide HL7 g hS; omega)
  replace o8 := own_chg o8 ch19 (fun g hA hS => by have h1 := unhide HL8 g hA; have h2 := unhide HL7 g hS; omega)
  replace o8b := o8b.keep effO_good (fun g hA hgw => ch19.block g hgw (fun hS => by have h1 := unhide HL8b g hA; have h2 := unhide HL7 g hS; omega))
  replace o7 := x19
  go_wp2_with fail
  refine (eqEntryS_any B8 B4 d8 d4 _ _ w19 (own_rd o8) (unhide HS4 w19 hV) (by omega)).mono ?_
  rintro e w20 ⟨rfl, t20⟩
  have s20 := t20.size
  replace hB := bthen hB t20
  replace hV := bthen hV t20
  replace o8 := own_new o8 t20
  replace o8b := o8b.new effO_good t20
  go_wp2_with fail
  refine (eqEffectS_any B8b B4b d8b d4b _ _ w20 _ _ (o8b.rd effO_good eff_good (P := fun _ => True) (fun _ _ => trivial)) (unhide HS4b w20 hV) (by omega) (fun x hx => by have := hes x hx; omega)).mono ?_
  rintro e w21 ⟨rfl, t21⟩
  have s21 := t21.size
  replace hB := bthen hB t21
  replace hV := bthen hV t21
  replace o8 := own_new o8 t21
  replace o8b := o8b.new effO_good t21
  go_wp2_with fail
  refine (markEntryS_any B8 d8 _ (1) _ w21 o8 (by omega) (by omega) (by omega)).mono ?_
  rintro e w22 ⟨rfl, x22, ch22⟩
  have s22 := ch22.size
  replace hB := hB.trans (ch22.below (fun g hg hA => by have := unhide HL8 g hA; omega) (by omega))
  replace hV := hV.trans (ch22.below (fun g hg hA => by have := unhide HL8 g hA; omega) (by omega))
  replace o8b := o8b.keep effO_good (fun g hA hgw => ch22.block g hgw (fun hS => unhide AP8 g hS hA))
  replace o8 := x22
  go_wp2_with fail
  refine (markEffectS_any B8b d8b (1 + (aheadS xs ys zs).length * 2) _ fp8b w22 o8b (by omega) (by rw [markEnd_eq]; omega)).mono ?_
  rintro e w23 ⟨rfl, x23, ch23⟩
  rw [markEnd_eq]
  have s23 := ch23.size
  replace hB := hB.trans (ch23.below (fun g hg hA => by have := unhide HL8b g hA; omega) (by omega))
  replace hV := hV.trans (ch23.below (fun g hg hA => by have := unhide HL8b g hA; omega) (by omega))
  replace o8 := own_chg o8 ch23 (fun g hA hS => unhide AP8 g hA hS)
  replace o8b := x23
  have hnk23 : ¬ (1 + (aheadS xs ys zs).length * 2 + (((aheadE xs ys zs).length + 2 * effTot (aheadE xs ys zs) : Nat) : Int)) < 0 := by omega
  go_wp2_with fail
  refine (heldEntryS_any B8 d8 (aheadS xs ys zs).length (1) w23 (own_rd o8) (by omega) (by omega) (by omega)).mono ?_
  rintro e w' ⟨rfl, rfl⟩
  go_wp2_with fail
  refine (heldEffectS_any B8b d8b (1 + (aheadS xs ys zs).length * 2) _ _ w23 (o8b.rd effO_good eff_good (P := fun _ => True) (fun _ _ => trivial)) (by omega) (by rw [markEnd_eq]; omega)).mono ?_
  rintro e w' ⟨rfl, rfl⟩
  rw [markEnd_eq]
  go_wp2_with fail
  refine (toEntryS_any A0 c0 xs w23 hk0 (h0.new hB)).mono ?_
  rintro e w24 ⟨B24, d24, rfl, o24, t24⟩
  have HL24 := hide (own_rng o24)
  have s24 := t24.size
  replace hB := bthen hB t24
  replace hV := bthen hV t24
  replace o8 := own_new o8 t24
  replace o8b := o8b.new effO_good t24
  go_wp2_with fail
  refine (toActionS_any A1 c1 ys w24 hk1 (h1.new hB)).mono ?_
  rintro e w25 ⟨B25, d25, rfl, o25, t25⟩
  have HL25 := hide (own_rng o25)
  have s25 := t25.size
  replace hB := bthen hB t25
  replace hV := bthen hV t25
  replace o8 := own_new o8 t25
  replace o8b := o8b.new effO_good t25
  replace o24 := own_new o24 t25
  go_wp2_with fail
  refine (toIntS_any A2 c2 zs w25 hl2 (h2.new hB)).mono ?_
  rintro e w26 ⟨B26, d26, rfl, o26, t26⟩
  have HL26 := hide (own_rng o26)
  have s26 := t26.size
  replace hB := bthen hB t26
  replace hV := bthen hV t26
  replace o8 := own_new o8 t26
  replace o8b := o8b.new effO_good t26
  replace o24 := own_new o24 t26
  replace o25 := own_new o25 t26
  go_wp2_with fail
  refine (runAhead_impl B24 d24 xs B25 d25 ys B26 d26 zs w26 (own_rd o24) (by omega) (own_rd o25) (by omega) (own_rd o26) (by omega)).mono ?_
  rintro e w27 ⟨B27, d27, B27b, d27b, fp27b, rfl, o27, o27b, ge27, ap27, t27⟩
  have HL27 := hide (own_rng o27)
  have HL27b := hide (fun g (hg : g ∈ fp27b) => (⟨ge27 g hg, o27b.lt effO_good g hg⟩ : _ ∧ _))
  have AP27 := hide ap27
  clear ge27 ap27
  have s27 := t27.size
  replace hB := bthen hB t27
  replace hV := bthen hV t27
  replace o8 := own_new o8 t27
  replace o8b := o8b.new effO_good t27
  replace o24 := own_new o24 t27
  replace o25 := own_new o25 t27
  replace o26 := own_new o26 t27
  go_wp2_with fail
  refine (eqEntryS_any B27 B4 d27 d4 _ _ w27 (own_rd o27) (unhide HS4 w27 hV) (by omega)).mono ?_
  rintro e w28 ⟨rfl, t28⟩
  have s28 := t28.size
  replace hB := bthen hB t28
  replace hV := bthen hV t28
  replace o8 := own_new o8 t28
  replace o8b := o8b.new effO_good t28
  replace o24 := own_new o24 t28
  replace o25 := own_new o25 t28
  replace o26 := own_new o26 t28
  replace o27 := own_new o27 t28
  replace o27b := o27b.new effO_good t28
  go_wp2_with fail
  refine (eqEffectS_any B27b B4b d27b d4b _ _ w28 _ _ (o27b.rd effO_good eff_good (P := fun _ => True) (fun _ _ => trivial)) (unhide HS4b w28 hV) (by omega) (fun x hx => by have := hes x hx; omega)).mono ?_
  rintro e w29 ⟨rfl, t29⟩
  have s29 := t29.size
  replace hB := bthen hB t29
  replace hV := bthen hV t29
  replace o8 := own_new o8 t29
  replace o8b := o8b.new effO_good t29
  replace o24 := own_new o24 t29
  replace o25 := own_new o25 t29
  replace o26 := own_new o26 t29
  replace o27 := own_new o27 t29
  replace o27b := o27b.new effO_good t29
  go_wp2_with fail
  refine (heldEntryS_any B8 d8 (aheadS xs ys zs).length (1) w29 (own_rd o8) (by omega) (by omega) (by omega)).mono ?_
  rintro e w' ⟨rfl, rfl⟩
  go_wp2_with fail
  refine (heldEffectS_any B8b d8b (1 + (aheadS xs ys zs).length * 2) _ _ w29 (o8b.rd effO_good eff_good (P := fun _ => True) (fun _ _ => trivial)) (by omega) (by rw [markEnd_eq]; omega)).mono ?_
  rintro e w' ⟨rfl, rfl⟩
  rw [markEnd_eq]
  go_wp2
  go_ret
  exact ⟨rfl, hB⟩
end Go.Proofs.YtihlhejencninaaGreat
