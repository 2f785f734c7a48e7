/- The law FnExactTakeNumbers: the walk is printed by gen_exact.py. -/
import Derived.Test.YthddcinpacaacaaTakeS
import Derived.Test.YthddcinpacaacaaOpenNumbered
import Derived.Deep.DeepCutAuto
import Derived.Deep.Cut
namespace Go.Proofs.Ythddcinpacaacaa
open Go.RowKit
set_option linter.unusedVariables false
set_option linter.unusedSimpArgs false

theorem own_drewN {w : World} {base : Nat} {e : TypeId} {size : Nat} {A : Option Addr} {c n : Nat} {xs : List Value} (h : w.ownsRow base e size (.slice A n c) n xs) (m : Nat) : (w.drewN m).ownsRow base e size (.slice A n c) n xs := h
theorem own_rng {w : World} {base : Nat} {e : TypeId} {size : Nat} {A : Option Addr} {c n : Nat} {xs : List Value} (h : w.ownsRow base e size (.slice A n c) n xs) : ∀ g, A = some ⟨g, 0, none⟩ → base ≤ g ∧ g < w.heap.size := fun g hg => h.lt g (by rw [hg]; rfl)
theorem tkL_len (xs : List Int) (ns : List Nbd) : (tkL xs ns).length = xs.length := by
  induction ns generalizing xs with
  | nil => rfl
  | cons m ns ih => exact (ih (takeL xs m)).trans (takeL_len xs m)
theorem tnsL_le (xs : List Int) (ns : List Nbd) (h : xs.length ≤ 1048576) : (tnsL xs ns).length ≤ 1048576 := by
  unfold tnsL
  split
  · rw [tkL_len]; exact h
  · simp
theorem tnsB_le (xs : List Int) (ns : List Nbd) : (tnsB xs ns).length ≤ 1048576 := by
  unfold tnsB
  split
  · rename_i h
    unfold tnsOk at h
    simp only [Bool.and_eq_true, decide_eq_true_eq] at h
    rw [tkB_len]; omega
  · simp
set_option maxRecDepth 100000 in
set_option maxHeartbeats 4000000 in
theorem law_FnExactTakeNumbers (A0 : Option Addr) (c0 : Nat) (xs : List Int) (A1 : Option Addr) (c1 : Nat) (ns : List Nbd) (w : World) (h0 : Rd w A0 (xs.map (.int .i64))) (hw0 : ∀ n ∈ xs, -9223372036854775808 ≤ n ∧ n ≤ 9223372036854775807) (hm0 : xs.length ≤ maxLen) (h1 : Rd w A1 (ns.flatMap encN)) (hw1 : ∀ n ∈ ns, n.wf) (hm1 : ns.length ≤ maxLen) :
    Calls Try.prog 4 #[.slice A0 xs.length c0, .slice A1 ns.length c1] w fun e w' => e = .returned (.bool true) ∧ Below w.heap.size w w' := by
  clear hw0
  clear hw1
  have hm0' : xs.length ≤ 9223372036854775807 := by simp only [maxLen] at hm0; omega
  clear hm0
  have hm1' : ns.length ≤ 9223372036854775807 := by simp only [maxLen] at hm1; omega
  clear hm1
  by_cases hl0 : (1048576 : Int) < (xs.length : Int)
  · go_enter Try.func4, Try.ntmps4
    go_wp2
    go_ret
    first | exact ⟨rfl, Below.refl _ _⟩ | exact ⟨rfl, (Below.refl _ _).alloc (Nat.le_refl _) _⟩
  replace hl0 : xs.length ≤ 1048576 := by omega
  by_cases hl1 : (ns.length : Int) ≤ 1048576
  rotate_left
  · go_enter Try.func4, Try.ntmps4
    go_wp2_with fail
    refine (szNumberedS_any A1 ns.length c1 (1048576) _ (by omega) (by omega) (by omega)).mono ?_
    rintro e w' ⟨rfl, rfl⟩
    rw [if_neg (by omega)]
    go_wp2
    go_ret
    first | exact ⟨rfl, Below.refl _ _⟩ | exact ⟨rfl, (Below.refl _ _).alloc (Nat.le_refl _) _⟩
  have hk1 : ns.length ≤ 1048576 := by omega
  have hy0 : (tnsL xs ns).length ≤ 1048576 := tnsL_le xs ns hl0
  have hy1 : (tnsB xs ns).length ≤ 1048576 := tnsB_le xs ns
  go_enter Try.func4, Try.ntmps4
  go_wp2_with fail
  refine (szNumberedS_any A1 ns.length c1 (1048576) _ (by omega) (by omega) (by omega)).mono ?_
  rintro e w' ⟨rfl, rfl⟩
  rw [if_pos (by omega)]
  have hB := Below.refl w.heap.size w
  go_wp2_with fail
  refine (toIntS_any A0 c0 xs w hl0 (h0.new hB)).mono ?_
  rintro e w1 ⟨B1, d1, rfl, o1, t1⟩
  have HL1 := hide (own_rng o1)
  have s1 := t1.size
  replace hB := bthen hB t1
  go_wp2_with fail
  refine (toNumberedS_any A1 c1 ns w1 hk1 (h1.new hB)).mono ?_
  rintro e w2 ⟨B2, d2, rfl, o2, t2⟩
  have HL2 := hide (own_rng o2)
  have s2 := t2.size
  replace hB := bthen hB t2
  replace o1 := own_new o1 t2
  go_wp2_with fail
  refine (takeNumbers_spec B1 B2 d1 d2 xs ns w2 (own_rd o1) (own_rd o2) (by omega) (by omega)).mono ?_
  rintro e w3 ⟨B3, d3, B3b, d3b, rfl, o3, o3b, ap3, t3⟩
  have HL3 := hide (own_rng o3)
  have HL3b := hide (own_rng o3b)
  have AP3 := hide ap3
  clear ap3
  have s3 := t3.size
  replace hB := bthen hB t3
  replace o1 := own_new o1 t3
  replace o2 := own_new o2 t3
  go_wp2_with fail
  refine (toIntS_any A0 c0 xs w3 hl0 (h0.new hB)).mono ?_
  rintro e w4 ⟨B4, d4, rfl, o4, t4⟩
  have HL4 := hide (own_rng o4)
  have s4 := t4.size
  replace hB := bthen hB t4
  replace o1 := own_new o1 t4
  replace o2 := own_new o2 t4
  replace o3 := own_new o3 t4
  replace o3b := own_new o3b t4
  go_wp2_with fail
  refine (toNumberedS_any A1 c1 ns w4 hk1 (h1.new hB)).mono ?_
  rintro e w5 ⟨B5, d5, rfl, o5, t5⟩
  have HL5 := hide (own_rng o5)
  have s5 := t5.size
  replace hB := bthen hB t5
  replace o1 := own_new o1 t5
  replace o2 := own_new o2 t5
  replace o3 := own_new o3 t5
  replace o3b := own_new o3b t5
  replace o4 := own_new o4 t5
  go_wp2_with fail
  refine (takeNumbers_impl B4 B5 d4 d5 xs ns w5 (own_rd o4) (own_rd o5) (by omega) (by omega)).mono ?_
  rintro e w6 ⟨B6, d6, B6b, d6b, rfl, o6, o6b, ap6, t6⟩
  have HL6 := hide (own_rng o6)
  have HL6b := hide (own_rng o6b)
  have AP6 := hide ap6
  clear ap6
  have s6 := t6.size
  replace hB := bthen hB t6
  replace o1 := own_new o1 t6
  replace o2 := own_new o2 t6
  replace o3 := own_new o3 t6
  replace o3b := own_new o3b t6
  replace o4 := own_new o4 t6
  replace o5 := own_new o5 t6
  go_wp2_with fail
  refine (eqIntS_any B6 B3 d6 d3 _ _ w6 (own_rd o6) (own_rd o3) (by omega)).mono ?_
  rintro e w' ⟨rfl, m, rfl⟩
  have s7 : w6.heap.size ≤ (w6.drewN m).heap.size := Nat.le_refl _
  replace hB := below_drewN hB m
  replace o1 := own_drewN o1 m
  replace o2 := own_drewN o2 m
  replace o3 := own_drewN o3 m
  replace o3b := own_drewN o3b m
  replace o4 := own_drewN o4 m
  replace o5 := own_drewN o5 m
  replace o6 := own_drewN o6 m
  replace o6b := own_drewN o6b m
  generalize w6.drewN m = w7 at *
  go_wp2_with fail
  refine (eqBoolS_any B6b B3b d6b d3b _ _ w7 (own_rd o6b) (own_rd o3b) (by omega)).mono ?_
  rintro e w' ⟨rfl, m, rfl⟩
  have s8 : w7.heap.size ≤ (w7.drewN m).heap.size := Nat.le_refl _
  replace hB := below_drewN hB m
  replace o1 := own_drewN o1 m
  replace o2 := own_drewN o2 m
  replace o3 := own_drewN o3 m
  replace o3b := own_drewN o3b m
  replace o4 := own_drewN o4 m
  replace o5 := own_drewN o5 m
  replace o6 := own_drewN o6 m
  replace o6b := own_drewN o6b m
  generalize w7.drewN m = w8 at *
  go_wp2_with fail
  refine (toIntS_any A0 c0 xs w8 hl0 (h0.new hB)).mono ?_
  rintro e w9 ⟨B9, d9, rfl, o9, t9⟩
  have HL9 := hide (own_rng o9)
  have s9 := t9.size
  replace hB := bthen hB t9
  replace o1 := own_new o1 t9
  replace o2 := own_new o2 t9
  replace o3 := own_new o3 t9
  replace o3b := own_new o3b t9
  replace o4 := own_new o4 t9
  replace o5 := own_new o5 t9
  replace o6 := own_new o6 t9
  replace o6b := own_new o6b t9
  go_wp2_with fail
  refine (eqIntS_any B4 B9 d4 d9 _ _ w9 (own_rd o4) (own_rd o9) (by omega)).mono ?_
  rintro e w' ⟨rfl, m, rfl⟩
  have s10 : w9.heap.size ≤ (w9.drewN m).heap.size := Nat.le_refl _
  replace hB := below_drewN hB m
  replace o1 := own_drewN o1 m
  replace o2 := own_drewN o2 m
  replace o3 := own_drewN o3 m
  replace o3b := own_drewN o3b m
  replace o4 := own_drewN o4 m
  replace o5 := own_drewN o5 m
  replace o6 := own_drewN o6 m
  replace o6b := own_drewN o6b m
  replace o9 := own_drewN o9 m
  generalize w9.drewN m = w10 at *
  go_wp2_with fail
  refine (toNumberedS_any A1 c1 ns w10 hk1 (h1.new hB)).mono ?_
  rintro e w11 ⟨B11, d11, rfl, o11, t11⟩
  have HL11 := hide (own_rng o11)
  have s11 := t11.size
  replace hB := bthen hB t11
  replace o1 := own_new o1 t11
  replace o2 := own_new o2 t11
  replace o3 := own_new o3 t11
  replace o3b := own_new o3b t11
  replace o4 := own_new o4 t11
  replace o5 := own_new o5 t11
  replace o6 := own_new o6 t11
  replace o6b := own_new o6b t11
  go_wp2_with fail
  refine (eqNumberedS_any B5 B11 d5 d11 _ _ w11 (own_rd o5) (own_rd o11) (by omega)).mono ?_
  rintro e w12 ⟨rfl, t12⟩
  have s12 := t12.size
  replace hB := bthen hB t12
  replace o1 := own_new o1 t12
  replace o2 := own_new o2 t12
  replace o3 := own_new o3 t12
  replace o3b := own_new o3b t12
  replace o4 := own_new o4 t12
  replace o5 := own_new o5 t12
  replace o6 := own_new o6 t12
  replace o6b := own_new o6b t12
  replace o11 := own_new o11 t12
  go_wp2_with fail
  refine (markIntS_any B4 d4 _ (1) _ w12 o4 (by omega) (by omega) (by omega)).mono ?_
  rintro e w13 ⟨rfl, x13, ch13⟩
  have s13 := ch13.size
  replace hB := hB.trans (ch13.below (fun g hg hA => by have := unhide HL4 g hA; omega) (by omega))
  replace o3 := own_chg o3 ch13 (fun g hA hS => by have h1 := unhide HL3 g hA; have h2 := unhide HL4 g hS; omega)
  replace o3b := own_chg o3b ch13 (fun g hA hS => by have h1 := unhide HL3b g hA; have h2 := unhide HL4 g hS; omega)
  replace o5 := own_chg o5 ch13 (fun g hA hS => by have h1 := unhide HL5 g hA; have h2 := unhide HL4 g hS; omega)
  replace o6 := own_chg o6 ch13 (fun g hA hS => by have h1 := unhide HL6 g hA; have h2 := unhide HL4 g hS; omega)
  replace o6b := own_chg o6b ch13 (fun g hA hS => by have h1 := unhide HL6b g hA; have h2 := unhide HL4 g hS; omega)
  replace o4 := x13
  go_wp2_with fail
  refine (markNumberedS_any B5 d5 _ (1 + (xs).length) _ w13 o5 (by omega) (by omega) (by omega)).mono ?_
  rintro e w14 ⟨rfl, x14, ch14⟩
  have s14 := ch14.size
  replace hB := hB.trans (ch14.below (fun g hg hA => by have := unhide HL5 g hA; omega) (by omega))
  replace o3 := own_chg o3 ch14 (fun g hA hS => by have h1 := unhide HL3 g hA; have h2 := unhide HL5 g hS; omega)
  replace o3b := own_chg o3b ch14 (fun g hA hS => by have h1 := unhide HL3b g hA; have h2 := unhide HL5 g hS; omega)
  replace o4 := own_chg o4 ch14 (fun g hA hS => by have h1 := unhide HL4 g hA; have h2 := unhide HL5 g hS; omega)
  replace o6 := own_chg o6 ch14 (fun g hA hS => by have h1 := unhide HL6 g hA; have h2 := unhide HL5 g hS; omega)
  replace o6b := own_chg o6b ch14 (fun g hA hS => by have h1 := unhide HL6b g hA; have h2 := unhide HL5 g hS; omega)
  replace o5 := x14
  go_wp2_with fail
  refine (eqIntS_any B6 B3 d6 d3 _ _ w14 (own_rd o6) (own_rd o3) (by omega)).mono ?_
  rintro e w' ⟨rfl, m, rfl⟩
  have s15 : w14.heap.size ≤ (w14.drewN m).heap.size := Nat.le_refl _
  replace hB := below_drewN hB m
  replace o3 := own_drewN o3 m
  replace o3b := own_drewN o3b m
  replace o6 := own_drewN o6 m
  replace o6b := own_drewN o6b m
  generalize w14.drewN m = w15 at *
  go_wp2_with fail
  refine (eqBoolS_any B6b B3b d6b d3b _ _ w15 (own_rd o6b) (own_rd o3b) (by omega)).mono ?_
  rintro e w' ⟨rfl, m, rfl⟩
  have s16 : w15.heap.size ≤ (w15.drewN m).heap.size := Nat.le_refl _
  replace hB := below_drewN hB m
  replace o3 := own_drewN o3 m
  replace o3b := own_drewN o3b m
  replace o6 := own_drewN o6 m
  replace o6b := own_drewN o6b m
  generalize w15.drewN m = w16 at *
  go_wp2_with fail
  refine (markIntS_any B6 d6 _ (1) _ w16 o6 (by omega) (by omega) (by omega)).mono ?_
  rintro e w17 ⟨rfl, x17, ch17⟩
  have s17 := ch17.size
  replace hB := hB.trans (ch17.below (fun g hg hA => by have := unhide HL6 g hA; omega) (by omega))
  replace o3 := own_chg o3 ch17 (fun g hA hS => by have h1 := unhide HL3 g hA; have h2 := unhide HL6 g hS; omega)
  replace o3b := own_chg o3b ch17 (fun g hA hS => by have h1 := unhide HL3b g hA; have h2 := unhide HL6 g hS; omega)
  replace o6b := own_chg o6b ch17 (fun g hA hS => unhide AP6 g hS hA)
  replace o6 := x17
  go_wp2_with fail
  refine (markBoolS_any B6b d6b _ (1 + (tnsL xs ns).length) _ w17 o6b (by omega) (by omega) (by omega)).mono ?_
  rintro e w18 ⟨rfl, x18, ch18⟩
  have s18 := ch18.size
  replace hB := hB.trans (ch18.below (fun g hg hA => by have := unhide HL6b g hA; omega) (by omega))
  replace o3 := own_chg o3 ch18 (fun g hA hS => by have h1 := unhide HL3 g hA; have h2 := unhide HL6b g hS; omega)
  replace o3b := own_chg o3b ch18 (fun g hA hS => by have h1 := unhide HL3b g hA; have h2 := unhide HL6b g hS; omega)
  replace o6 := own_chg o6 ch18 (fun g hA hS => unhide AP6 g hA hS)
  replace o6b := x18
  go_wp2_with fail
  refine (heldIntS_any B6 d6 (tnsL xs ns).length (1) w18 (own_rd o6) (by omega) (by omega) (by omega)).mono ?_
  rintro e w' ⟨rfl, rfl⟩
  go_wp2_with fail
  refine (heldBoolS_any B6b d6b (tnsB xs ns).length (1 + (tnsL xs ns).length) w18 (own_rd o6b) (by omega) (by omega) (by omega)).mono ?_
  rintro e w' ⟨rfl, rfl⟩
  go_wp2_with fail
  refine (toIntS_any A0 c0 xs w18 hl0 (h0.new hB)).mono ?_
  rintro e w19 ⟨B19, d19, rfl, o19, t19⟩
  have HL19 := hide (own_rng o19)
  have s19 := t19.size
  replace hB := bthen hB t19
  replace o3 := own_new o3 t19
  replace o3b := own_new o3b t19
  replace o6 := own_new o6 t19
  replace o6b := own_new o6b t19
  go_wp2_with fail
  refine (toNumberedS_any A1 c1 ns w19 hk1 (h1.new hB)).mono ?_
  rintro e w20 ⟨B20, d20, rfl, o20, t20⟩
  have HL20 := hide (own_rng o20)
  have s20 := t20.size
  replace hB := bthen hB t20
  replace o3 := own_new o3 t20
  replace o3b := own_new o3b t20
  replace o6 := own_new o6 t20
  replace o6b := own_new o6b t20
  replace o19 := own_new o19 t20
  go_wp2_with fail
  refine (takeNumbers_impl B19 B20 d19 d20 xs ns w20 (own_rd o19) (own_rd o20) (by omega) (by omega)).mono ?_
  rintro e w21 ⟨B21, d21, B21b, d21b, rfl, o21, o21b, ap21, t21⟩
  have HL21 := hide (own_rng o21)
  have HL21b := hide (own_rng o21b)
  have AP21 := hide ap21
  clear ap21
  have s21 := t21.size
  replace hB := bthen hB t21
  replace o3 := own_new o3 t21
  replace o3b := own_new o3b t21
  replace o6 := own_new o6 t21
  replace o6b := own_new o6b t21
  replace o19 := own_new o19 t21
  replace o20 := own_new o20 t21
  go_wp2_with fail
  refine (eqIntS_any B21 B3 d21 d3 _ _ w21 (own_rd o21) (own_rd o3) (by omega)).mono ?_
  rintro e w' ⟨rfl, m, rfl⟩
  have s22 : w21.heap.size ≤ (w21.drewN m).heap.size := Nat.le_refl _
  replace hB := below_drewN hB m
  replace o3 := own_drewN o3 m
  replace o3b := own_drewN o3b m
  replace o6 := own_drewN o6 m
  replace o6b := own_drewN o6b m
  replace o19 := own_drewN o19 m
  replace o20 := own_drewN o20 m
  replace o21 := own_drewN o21 m
  replace o21b := own_drewN o21b m
  generalize w21.drewN m = w22 at *
  go_wp2_with fail
  refine (eqBoolS_any B21b B3b d21b d3b _ _ w22 (own_rd o21b) (own_rd o3b) (by omega)).mono ?_
  rintro e w' ⟨rfl, m, rfl⟩
  have s23 : w22.heap.size ≤ (w22.drewN m).heap.size := Nat.le_refl _
  replace hB := below_drewN hB m
  replace o3 := own_drewN o3 m
  replace o3b := own_drewN o3b m
  replace o6 := own_drewN o6 m
  replace o6b := own_drewN o6b m
  replace o19 := own_drewN o19 m
  replace o20 := own_drewN o20 m
  replace o21 := own_drewN o21 m
  replace o21b := own_drewN o21b m
  generalize w22.drewN m = w23 at *
  go_wp2_with fail
  refine (heldIntS_any B6 d6 (tnsL xs ns).length (1) w23 (own_rd o6) (by omega) (by omega) (by omega)).mono ?_
  rintro e w' ⟨rfl, rfl⟩
  go_wp2_with fail
  refine (heldBoolS_any B6b d6b (tnsB xs ns).length (1 + (tnsL xs ns).length) w23 (own_rd o6b) (by omega) (by omega) (by omega)).mono ?_
  rintro e w' ⟨rfl, rfl⟩
  go_wp2
  go_ret
  exact ⟨rfl, hB⟩
end Go.Proofs.Ythddcinpacaacaa
