/- The law FnExactTakeNumber: the walk is printed by gen_exact.py. -/
import Derived.Test.YthddcinpacaacaaTakeN
import Derived.Test.YthddcinpacaacaaIntS
import Derived.Test.YthddcinpacaacaaOpenNumbered
import Derived.Deep.DeepCutAuto
import Derived.Deep.Cut
import Derived.BigRegion
import Derived.Deep.RegionWith
import Derived.Deep.DrawnRows
namespace Go.Proofs.Ythddcinpacaacaa
open Go.RowKit
set_option linter.unusedVariables false
set_option linter.unusedSimpArgs false
attribute [local go_sem ↓] Go.wp_at_zero Go.wp_at_succ

theorem own_drewN {w : World} {base : Nat} {e : TypeId} {size : Nat} {A : Option Addr} {c n : Nat} {xs : List Value} (h : w.ownsRow base e size (.slice A n c) n xs) (m : Nat) : (w.drewN m).ownsRow base e size (.slice A n c) n xs := h
theorem own_rng {w : World} {base : Nat} {e : TypeId} {size : Nat} {A : Option Addr} {c n : Nat} {xs : List Value} (h : w.ownsRow base e size (.slice A n c) n xs) : ∀ g, A = some ⟨g, 0, none⟩ → base ≤ g ∧ g < w.heap.size := fun g hg => h.lt g (by rw [hg]; rfl)
theorem rd_lit_at (w : World) (cs : List Value) (t : TypeId) (j : Nat) {u : Value} (h : cs[j]? = some u) : (w.alloc (.cells cs.toArray t)).cell? ⟨w.heap.size, j, none⟩ = some u := by
  obtain ⟨b, off, e, _, hc⟩ := rd_lit w cs t (by have := (List.getElem?_eq_some_iff.1 h).1; omega)
  injection e with e
  injection e with e1 e2
  subst e1 e2
  have := hc j u h
  rwa [Nat.zero_add] at this
theorem tnL_len (xs : List Int) (n : Nbd) (h : xs.length ≤ 1048576) : (tnL xs n).length ≤ 1048576 := by
  unfold tnL
  split
  · rw [takeL_len]; exact h
  · simp
set_option maxRecDepth 100000 in
set_option maxHeartbeats 4000000 in
theorem law_FnExactTakeNumber (A0 : Option Addr) (c0 : Nat) (xs : List Int) (n : Nbd) (w : World) (h0 : Rd w A0 (xs.map (.int .i64))) (hw0 : ∀ n ∈ xs, -9223372036854775808 ≤ n ∧ n ≤ 9223372036854775807) (hm0 : xs.length ≤ maxLen) (hw1 : n.wf) :
    Calls Try.prog 3 #[.slice A0 xs.length c0, .agg #[.int .i64 n.who, .int .i64 n.num]] w fun e w' => e = .returned (.bool true) ∧ Below w.heap.size w w' := by
  clear hw0
  clear hw1
  have hm0' : xs.length ≤ 9223372036854775807 := by simp only [maxLen] at hm0; omega
  clear hm0
  by_cases hl0 : (1048576 : Int) < (xs.length : Int)
  · go_enter Try.func3, Try.ntmps3
    go_wp2
    go_ret
    first | exact ⟨rfl, Below.refl _ _⟩ | exact ⟨rfl, (Below.refl _ _).alloc (Nat.le_refl _) _⟩
  replace hl0 : xs.length ≤ 1048576 := by omega
  have hy0 : (tnL xs n).length ≤ 1048576 := tnL_len xs n hl0
  replace h0 := h0.alloc (.cells #[.int .i64 n.who, .int .i64 n.num] 24)
  have q0 : (w.alloc (.cells #[.int .i64 n.who, .int .i64 n.num] 24)).cell? ⟨w.heap.size, 0, none⟩ = some (.int .i64 n.who) := rd_lit_at w _ _ 0 rfl
  have q1 : (w.alloc (.cells #[.int .i64 n.who, .int .i64 n.num] 24)).cell? ⟨w.heap.size, 1, none⟩ = some (.int .i64 n.num) := rd_lit_at w _ _ 1 rfl
  have hw0 : Below w.heap.size w (w.alloc (.cells #[.int .i64 n.who, .int .i64 n.num] 24)) := (Below.refl _ _).alloc (Nat.le_refl _) _
  have hs0 : w.heap.size < (w.alloc (.cells #[.int .i64 n.who, .int .i64 n.num] 24)).heap.size := by simp
  go_enter Try.func3, Try.ntmps3
  go_wp2
  go_upto_region 3 with fail
  generalize (w.alloc (.cells #[.int .i64 n.who, .int .i64 n.num] 24)) = W at *
  have p0 := q0
  have p1 := q1
  have hB := Below.refl W.heap.size W
  go_cut [5, 6] from 18 to 25 (fun s5 s6 wx => ∃ B' d', s5 = .slice B' (tnL xs n).length d' ∧ s6 = .bool (tnB xs n) ∧ wx.ownsRow W.heap.size 3 1 (.slice B' (tnL xs n).length d') (tnL xs n).length ((tnL xs n).map (.int .i64)) ∧ Below W.heap.size W wx)
  case first =>
    have hX := (Below.refl W.heap.size W).drew
    replace p0 := (hB.cell (p := ⟨w.heap.size, 0, none⟩) hs0).trans q0
    replace p1 := (hB.cell (p := ⟨w.heap.size, 1, none⟩) hs0).trans q1
    have hC := hB.drew
    go_region_with (first
      | (go_at_call 8; refine (toIntS_any A0 c0 xs _ hl0 (h0.new hC)).mono ?_; rintro e wa ⟨E0, f0, rfl, oa, ta⟩; replace hX := bthen hX ta; replace hC := bthen hC ta; replace p0 := (hC.cell (p := ⟨w.heap.size, 0, none⟩) hs0).trans q0; replace p1 := (hC.cell (p := ⟨w.heap.size, 1, none⟩) hs0).trans q1; (try replace R0 := R0.new ta); (try replace R1 := R1.new ta); have R0 := own_rd oa)
      | (go_at_call 9; refine (toNumbered_any n _).mono ?_; rintro e wa ⟨rfl, ta⟩; replace hX := bthen hX ta; replace hC := bthen hC ta; replace p0 := (hC.cell (p := ⟨w.heap.size, 0, none⟩) hs0).trans q0; replace p1 := (hC.cell (p := ⟨w.heap.size, 1, none⟩) hs0).trans q1; (try replace R0 := R0.new ta); (try replace R1 := R1.new ta))
      | (go_at_call 7; refine (takeNumber_spec E0 f0 xs n _ R0 (by omega)).mono ?_; rintro e wb ⟨E9, f9, rfl, o9, t9⟩; have s9 := hX.size; replace hX := bthen hX t9))
    all_goals go_wp2_with fail
    all_goals go_meet
    all_goals exact ⟨E9, f9, rfl, rfl, own_base o9 s9, hX⟩
  case rest =>
  obtain ⟨B1, d1, rfl, rfl, o1, t1⟩ := hcut
  obtain ⟨w1, hgw⟩ : ∃ z, z = wc := ⟨_, rfl⟩
  subst hgw
  have HL1 := hide (own_rng o1)
  have s1 := t1.size
  replace hB := bthen hB t1
  go_wp2_with fail
  refine (toIntS_any A0 c0 xs w1 hl0 (h0.new hB)).mono ?_
  rintro e w2 ⟨B2, d2, rfl, o2, t2⟩
  have HL2 := hide (own_rng o2)
  have s2 := t2.size
  replace hB := bthen hB t2
  replace o1 := own_new o1 t2
  have p0 := (hB.cell (p := ⟨w.heap.size, 0, none⟩) hs0).trans q0
  have p1 := (hB.cell (p := ⟨w.heap.size, 1, none⟩) hs0).trans q1
  go_wp2_with fail
  refine (toNumbered_any n _).mono ?_
  rintro e w3 ⟨rfl, t3⟩
  have s3 := t3.size
  replace hB := bthen hB t3
  replace o1 := own_new o1 t3
  replace o2 := own_new o2 t3
  go_wp2_with fail
  refine (takeNumber_impl B2 d2 xs n w3 (own_rd o2) (by omega)).mono ?_
  rintro e w4 ⟨B4, d4, rfl, o4, t4⟩
  have HL4 := hide (own_rng o4)
  have s4 := t4.size
  replace hB := bthen hB t4
  replace o1 := own_new o1 t4
  replace o2 := own_new o2 t4
  go_wp2_with fail
  refine (eqIntS_any B4 B1 d4 d1 _ _ w4 (own_rd o4) (own_rd o1) (by omega)).mono ?_
  rintro e w' ⟨rfl, m, rfl⟩
  have s5 : w4.heap.size ≤ (w4.drewN m).heap.size := Nat.le_refl _
  replace hB := below_drewN hB m
  replace o1 := own_drewN o1 m
  replace o2 := own_drewN o2 m
  replace o4 := own_drewN o4 m
  generalize w4.drewN m = w5 at *
  go_wp2_with fail
  refine (toIntS_any A0 c0 xs w5 hl0 (h0.new hB)).mono ?_
  rintro e w6 ⟨B6, d6, rfl, o6, t6⟩
  have HL6 := hide (own_rng o6)
  have s6 := t6.size
  replace hB := bthen hB t6
  replace o1 := own_new o1 t6
  replace o2 := own_new o2 t6
  replace o4 := own_new o4 t6
  go_wp2_with fail
  refine (eqIntS_any B2 B6 d2 d6 _ _ w6 (own_rd o2) (own_rd o6) (by omega)).mono ?_
  rintro e w' ⟨rfl, m, rfl⟩
  have s7 : w6.heap.size ≤ (w6.drewN m).heap.size := Nat.le_refl _
  replace hB := below_drewN hB m
  replace o1 := own_drewN o1 m
  replace o2 := own_drewN o2 m
  replace o4 := own_drewN o4 m
  replace o6 := own_drewN o6 m
  generalize w6.drewN m = w7 at *
  go_wp2_with fail
  refine (markIntS_any B2 d2 _ (1) _ w7 o2 (by omega) (by omega) (by omega)).mono ?_
  rintro e w8 ⟨rfl, x8, ch8⟩
  have s8 := ch8.size
  replace hB := hB.trans (ch8.below (fun g hg hA => by have := unhide HL2 g hA; omega) (by omega))
  replace o1 := own_chg o1 ch8 (fun g hA hS => by have h1 := unhide HL1 g hA; have h2 := unhide HL2 g hS; omega)
  replace o4 := own_chg o4 ch8 (fun g hA hS => by have h1 := unhide HL4 g hA; have h2 := unhide HL2 g hS; omega)
  replace o2 := x8
  go_wp2_with fail
  refine (eqIntS_any B4 B1 d4 d1 _ _ w8 (own_rd o4) (own_rd o1) (by omega)).mono ?_
  rintro e w' ⟨rfl, m, rfl⟩
  have s9 : w8.heap.size ≤ (w8.drewN m).heap.size := Nat.le_refl _
  replace hB := below_drewN hB m
  replace o1 := own_drewN o1 m
  replace o4 := own_drewN o4 m
  generalize w8.drewN m = w9 at *
  go_wp2_with fail
  refine (markIntS_any B4 d4 _ (1) _ w9 o4 (by omega) (by omega) (by omega)).mono ?_
  rintro e w10 ⟨rfl, x10, ch10⟩
  have s10 := ch10.size
  replace hB := hB.trans (ch10.below (fun g hg hA => by have := unhide HL4 g hA; omega) (by omega))
  replace o1 := own_chg o1 ch10 (fun g hA hS => by have h1 := unhide HL1 g hA; have h2 := unhide HL4 g hS; omega)
  replace o4 := x10
  go_wp2_with fail
  refine (heldIntS_any B4 d4 (tnL xs n).length 1 w10 (own_rd o4) (by omega) (by omega) (by omega)).mono ?_
  rintro e w' ⟨rfl, rfl⟩
  go_wp2
  go_upto_region 22 with fail
  go_cut [13, 14] from 76 to 83 (fun s13 s14 wx => ∃ B' d', s13 = .slice B' (tnL xs n).length d' ∧ s14 = .bool (tnB xs n) ∧ wx.ownsRow w10.heap.size 3 1 (.slice B' (tnL xs n).length d') (tnL xs n).length ((tnL xs n).map (.int .i64)) ∧ Below w10.heap.size w10 wx)
  case first =>
    have hX := (Below.refl w10.heap.size w10).drew
    clear o1
    clear o4
    replace p0 := (hB.cell (p := ⟨w.heap.size, 0, none⟩) hs0).trans q0
    replace p1 := (hB.cell (p := ⟨w.heap.size, 1, none⟩) hs0).trans q1
    have hC := hB.drew
    go_region_with (first
      | (go_at_call 8; refine (toIntS_any A0 c0 xs _ hl0 (h0.new hC)).mono ?_; rintro e wa ⟨E0, f0, rfl, oa, ta⟩; replace hX := bthen hX ta; replace hC := bthen hC ta; replace p0 := (hC.cell (p := ⟨w.heap.size, 0, none⟩) hs0).trans q0; replace p1 := (hC.cell (p := ⟨w.heap.size, 1, none⟩) hs0).trans q1; (try replace R0 := R0.new ta); (try replace R1 := R1.new ta); have R0 := own_rd oa)
      | (go_at_call 9; refine (toNumbered_any n _).mono ?_; rintro e wa ⟨rfl, ta⟩; replace hX := bthen hX ta; replace hC := bthen hC ta; replace p0 := (hC.cell (p := ⟨w.heap.size, 0, none⟩) hs0).trans q0; replace p1 := (hC.cell (p := ⟨w.heap.size, 1, none⟩) hs0).trans q1; (try replace R0 := R0.new ta); (try replace R1 := R1.new ta))
      | (go_at_call 10; refine (takeNumber_impl E0 f0 xs n _ R0 (by omega)).mono ?_; rintro e wb ⟨E9, f9, rfl, o9, t9⟩; have s9 := hX.size; replace hX := bthen hX t9))
    all_goals go_wp2_with fail
    all_goals go_meet
    all_goals exact ⟨E9, f9, rfl, rfl, own_base o9 s9, hX⟩
  case rest =>
  obtain ⟨B11, d11, rfl, rfl, o11, t11⟩ := hcut
  obtain ⟨w11, hgw⟩ : ∃ z, z = wc := ⟨_, rfl⟩
  subst hgw
  have HL11 := hide (own_rng o11)
  have s11 := t11.size
  replace hB := bthen hB t11
  replace o1 := own_new o1 t11
  replace o4 := own_new o4 t11
  go_wp2_with fail
  refine (eqIntS_any B11 B1 d11 d1 _ _ w11 (own_rd o11) (own_rd o1) (by omega)).mono ?_
  rintro e w' ⟨rfl, m, rfl⟩
  have s12 : w11.heap.size ≤ (w11.drewN m).heap.size := Nat.le_refl _
  replace hB := below_drewN hB m
  replace o1 := own_drewN o1 m
  replace o4 := own_drewN o4 m
  replace o11 := own_drewN o11 m
  generalize w11.drewN m = w12 at *
  go_wp2_with fail
  refine (heldIntS_any B4 d4 (tnL xs n).length 1 w12 (own_rd o4) (by omega) (by omega) (by omega)).mono ?_
  rintro e w' ⟨rfl, rfl⟩
  go_wp2
  go_ret
  exact ⟨rfl, hw0.trans (hB.mono (by omega))⟩
end Go.Proofs.Ythddcinpacaacaa
