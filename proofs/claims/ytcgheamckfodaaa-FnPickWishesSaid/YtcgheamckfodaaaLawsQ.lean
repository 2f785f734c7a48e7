/- The law FnPickWishes. -/
import Derived.Test.YtcgheamckfodaaaLawsP
namespace Go.Proofs.Ytcgheamckfodaaa
open Go.RowKit
set_option linter.unusedVariables false
set_option linter.unusedSimpArgs false

theorem pick_at {xs : List Wsh} (hV : wishesB xs = true) {T k : Nat} (hT : T ≤ xs.length) (hk : k < T) : ∃ b, (pkN xs T).2[k]? = some b ∧ b < xs.length ∧ (pkN xs k).1.getD b false = false ∧ (∀ j, j < b → (pkN xs k).1.getD j false = false → whoAt xs j ≠ whoAt xs b) ∧ (pkN xs (k + 1)).1 = (pkN xs k).1.set b true := by
  have ha := pickL_all hV k (by omega)
  obtain ⟨b, hb, h1, h2, h3⟩ := pk_best xs (pkN xs k).1 (wishes_at hV) ha.dlen (by rw [ha.cnt]; omega)
  refine ⟨b, ?_, h1, h2, h3, by rw [pkN, hb]⟩
  have hp := pkN_prefix xs (wishes_at hV) (k + 1) T (by omega) hT
  have : ((pkN xs T).2.take (k + 1))[k]? = some b := by
    rw [hp, pkN, hb]
    show ((pkN xs k).2 ++ [b])[k]? = some b
    rw [List.getElem?_append_right (by rw [ha.plen]; omega), ha.plen, Nat.sub_self]
    rfl
  rwa [List.getElem?_take_of_lt (by omega)] at this
set_option maxRecDepth 100000 in
set_option maxHeartbeats 4000000 in
theorem law_FnPickWishes (A : Option Addr) (c : Nat) (bs : List Int) (w : World) (h : Rd w A (bs.map (.int .u8))) (hw : ∀ b ∈ bs, 0 ≤ b ∧ b ≤ 255) (hc : bs.length ≤ c) (hm : c ≤ maxLen) :
    Calls Try.prog 7 #[.slice A bs.length c] w fun e w' => e = .returned (.bool true) ∧ Below w.heap.size w w' := by
  have hm2 : bs.length ≤ 9223372036854775807 := by simp only [maxLen] at hm; omega
  by_cases hl : (1048576 : Int) < (bs.length : Int)
  · clear hw
    go_enter Try.func7, Try.ntmps7
    go_wp2
    go_ret
    exact ⟨rfl, Below.refl _ _⟩
  · have HW := hide hw
    have HC := hide hc
    have HM := hide hm
    clear hw hc hm
    go_enter Try.func7, Try.ntmps7
    go_wp2_with fail
    refine (drawPick_any A c bs w h (unhide HW) (unhide HC) (unhide HM)).mono ?_
    rintro e w1 ⟨A1, c1, xs, many, hxl, hn1, hn2, rfl, r1, b1⟩
    go_wp2_with fail
    refine (pickI_impl A1 c1 xs many w1 r1 (by omega) (by omega) (by omega)).mono ?_
    rintro e w2 ⟨A2, c2, rfl, o2, b2⟩
    have hB := bthen b1 b2
    replace r1 := r1.new b2
    go_wp2_with fail
    refine (pickI_spec A1 c1 xs many w2 r1 (by omega) (by omega) (by omega)).mono ?_
    rintro e w3 ⟨A3, c3, rfl, o3, b3⟩
    replace hB := bthen hB b3
    replace r1 := r1.new b3
    have hple := pickI_le xs many
    go_wp2_with fail
    refine (sameInts_any A2 A3 c2 c3 _ _ w3 (own_rd (own_new o2 b3)) (own_rd o3) (by omega)).mono ?_
    rintro e w' ⟨rfl, m, rfl⟩
    rw [show decide (pickI xs many = pickI xs many) = true by simp]
    replace hB := below_drewN hB m
    have R1 : Rd (w3.drewN m) A1 (xs.flatMap encW) := r1
    have R2 : Rd (w3.drewN m) A2 ((pickI xs many).map (.int .i64)) := (own_rd (own_new o2 b3)).drewN m
    clear o2 o3 b1 b2 b3 r1
    generalize w3.drewN m = w4 at *
    clear w3 w2
    by_cases hz : (pickI xs many).length = 0
    · have hz3 : (((pickI xs many).length : Int) == 0) = true := by simpa using hz
      rw [hz]
      go_wp2_with fail
      refine (alive_any _).mono ?_
      rintro e w8 ⟨rfl, b8⟩
      go_wp2
      go_ret
      exact ⟨rfl, bthen hB b8⟩
    · have hz3 : (((pickI xs many).length : Int) == 0) = false := by simpa using hz
      rw [pickI_len] at hz
      obtain ⟨hV, hm0, hm10, hpl⟩ := pickL_none hz
      obtain ⟨mm, rfl⟩ := Int.eq_ofNat_of_zero_le hm0
      simp only [Int.toNat_natCast, Int.ofNat_eq_natCast] at *
      obtain ⟨T, hT⟩ : ∃ T, T = min mm xs.length := ⟨_, rfl⟩
      have hTl : T ≤ xs.length := by omega
      have hTm : T ≤ mm := by omega
      have hTp : 0 < T := by omega
      have e1 : pickL xs (mm : Int) = (pkN xs T).2 := by unfold pickL; rw [if_pos ⟨hV, inB_true.2 ⟨by omega, by omega⟩⟩, hT]; rfl
      have e2 : pickI xs (mm : Int) = (pkN xs T).2.map fun i : Nat => (i : Int) := by rw [pickI, e1]
      have hlen : (pickI xs (mm : Int)).length = T := by rw [pickI_len, hpl, hT]
      rw [hlen]
      rw [hlen] at hz3
      have hmk := fun W => make_bools xs.length (by omega) W
      have HV := hide hV
      have HE1 := hide e1
      have HE2 := hide e2
      have HLEN := hide hlen
      have hmin : (if xs.length < mm then (xs.length : Int) else (mm : Int)) = (T : Int) := by split <;> omega
      clear hT hV e1 e2 hlen hpl
      obtain ⟨g2, f2, rfl, hg2, hcp⟩ := R2 (by rw [unhide HE2]; simp [(pickL_all (unhide HV) T hTl).plen]; omega)
      have HCP := hide (show ∀ k b, (pkN xs T).2[k]? = some b → w4.cell? ⟨g2, f2 + k, none⟩ = some (.int .i64 (b : Nat)) from fun k b hkb => hcp k _ (by rw [unhide HE2]; simp [hkb]))
      clear hcp
      obtain ⟨g1, f1, rfl, hg1, -⟩ := R1 (by rw [length_flat encW 6 encW_len]; omega)
      go_wp2
      clear hmk
      have kd0 := bA_rep w4 4 xs.length
      generalize hwm : w4.alloc (.cells (Array.replicate xs.length (Value.bool false)) 4) = wm at *
      have hb4m : Below w4.heap.size w4 wm := by rw [← hwm]; exact (Below.refl _ _).alloc (Nat.le_refl _) _
      have HWM := hide hwm
      clear hwm
      go_loopw [7] (fun i wr => ∃ k : Nat, k ≤ T ∧ i = .int .i64 k ∧ Blk wr w4.heap.size 4 (bA (pkN xs k).1) ∧ Chg (fun q => q = w4.heap.size) wm wr) (fun i _ => T - (intOf i).toNat)
      case atStart => exact ⟨0, Nat.zero_le _, rfl, kd0, Chg.refl _ _⟩
      case round =>
        obtain ⟨k, hk, rfl, kd, hch⟩ := hrel
        have hB4 : Below w4.heap.size w4 wr := hb4m.trans (hch.below (fun q hq e => by omega) hb4m.size)
        by_cases hkt : k < T
        · obtain ⟨b, hb1, hb2, hb3, hb4, hb5⟩ := pick_at (unhide HV) hTl hkt
          have hdl := (pickL_all (unhide HV) k (by omega)).dlen
          have cp : wr.cell? ⟨g2, f2 + k, none⟩ = some (.int .i64 (b : Nat)) := (hB4.cell (p := ⟨g2, f2 + k, none⟩) hg2).trans (unhide HCP k b hb1)
          have HB4 := hide hb4
          have HB5 := hide hb5
          clear hb1 hb4 hb5
          generalize (pkN xs k).1 = dn at *
          have cb := bA_get kd (show b < dn.length by omega)
          rw [hb3] at cb
          have zb := kd.frozen b
          have i1 : (k : Int) < (T : Int) := by omega
          have i2 : (b : Int) < (xs.length : Int) := by omega
          have hDl := kd.lt
          obtain ⟨_, _, e, _, _, _, _, _, _, wb⟩ := (R1.new hB4).wsh hb2
          injection e with e
          injection e with e1 e2
          subst e1 e2
          obtain ⟨wo, hwo⟩ : ∃ wo : World, wo = wr := ⟨_, rfl⟩
          subst hwo
          go_wp2
          go_loopw [8] (fun i wi => ∃ j n : Nat, j ≤ b ∧ i = .int .i64 j ∧ wo.drewN n = wi) (fun i _ => b - (intOf i).toNat)
          case atStart => exact ⟨0, 0, Nat.zero_le _, rfl, rfl⟩
          case round =>
            obtain ⟨j, n, hj, rfl, rfl⟩ := hrel
            by_cases hjb : j < b
            · have i3 : (j : Int) < (xs.length : Int) := by omega
              have hjl : j < xs.length := by omega
              obtain ⟨_, _, e, _, _, _, _, _, _, wj⟩ := (R1.new hB4).wsh hjl
              injection e with e
              injection e with e1 e2
              subst e1 e2
              have cj := bA_get kd (show j < dn.length by omega)
              have h1 := (wishes_who (unhide HV) j hjl).1
              have h2 := (wishes_who (unhide HV) b hb2).1
              have hwq : xs[j].who = xs[b].who → dn.getD j false = true := by
                intro hq
                cases hdj : dn.getD j false with
                | true => rfl
                | false => exact absurd (by simp [whoAt, hjl, hb2, hq]) (unhide HB4 j hjb hdj)
              by_cases hq : xs[j].who = xs[b].who
              · rw [hwq hq] at cj
                rw [hq] at wj
                clear hwq hq h1 h2
                generalize xs[b].who = q at *
                go_wp2
                go_quiet (fail)
                go_wp2
                go_roundw
                case rel => exact ⟨j + 1, n + nq, by omega, by go_num, rfl⟩
                case measure => simp [intOf]; omega
              · clear hwq h1 h2
                generalize xs[b].who = q at *
                generalize xs[j].who = q2 at *
                have hq2 : (q2 == q) = false := by simpa using hq
                clear hq
                go_wp2
                go_quiet (fail)
                go_wp2
                go_roundw
                case rel => exact ⟨j + 1, n + nq, by omega, by go_num, rfl⟩
                case measure => simp [intOf]; omega
            · obtain rfl : j = b := by omega
              go_wp2
              go_roundw
              case rel => exact ⟨k + 1, by omega, by go_num, by rw [unhide HB5]; exact bA_set kd j, (hch.setCell (p := ⟨w4.heap.size, j, none⟩) (.inl rfl) _).drewN n⟩
              case measure => simp [intOf]; omega
        · obtain rfl : k = T := by omega
          have hB5 := hB.trans (hB4.mono hB.size)
          have R15 := R1.new hB4
          have R25 := R2.new hB4
          clear kd0 kd hch hB4 hb4m R1 R2 hB
          by_cases h9 : mm + 1 < 10
          · have h9' : (mm : Int) + 1 < 10 := by omega
            have hmore : ∃ l, pickL xs ((mm : Int) + 1) = pickL xs (mm : Int) ++ l := pickL_more (unhide HV) (by omega) (by omega) (by omega)
            obtain ⟨htk, hkl⟩ : (pickI xs ((mm : Int) + 1)).take k = pickI xs (mm : Int) ∧ k ≤ (pickI xs ((mm : Int) + 1)).length := by
              obtain ⟨l, hl⟩ := hmore
              have h3 : (pickI xs (mm : Int)).length = k := unhide HLEN
              have h4 : pickI xs ((mm : Int) + 1) = pickI xs (mm : Int) ++ l.map fun i : Nat => (i : Int) := by simp only [pickI, hl, List.map_append]
              rw [h4]
              exact ⟨by rw [← h3]; exact List.take_left, by rw [List.length_append]; omega⟩
            clear hmore
            have HTK := hide htk
            have hml := pickI_le xs ((mm : Int) + 1)
            clear htk
            go_wp2_with fail
            refine (pickI_impl _ c1 xs ((mm : Int) + 1) wr R15 (by omega) (by omega) (by omega)).mono ?_
            rintro e w6 ⟨A6, c6, rfl, o6, b6⟩
            have hB6 := bthen hB5 b6
            have hcap := own_cap o6
            have R6 := own_rd o6
            have R26 := R25.new b6
            clear o6 b6 R15 R25
            generalize pickI xs ((mm : Int) + 1) = ms at *
            have i1 : (k : Int) ≤ (ms.length : Int) := by omega
            have i2 : (k : Int) ≤ (c6 : Int) := by omega
            have hkt : decide (k ≤ ms.length) = true := by simpa using hkl
            go_wp2_with fail
            have K := sameInts_any A6 (some ⟨g2, f2, none⟩) c6 c2 (ms.take k) (pickI xs (mm : Int)) w6 (by rw [List.map_take]; exact R6.take k) R26 (by rw [List.length_take]; omega)
            rw [unhide HTK, unhide HLEN] at K
            rw [show decide (pickI xs (mm : Int) = pickI xs (mm : Int)) = true by simp] at K
            refine K.mono ?_
            clear K
            rintro e w7 ⟨rfl, m7, rfl⟩
            go_wp2
            go_ret
            exact ⟨rfl, below_drewN hB6 m7⟩
          · have h9' : ¬ (mm : Int) + 1 < 10 := by omega
            have hmore : ∃ l, pickL xs (10) = pickL xs (mm : Int) ++ l := pickL_more (unhide HV) (by omega) (by omega) (by omega)
            obtain ⟨htk, hkl⟩ : (pickI xs (10)).take k = pickI xs (mm : Int) ∧ k ≤ (pickI xs (10)).length := by
              obtain ⟨l, hl⟩ := hmore
              have h3 : (pickI xs (mm : Int)).length = k := unhide HLEN
              have h4 : pickI xs (10) = pickI xs (mm : Int) ++ l.map fun i : Nat => (i : Int) := by simp only [pickI, hl, List.map_append]
              rw [h4]
              exact ⟨by rw [← h3]; exact List.take_left, by rw [List.length_append]; omega⟩
            clear hmore
            have HTK := hide htk
            have hml := pickI_le xs (10)
            clear htk
            go_wp2_with fail
            refine (pickI_impl _ c1 xs (10) wr R15 (by omega) (by omega) (by omega)).mono ?_
            rintro e w6 ⟨A6, c6, rfl, o6, b6⟩
            have hB6 := bthen hB5 b6
            have hcap := own_cap o6
            have R6 := own_rd o6
            have R26 := R25.new b6
            clear o6 b6 R15 R25
            generalize pickI xs (10) = ms at *
            have i1 : (k : Int) ≤ (ms.length : Int) := by omega
            have i2 : (k : Int) ≤ (c6 : Int) := by omega
            have hkt : decide (k ≤ ms.length) = true := by simpa using hkl
            go_wp2_with fail
            have K := sameInts_any A6 (some ⟨g2, f2, none⟩) c6 c2 (ms.take k) (pickI xs (mm : Int)) w6 (by rw [List.map_take]; exact R6.take k) R26 (by rw [List.length_take]; omega)
            rw [unhide HTK, unhide HLEN] at K
            rw [show decide (pickI xs (mm : Int) = pickI xs (mm : Int)) = true by simp] at K
            refine K.mono ?_
            clear K
            rintro e w7 ⟨rfl, m7, rfl⟩
            go_wp2
            go_ret
            exact ⟨rfl, below_drewN hB6 m7⟩
end Go.Proofs.Ytcgheamckfodaaa
