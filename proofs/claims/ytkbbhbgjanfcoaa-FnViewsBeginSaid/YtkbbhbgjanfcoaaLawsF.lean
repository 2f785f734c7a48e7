/- The law FnViewsBegin. -/
import Derived.Test.YtkbbhbgjanfcoaaLawsE
import Derived.Test.YtkbbhbgjanfcoaaViews
namespace Go.Proofs.Ytkbbhbgjanfcoaa
open Go.RowKit
set_option linter.unusedVariables false
set_option linter.unusedSimpArgs false

theorem law_FnViewsBegin (A : Option Addr) (c : Nat) (bs : List Int) (w : World) (h : Rd w A (bs.map (.int .u8))) (hw : ∀ b ∈ bs, 0 ≤ b ∧ b ≤ 255) (hc : bs.length ≤ c) (hm : c ≤ maxLen) :
    Calls Try.prog 13 #[.slice A bs.length c] w fun e w' => e = .returned (.bool true) ∧ Below w.heap.size w w' := by
  have hm2 : bs.length ≤ 9223372036854775807 := by simp only [maxLen] at hm; omega
  by_cases hl : (1048576 : Int) < (bs.length : Int)
  · clear hw
    go_enter Try.func13, Try.ntmps13
    go_wp2
    go_ret
    exact ⟨rfl, Below.refl _ _⟩
  · have HW := hide hw
    have HC := hide hc
    have HM := hide hm
    clear hw hc hm
    go_enter Try.func13, Try.ntmps13
    go_wp2_with fail
    refine (drawViews_any A c bs w h (unhide HW) (unhide HC) (unhide HM)).mono ?_
    rintro e w1 ⟨v, u, hv1, hv2, hu1, hu2, rfl, b1⟩
    by_cases hb : inB v 1 100000 = false ∨ inB u 0 40 = false
    · have HV := hide (viewsF_no hb)
      have CI := views_impl v u w1
      rw [unhide HV] at CI
      have CI' := hide CI
      clear hb CI
      go_wp2_with fail
      refine (unhide CI').mono ?_
      rintro e w2 ⟨A2, c2, rfl, o2, b2⟩
      have CS := views_spec v u w2
      rw [unhide HV] at CS
      have CS' := hide CS
      clear CS
      go_wp2_with fail
      refine (unhide CS').mono ?_
      rintro e w3 ⟨A3, c3, rfl, o3, b3⟩
      go_wp2_with fail
      refine (sameInts_any A2 A3 c2 c3 [] [] w3 ((own_rd o2).new b3) (own_rd o3) (by simp)).mono ?_
      rintro e w' ⟨rfl, m, rfl⟩
      go_wp2_with fail
      refine (alive_any _).mono ?_
      rintro e w4 ⟨rfl, b4⟩
      go_wp2
      go_ret
      exact ⟨rfl, bthen (below_drewN (bthen (bthen b1 b2) b3) m) b4⟩
    · have hvi : inB v 1 100000 = true := by cases hv : inB v 1 100000 <;> simp_all
      have hui : inB u 0 40 = true := by cases hv : inB u 0 40 <;> simp_all
      have hvb := inB_true.1 hvi
      have hub := inB_true.1 hui
      have HV := hide (viewsF_yes hvi hui)
      clear hb hvi hui
      obtain ⟨n, rfl⟩ := Int.eq_ofNat_of_zero_le hub.1
      have CI := views_impl v n w1
      rw [unhide HV, Int.toNat_natCast] at CI
      obtain ⟨vs, hvs⟩ : ∃ vs, vs = viewsN v n := ⟨_, rfl⟩
      have hlen : vs.length = n + 1 := by rw [hvs, viewsN_length]
      have HG := hide (show ∀ j (hj : j < vs.length), vs[j] = vAt v j by subst hvs; exact fun j hj => viewsN_get v n j hj)
      rw [← hvs] at CI
      have CI' := hide CI
      have HS := hide hvs
      have HL := hide hlen
      have hl1 : vs.length ≤ 41 := by omega
      have hl2 : 0 < vs.length := by omega
      clear CI hvs hlen
      go_wp2_with fail
      refine (unhide CI').mono ?_
      rintro e w2 ⟨A2, c2, rfl, o2, b2⟩
      have CS := views_spec v n w2
      rw [unhide HV, Int.toNat_natCast, ← unhide HS] at CS
      have CS' := hide CS
      clear CS
      go_wp2_with fail
      refine (unhide CS').mono ?_
      rintro e w3 ⟨A3, c3, rfl, o3, b3⟩
      go_wp2_with fail
      refine (sameInts_any A2 A3 c2 c3 vs vs w3 ((own_rd o2).new b3) (own_rd o3) (by omega)).mono ?_
      rintro e w' ⟨rfl, m, rfl⟩
      have b3' := below_drewN (bthen (bthen b1 b2) b3) m
      have r3 := ((own_rd o2).new b3).drewN m
      generalize w3.drewN m = w4 at *
      clear o2 o3 b3 b2
      have hz : ((vs.length : Int) == 0) = false := by rw [beq_eq_false_iff_ne]; omega
      go_wp2
      go_loopw [6] (fun i wr => ∃ (k m : Nat), 1 ≤ k ∧ k ≤ vs.length ∧ i = .int .i64 k ∧ w4.drewN m = wr) (fun i _ => vs.length - (intOf i).toNat)
      case atStart => exact ⟨1, 0, by omega, by omega, rfl, rfl⟩
      case round =>
        obtain ⟨k, m, hk1, hk, rfl, rfl⟩ := hrel
        by_cases hlt : k < vs.length
        · obtain ⟨j, rfl⟩ : ∃ j, k = j + 1 := ⟨k - 1, by omega⟩
          obtain ⟨b, off, rfl, hbb, hc1⟩ := r3.int hlt
          obtain ⟨b', off', hA', hbb', hc2⟩ := r3.int (show j < vs.length by omega)
          injection hA' with hA'
          injection hA' with q1 q2
          subst q1
          subst q2
          rw [unhide HG] at hc1 hc2
          have d1 : (w4.drewN m).cell? ⟨b, off + (j + 1), none⟩ = some (.int .i64 (vAt v (j + 1))) := hc1
          have d2 : (w4.drewN m).cell? ⟨b, off + j, none⟩ = some (.int .i64 (vAt v j)) := hc2
          have hva := vAt_bd v hvb.1 hvb.2 j
          have hva2 := vAt_bd v hvb.1 hvb.2 (j + 1)
          have hwb := waitN_bd v hvb.1 hvb.2 j
          have hwj : waitF v (j : Int) = waitN v j := by rw [waitF_yes hvb.1 hvb.2 (by omega)]; rfl
          have hne : (vAt v (j + 1) - vAt v j != waitF v (j : Int)) = false := by rw [hwj]; simp [vAt]; omega
          clear hwj
          have i1 : ((j + 1 : Nat) : Int) < (vs.length : Int) := by omega
          have i2 : (j : Int) < (vs.length : Int) := by omega
          have i3 : (j : Int) + 1 < (vs.length : Int) := by omega
          have wr1 : IntKind.i64.wrap (vAt v (j + 1) - vAt v j) = vAt v (j + 1) - vAt v j := Go.IntWalk.i64_in _ (by omega)
          have wr2 : IntKind.i64.wrap ((j : Int) + 1 - 1) = j := by rw [show (j : Int) + 1 - 1 = j by omega]; exact Go.IntWalk.i64_in _ (by omega)
          have wr3 : IntKind.i64.wrap (j : Int) = j := Go.IntWalk.i64_in _ (by omega)
          have i4 : (0 : Int) ≤ (j : Int) + 1 := by omega
          have i5 : ((j : Int) + 1).toNat = j + 1 := by omega
          have i6 : (0 : Int) ≤ (j : Int) := by omega
          go_wp2
          go_quiet ((go_at_call 18; first | exact quiet_left (wait_impl _ _ (by omega) _) | exact quiet_add_left (wait_impl _ _ (by omega) _)))
          go_wp2
          go_roundw
          case rel => exact ⟨j + 1 + 1, _, by omega, by omega, by go_num, rfl⟩
          case measure => simp [intOf]; omega
        · have hkn : k = vs.length := by omega
          obtain ⟨b, off, rfl, hbb, hc1⟩ := r3.int hl2
          rw [unhide HG] at hc1
          have hc2 : (w4.drewN m).cell? ⟨b, off, none⟩ = some (.int .i64 0) := hc1
          have hle : ((vs.length : Int) == (n : Int) + 1) = true := by rw [beq_iff_eq]; have := unhide HL; omega
          have i0 : (0 : Int) < (vs.length : Int) := by omega
          clear hkn
          go_wp2
          go_ret
          exact ⟨retb (by first | rfl | assumption | simp), below_drewN b3' m⟩
end Go.Proofs.Ytkbbhbgjanfcoaa
