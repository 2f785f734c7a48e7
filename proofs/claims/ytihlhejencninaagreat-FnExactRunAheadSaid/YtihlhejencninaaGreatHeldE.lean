/- Effects, in the laws: held. -/
import Derived.Test.YtihlhejencninaaGreatGeff
import Derived.Test.YtihlhejencninaaGreatGint
namespace Go.Proofs.YtihlhejencninaaGreat
open Go.RowKit
set_option linter.unusedVariables false
set_option linter.unusedSimpArgs false

theorem markEffs_at (k : Int) (xs : List Eff) (j : Nat) (hj : j < xs.length) : (markEffs k xs)[j]'(by rw [markEffs_len]; exact hj) = markEff1 (markEnd k (xs.take j)) xs[j] := by
  have h := markEffs_get k xs j hj
  rw [List.getElem?_eq_getElem (by rw [markEffs_len]; exact hj)] at h
  exact Option.some.inj h
set_option maxHeartbeats 4000000 in
theorem heldEffectS_any (A : Option Addr) (c : Nat) (k0 : Int) (xs : List Eff) (P : Nat → Prop) (w : World) (h : RdD effR P w A (markEffs k0 xs)) (h0 : 0 ≤ k0) (h1 : markEnd k0 xs ≤ 576460752303423488) :
    Calls Tryz.prog 38 #[.slice A xs.length c, .int .i64 k0] w fun e w' => e = .returned (.int .i64 (markEnd k0 xs)) ∧ w = w' := by
  have hxl : (xs.length : Int) ≤ 576460752303423488 := by rw [markEnd_eq] at h1; omega
  go_enter Tryz.func38, Tryz.ntmps38
  go_wp2
  go_loop [1, 5] (fun kk i => ∃ (k : Nat) (z : Int), k ≤ xs.length ∧ i = .int .i64 k ∧ kk = .int .i64 z ∧ Hid (z = markEnd k0 (xs.take k))) (fun _ i => xs.length - (intOf i).toNat)
  case atStart => exact ⟨0, k0, Nat.zero_le _, rfl, rfl, hide rfl⟩
  case round =>
    obtain ⟨k, z, hk, rfl, rfl, HZ⟩ := hrel
    by_cases hlt : k < xs.length
    · have hltm : k < (markEffs k0 xs).length := by rw [markEffs_len]; exact hlt
      obtain ⟨b, off, A1, e1, A2, e2, rfl, hbP, hbb, d0, d1, d2, -, -, q1, q2⟩ := h.eff hltm
      rw [markEffs_at k0 xs k hlt, ← unhide HZ] at d0 d1 d2 q1 q2
      simp only [markEff1, markEnt_length] at d0 d1 d2 q1 q2
      have HSN := hide (markEffs_snoc k0 (xs.take k) xs[k])
      have hzb : 0 ≤ z ∧ z + 1 + 2 * (xs[k].reads.length : Int) + 2 * (xs[k].writes.length : Int) ≤ 576460752303423488 := by
        have e1 := unhide HZ
        have e2 : effTot (xs.take k) + (xs[k].reads.length + xs[k].writes.length) ≤ effTot xs := by
          have e3 : xs = xs.take k ++ xs[k] :: xs.drop (k + 1) := by rw [← drop_get xs k hlt, List.take_append_drop]
          have e4 := congrArg effTot e3
          rw [effTot_append, effTot] at e4
          omega
        rw [markEnd_eq] at e1 h1
        rw [List.length_take] at e1
        omega
      have HTK := hide (List.take_succ_eq_append_getElem hlt)
      generalize xs[k] = x at *
      have i1 : (k : Int) < (xs.length : Int) := by omega
      have HZN := hide (show z + 1 + (x.reads.length : Int) * 2 + (x.writes.length : Int) * 2 = markEnd k0 (xs.take (k + 1)) by rw [unhide HTK, (unhide HSN).2, ← unhide HZ, markNext])
      have i2 : ¬ z + 1 + (x.reads.length : Int) * 2 < 0 := by omega
      have i3 : ¬ z + 1 + (x.reads.length : Int) * 2 + (x.writes.length : Int) * 2 < 0 := by omega
      clear hltm
      go_wp2_with fail
      refine (heldEntryS_any A1 e1 x.reads.length (z + 1) w q1.rd (by omega) (by omega) (by omega)).mono ?_
      rintro e w' ⟨rfl, rfl⟩
      go_wp2_with fail
      refine (heldEntryS_any A2 e2 x.writes.length (z + 1 + (x.reads.length : Int) * 2) w q2.rd (by omega) (by omega) (by omega)).mono ?_
      rintro e w' ⟨rfl, rfl⟩
      go_wp2
      go_round
      case rel => exact ⟨k + 1, _, by omega, by go_num, rfl, HZN⟩
      case measure => simp [intOf]; omega
    · obtain rfl : k = xs.length := by omega
      rw [List.take_length] at HZ
      go_wp2
      go_ret
      exact ⟨reti (unhide HZ), rfl⟩
end Go.Proofs.YtihlhejencninaaGreat
