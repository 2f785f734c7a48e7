/- The law FnRunAhead. -/
import Derived.Test.YtihlhejencninaaGreatDrawSc
import Derived.Test.YtihlhejencninaaGreatSameE
import Derived.Test.YtihlhejencninaaGreatGact
import Derived.Test.YtihlhejencninaaGreatAheadS
namespace Go.Proofs.YtihlhejencninaaGreat
open Go.RowKit
set_option linter.unusedVariables false
set_option linter.unusedSimpArgs false

theorem aheadOk_yes {s : List Ent} {al : List Act} {ms : List Int} (h : aheadOk s al ms = true) : storeB s = true ∧ actsB al = true ∧ ms.length ≤ 200 := by
  unfold aheadOk at h
  simp only [Bool.and_eq_true, decide_eq_true_eq] at h
  exact h
theorem aheadS_len (s : List Ent) (al : List Act) (ms : List Int) : (aheadS s al ms).length ≤ 32 := by
  unfold aheadS
  split
  · exact serialS_len _ _
  · simp
theorem aheadE_len (s : List Ent) (al : List Act) (ms : List Int) : (aheadE s al ms).length ≤ 10 := by
  unfold aheadE
  split
  · exact serialE_len _ _
  · simp
theorem aheadE_small (s : List Ent) (al : List Act) (ms : List Int) : ∀ x ∈ aheadE s al ms, x.reads.length ≤ 2 ∧ x.writes.length ≤ 2 := by
  unfold aheadE
  split
  · exact serialE_small _ _
  · intro x hx; cases hx
set_option maxRecDepth 100000 in
set_option maxHeartbeats 8000000 in
theorem law_FnRunAhead (A : Option Addr) (c : Nat) (bs : List Int) (w : World) (h : Rd w A (bs.map (.int .u8))) (hw : ∀ b ∈ bs, 0 ≤ b ∧ b ≤ 255) (hc : bs.length ≤ c) (hm : c ≤ maxLen) :
    Calls Tryz.prog 8 #[.slice A bs.length c] w fun e w' => e = .returned (.bool true) ∧ Below w.heap.size w w' := by
  have hm2 : bs.length ≤ 9223372036854775807 := by simp only [maxLen] at hm; omega
  by_cases hl : (1048576 : Int) < (bs.length : Int)
  · clear hw
    go_enter Tryz.func8, Tryz.ntmps8
    go_wp2
    go_ret
    exact ⟨rfl, Below.refl _ _⟩
  have HW := hide hw
  have HC := hide hc
  have HM := hide hm
  clear hw hc hm
  go_enter Tryz.func8, Tryz.ntmps8
  go_wp2_with fail
  refine (DrawRunAhead_any A c bs w h (unhide HW) (unhide HC) (unhide HM)).mono ?_
  rintro e w1 ⟨A1, c1, s, B, cb, al, M, cm, ms, hl1, hl2, hl3, rfl, r1, r2, r3, hB⟩
  have HSL := hide (aheadS_len s al ms)
  have HEL := hide (aheadE_len s al ms)
  have HES := hide (fun x (hx : x ∈ aheadE s al ms) => show x.reads.length ≤ 4611686018427387904 ∧ x.writes.length ≤ 4611686018427387904 by have := aheadE_small s al ms x hx; omega)
  go_wp2_with fail
  refine (runAhead_impl A1 c1 s B cb al M cm ms w1 r1 (by omega) r2 (by omega) r3 (by omega)).mono ?_
  rintro e w2 ⟨A2, c2, B2, d2, fp, rfl, oS, oE, -, -, b2⟩
  have qS := own_rd oS
  have qE := oE.rd (P := fun _ => True) effO_good eff_good (fun _ _ => trivial)
  replace hB := bthen hB b2
  replace r1 := r1.new b2
  replace r2 := r2.new b2
  replace r3 := r3.new b2
  clear oS oE b2
  go_wp2_with fail
  refine (runAhead_spec A1 c1 s B cb al M cm ms w2 r1 (by omega) r2 (by omega) r3 (by omega)).mono ?_
  rintro e w3 ⟨A3, c3, B3, d3, rfl, pS, pE, b3⟩
  replace hB := bthen hB b3
  replace r1 := r1.new b3
  replace r2 := r2.new b3
  replace qS := qS.new b3
  replace qE := qE.new eff_good b3
  clear b3 r3
  go_wp2_with fail
  refine (sameStore_any A2 A3 c2 c3 _ _ w3 qS pS (by have := unhide HSL; omega)).mono ?_
  rintro e w' ⟨rfl, m, rfl⟩
  rw [show decide (aheadS s al ms = aheadS s al ms) = true by simp]
  replace hB := below_drewN hB m
  replace r1 := r1.drewN m
  replace r2 := r2.drewN m
  replace qS := qS.drewN m
  replace qE := qE.drewN eff_good m
  replace pE := pE.drewN eff_good m
  clear pS
  generalize w3.drewN m = w4 at *
  go_wp2_with fail
  refine (sameEffects_any B2 B3 d2 d3 _ _ w4 _ _ qE pE (by have := unhide HEL; omega) (unhide HES)).mono ?_
  rintro e w5 ⟨rfl, b5⟩
  rw [show decide (aheadE s al ms = aheadE s al ms) = true by simp]
  replace hB := bthen hB b5
  replace r1 := r1.new b5
  replace r2 := r2.new b5
  replace qS := qS.new b5
  replace qE := qE.new eff_good b5
  clear b5 pE w2 w3 w4
  have hne : (aheadT s al ms != aheadT s al ms) = false := by simp
  cases hok : aheadOk s al ms
  · obtain ⟨n1, n2, n3⟩ := ahead_no hok
    clear hok
    rw [n3] at hne ⊢
    rw [n1, n2]
    clear n1 n2 n3
    go_wp2_with fail
    refine (alive_any _).mono ?_
    rintro e w8 ⟨rfl, b8⟩
    go_wp2
    go_ret
    exact ⟨rfl, bthen hB b8⟩
  · obtain ⟨hs, ha, h200⟩ := aheadOk_yes hok
    have hT : aheadT s al ms = trsF (engF s al ms) := by unfold aheadT; rw [if_pos hok]
    have hS : aheadS s al ms = serialS s al := by unfold aheadS; rw [if_pos hok]
    have hE : aheadE s al ms = serialE s al := by unfold aheadE; rw [if_pos hok]
    have hge := trs_ge hs ha h200
    rw [← hT] at hge
    have i1 : ¬ aheadT s al ms < 0 := by omega
    have i2 : (al.length : Int) ≤ aheadT s al ms := hge
    rw [hE] at HEL HES qE
    rw [hS] at HSL qS
    rw [hS, hE]
    clear hok hT hS hE hge
    generalize aheadT s al ms = n at *
    go_wp2_with fail
    refine (runSerial_impl A1 c1 s B cb al w5 r1 (by omega) r2 (by omega)).mono ?_
    rintro e w6 ⟨A6, c6, A7, c7, rfl, o6, hc7, r7, b6⟩
    replace hB := bthen hB b6
    replace qS := qS.new b6
    replace qE := qE.new eff_good b6
    have r6 := own_rd o6
    clear o6 b6 hc7
    go_wp2_with fail
    refine (sameStore_any A2 A6 c2 c6 _ _ w6 qS r6 (by have := unhide HSL; omega)).mono ?_
    rintro e w' ⟨rfl, m, rfl⟩
    rw [show decide (serialS s al = serialS s al) = true by simp]
    replace hB := below_drewN hB m
    replace qE := qE.drewN eff_good m
    replace r7 := r7.drewN eff_good m
    generalize w6.drewN m = w7 at *
    go_wp2_with fail
    refine (sameEffects_any B2 A7 d2 c7 _ _ w7 _ _ qE r7 (by have := unhide HEL; omega) (unhide HES)).mono ?_
    rintro e w8 ⟨rfl, b8⟩
    rw [show decide (serialE s al = serialE s al) = true by simp]
    replace hB := bthen hB b8
    go_wp2
    go_ret
    exact ⟨rfl, hB⟩
end Go.Proofs.YtihlhejencninaaGreat
