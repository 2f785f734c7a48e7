/- Wasted tries, of the program (printed by gen_in.py from xwasteI.in). -/
import Derived.Test.YtihlhejencninaaGreatAhead
namespace Go.Proofs.YtihlhejencninaaGreat
open Go.RowKit
set_option linter.unusedVariables false
set_option linter.unusedSimpArgs false

/-- how many tries more than actions -/
def wasteN (s : List Ent) (al : List Act) (ms : List Int) : Int := if aheadOk s al ms = true then trsF (engF s al ms) - (al.length : Int) else -1
theorem waste_cases (s : List Ent) (al : List Act) (ms : List Int) : (aheadT s al ms = -1 ∧ wasteN s al ms = -1) ∨ (0 ≤ aheadT s al ms ∧ wasteN s al ms = aheadT s al ms - (al.length : Int) ∧ aheadT s al ms ≤ 100000 ∧ al.length ≤ 10) := by
  cases h : aheadOk s al ms
  · left
    unfold aheadT wasteN
    rw [h]
    simp
  · right
    unfold aheadT wasteN
    rw [if_pos h, if_pos h]
    unfold aheadOk at h
    simp only [Bool.and_eq_true, decide_eq_true_eq] at h
    have := trs_le h.1 h.2.1 h.2.2
    exact ⟨this.1, rfl, this.2, (actsB_yes h.2.1).1⟩
set_option maxHeartbeats 1000000 in
theorem wastedTries_impl (A : Option Addr) (c : Nat) (s : List Ent) (B : Option Addr) (cb : Nat) (al : List Act) (M : Option Addr) (cm : Nat) (ms : List Int) (w : World) (ha : Rd w A (s.flatMap encE)) (hla : s.length ≤ 4611686018427387904) (hb : Rd w B (al.flatMap encA)) (hlb : al.length ≤ 4611686018427387904) (hm : Rd w M (ms.map (.int .i64))) (hlm : ms.length ≤ 4611686018427387904) :
    Calls Tryz.prog 26 #[.slice A s.length c, .slice B al.length cb, .slice M ms.length cm] w fun x w' => x = .returned (.int .i64 (wasteN s al ms)) ∧ Below w.heap.size w w' := by
  have KR := runAhead_impl A c s B cb al M cm ms w ha hla hb hlb hm hlm
  rcases waste_cases s al ms with ⟨h1, h2⟩ | ⟨h1, h2, h3, h4⟩
  · have i1 : aheadT s al ms < 0 := by omega
    have HH := hide h2
    clear h1 h2
    go_enter Tryz.func26, Tryz.ntmps26
    go_wp2_with fail
    refine KR.mono ?_
    rintro x w1 ⟨A1, d1, A2, d2, fp, rfl, -, -, -, -, b1⟩
    go_wp2
    go_ret
    exact ⟨reti (unhide HH).symm, b1⟩
  · have i1 : ¬ aheadT s al ms < 0 := by omega
    have HH := hide h2
    go_enter Tryz.func26, Tryz.ntmps26
    go_wp2_with fail
    refine KR.mono ?_
    rintro x w1 ⟨A1, d1, A2, d2, fp, rfl, -, -, -, -, b1⟩
    go_wp2
    go_ret
    exact ⟨reti (unhide HH).symm, b1⟩
end Go.Proofs.YtihlhejencninaaGreat
