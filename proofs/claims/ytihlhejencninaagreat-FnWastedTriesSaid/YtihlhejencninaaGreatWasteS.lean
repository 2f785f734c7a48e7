/- Wasted tries, of the reference (printed by gen_in.py from xwasteS.in). -/
import Derived.Test.YtihlhejencninaaGreatAheadS
import Derived.Test.YtihlhejencninaaGreatWasteI
namespace Go.Proofs.YtihlhejencninaaGreat
open Go.RowKit
set_option linter.unusedVariables false
set_option linter.unusedSimpArgs false

set_option maxHeartbeats 1000000 in
theorem wastedTries_spec (A : Option Addr) (c : Nat) (s : List Ent) (B : Option Addr) (cb : Nat) (al : List Act) (M : Option Addr) (cm : Nat) (ms : List Int) (w : World) (ha : Rd w A (s.flatMap encE)) (hla : s.length ≤ 4611686018427387904) (hb : Rd w B (al.flatMap encA)) (hlb : al.length ≤ 4611686018427387904) (hm : Rd w M (ms.map (.int .i64))) (hlm : ms.length ≤ 4611686018427387904) :
    Calls Tryz.prog 24 #[.slice A s.length c, .slice B al.length cb, .slice M ms.length cm] w fun x w' => x = .returned (.int .i64 (wasteN s al ms)) ∧ Below w.heap.size w w' := by
  have KR := runAhead_spec A c s B cb al M cm ms w ha hla hb hlb hm hlm
  rcases waste_cases s al ms with ⟨h1, h2⟩ | ⟨h1, h2, h3, h4⟩
  · have i1 : aheadT s al ms < 0 := by omega
    have HH := hide h2
    clear h1 h2
    go_enter Tryz.func24, Tryz.ntmps24
    go_wp2_with fail
    refine KR.mono ?_
    rintro x w1 ⟨A1, d1, A2, d2, rfl, -, -, b1⟩
    go_wp2
    go_ret
    exact ⟨reti (unhide HH).symm, b1⟩
  · have i1 : ¬ aheadT s al ms < 0 := by omega
    have HH := hide h2
    go_enter Tryz.func24, Tryz.ntmps24
    go_wp2_with fail
    refine KR.mono ?_
    rintro x w1 ⟨A1, d1, A2, d2, rfl, -, -, b1⟩
    go_wp2
    go_ret
    exact ⟨reti (unhide HH).symm, b1⟩
end Go.Proofs.YtihlhejencninaaGreat
