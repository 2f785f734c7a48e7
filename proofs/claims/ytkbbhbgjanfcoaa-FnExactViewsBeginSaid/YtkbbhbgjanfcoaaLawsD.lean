/- The law FnExactViewsBegin. -/
import Derived.Test.YtkbbhbgjanfcoaaViews
namespace Go.Proofs.Ytkbbhbgjanfcoaa
open Go.RowKit
set_option linter.unusedVariables false
set_option linter.unusedSimpArgs false

theorem viewsF_len (first many : Int) : (viewsF first many).length ≤ 41 := by
  unfold viewsF
  split
  · rename_i h
    simp only [Bool.and_eq_true] at h
    have := inB_true.1 h.2
    rw [viewsN_length]
    omega
  · simp
theorem law_FnExactViewsBegin (first many : Int) (w : World) (h1 : -9223372036854775808 ≤ first) (h2 : first ≤ 9223372036854775807) (h3 : -9223372036854775808 ≤ many) (h4 : many ≤ 9223372036854775807) :
    Calls Try.prog 9 #[.int .i64 first, .int .i64 many] w fun e w' => e = .returned (.bool true) ∧ Below w.heap.size w w' := by
  have hlen := viewsF_len first many
  go_enter Try.func9, Try.ntmps9
  go_wp2_with fail
  refine (views_spec first many w).mono ?_
  rintro e w1 ⟨A1, c1, rfl, o1, b1⟩
  go_wp2_with fail
  refine (views_impl first many w1).mono ?_
  rintro e w2 ⟨A2, c2, rfl, o2, b2⟩
  generalize hv : viewsF first many = vs at *
  have HV := hide hv
  clear hv
  go_wp2_with fail
  refine (eqIntS_any A2 A1 c2 c1 vs vs w2 (own_rd o2) ((own_rd o1).new b2) (by omega)).mono ?_
  rintro e w' ⟨rfl, m, rfl⟩
  have o2' : (w2.drewN m).ownsRow w1.heap.size 3 1 (.slice A2 vs.length c2) vs.length (vs.map (.int .i64)) := o2
  go_wp2_with fail
  refine (markIntS_any A2 c2 _ 1 vs (w2.drewN m) o2' (by omega) (by omega) (by omega)).mono ?_
  rintro e w3 ⟨rfl, o3, ch3⟩
  have b3 : Below w1.heap.size (w2.drewN m) w3 := ch3.below (fun q hq hq2 => by have := own_block o2 q (by rw [hq2]; rfl); omega) b2.size
  have b13 : Below w1.heap.size w1 w3 := (below_drewN b2 m).trans b3
  have r1 := (own_rd o1).new b13
  go_wp2_with fail
  refine (heldIntS_any A2 c2 vs.length 1 w3 (own_rd o3) (by omega) (by omega) (by omega)).mono ?_
  rintro e w' ⟨rfl, rfl⟩
  have C4 := views_impl first many w3
  rw [unhide HV] at C4
  have C4' := hide C4
  clear C4
  go_wp2_with fail
  refine (unhide C4').mono ?_
  rintro e w4 ⟨A4, c4, rfl, o4, b4⟩
  go_wp2_with fail
  refine (eqIntS_any A4 A1 c4 c1 vs vs w4 (own_rd o4) (r1.new b4) (by omega)).mono ?_
  rintro e w' ⟨rfl, m2, rfl⟩
  go_wp2_with fail
  refine (heldIntS_any A2 c2 vs.length 1 _ (((own_rd o3).new b4).drewN m2) (by omega) (by omega) (by omega)).mono ?_
  rintro e w' ⟨rfl, rfl⟩
  go_wp2
  go_ret
  exact ⟨rfl, below_drewN (bthen (bthen b1 b13) b4) m2⟩
end Go.Proofs.Ytkbbhbgjanfcoaa
