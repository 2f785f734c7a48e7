/- FnExactAnswerRight: for every input the law returns true, and each argument reads afterwards as it read before. No conditions. This text is the step from the walk to the given statement. -/
import Derived.Test.YtiaodcjocogkkaaRows
import Derived.Test.YtiaodcjocogkkaaLawsT
import Derived.Test.YtiaodcjocogkkaaOpenBlk
import Derived.Test.YtiaodcjocogkkaaOpen
import Derived.WalkKit
import Derived.ProofKit
import Derived.OpenShut
import Derived.ShutString
import Derived.ChangeOld
import Derived.Below
namespace Go.Proofs.Ytiaodcjocogkkaa.fnExactAnswerRight
open Go.ChangeShapes Go.WideShapes Go.ChangeAt Go.RowKit
set_option linter.unusedVariables false

theorem own : ownKnob Try.prog.godebug = none := by kernel_rfl
theorem laidOut : laidOutB Try.prog = true := by kernel_rfl

set_option maxRecDepth 100000 in
theorem lifted (os : Os) (started : os.Started) (H : Type) (enc : TypeId × Value → H) :
    ReturnsInHanded {} Try.checked os 6 .any (Rows.fnExactAnswerRightSpec.pre6 enc Try.prog Try.f6 Rows.fnExactAnswerRightRow.domain false) (Rows.fnExactAnswerRightSpec.post enc Try.prog Try.f6 false true false false) := by
  refine returnsInHanded_of_change (C := Try.checked) own started (by kernel_rfl) Try.func6
    (ChangeSpec.witness6 (enc := enc) (C := Try.checked) false ⟨#[], #[.agg #[.int .i64 0, .int .i64 0, .int .i64 0, .slice none 0 0, .int .i64 0, .int .i64 0], .agg #[.int .i64 0, .int .i64 0, .slice none 0 0]], []⟩ 8 (by kernel_rfl) (by kernel_rfl) (by kernel_rfl) (by kernel_rfl)) ?_
  intro W base args ds gs before hval0 hW hcnd _
  have hval : ∀ (j : Nat) t v, Try.f6.params[j]? = some t → args[j]? = some v → Value.okWide Try.prog W .any base t v := hval0
  have hW' := hW
  obtain ⟨p, q, hA0, hV, rfl, hfz, hnd⟩ := hW
  have hA : DataW.TrodAll enc Try.prog W 0 (fun _ => true) true Try.f6.params.toList args.toList ds p := hA0
  rw [Try.params6] at hA hval
  obtain ⟨v0, vs0, d0, ds0, p0, q0, hargs, rfl, rfl, h0, r0⟩ := trodAll_cons hA
  obtain ⟨v1, vs1, d1, ds1, p1, q1, rfl, rfl, rfl, h1, r1⟩ := trodAll_cons r0
  obtain ⟨rfl, rfl, rfl⟩ := trodAll_nil r1
  obtain rfl : args = #[v0, v1] := by cases args; simp_all
  obtain ⟨rfl, rfl⟩ := trodVars_none hV
  obtain ⟨cs0, rfl, hsz0⟩ := okWide_struct Try.underlying45 (hval 0 45 v0 rfl rfl)
  have k0 := h0
  have lt0 : ∀ x ∈ p0, x.block < W.heap.size := by obtain ⟨m, hm⟩ := k0; exact DataW.trod_lt m _ _ _ hm
  obtain ⟨z0, A0, c0, hz0, hr0, hm0⟩ : ∃ (x : Bk) (A : Option Addr) (c : Nat), cs0 = #[.int .i64 x.before, .int .i64 x.height, .int .i64 x.view, .slice A x.list.length c, .int .i64 x.root, .int .i64 x.eff] ∧ Rd W A (x.list.flatMap encA) ∧ x.list.length ≤ maxLen := by
    obtain ⟨fuel, hf⟩ := h0
    obtain ⟨x, A, c, he, hq⟩ := open_blk _ _ _ hf
    exact ⟨x, A, c, by have h2 := congrArg List.toArray he; simpa [Value.cells] using h2, hq⟩
  subst hz0
  obtain ⟨cs1, rfl, hsz1⟩ := okWide_struct Try.underlying48 (hval 1 48 v1 rfl rfl)
  have k1 := h1
  have lt1 : ∀ x ∈ p1, x.block < W.heap.size := by obtain ⟨m, hm⟩ := k1; exact DataW.trod_lt m _ _ _ hm
  obtain ⟨z1, A1, c1, hz1, hr1, hm1⟩ : ∃ (x : Ans) (A : Option Addr) (c : Nat), cs1 = #[.int .i64 x.key, .int .i64 x.value, .slice A x.proof.length c] ∧ Rd W A (x.proof.map (.int .i64)) ∧ x.proof.length ≤ maxLen := by
    obtain ⟨fuel, hf⟩ := h1
    obtain ⟨x, A, c, he, hq⟩ := open_ans _ _ _ hf
    exact ⟨x, A, c, by have h2 := congrArg List.toArray he; simpa [Value.cells] using h2, hq⟩
  subst hz1
  clear hA0 hval0
  refine (law_FnExactAnswerRight z0 A0 c0 z1 A1 c1 W hr0 hm0 hr1 hm1).mono fun e W' ⟨he, bel⟩ => ?_
  subst he
  exact ⟨_, rfl, _, _, _, [], _, [], hW', trodAll_mk1 (shut_bool Try.underlying4 _), (trodAll_cons_mk (Below.trod laidOut (by kernel_rfl) (of_decide_eq_true (by kernel_rfl)) k0 bel lt0) (trodAll_cons_mk (Below.trod laidOut (by kernel_rfl) (of_decide_eq_true (by kernel_rfl)) k1 bel lt1) trodAll_mk0)), rfl, bel.frame _, fun h => by cases h⟩

theorem over : Rows.fnExactAnswerRightRow.holds Try.pinned (OpenSpec.ofChange Rows.fnExactAnswerRightSpec) :=
  OpenClaim.holds_of_wide 6 Try.f6 rfl rfl rfl rfl rfl rfl rfl ⟨rfl, rfl, rfl, rfl, rfl⟩ rfl rfl rfl rfl rfl (by kernel_rfl) Try.func6 (by kernel_rfl)
    (of_decide_eq_true (by kernel_rfl)) (by unfold Func.isWrapper; first | (rw [if_pos (by decide +kernel)]; kernel_rfl) | (rw [if_neg (by decide +kernel)]; exact ⟨rfl, rfl⟩))
    (fun os started H enc _ => lifted os started H enc)

/-- the given statement -/
theorem proved : Rows.FnExactAnswerRightSaid := over
#print axioms proved
end Go.Proofs.Ytiaodcjocogkkaa.fnExactAnswerRight
