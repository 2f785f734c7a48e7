/- sameStore of the laws. -/
import Derived.Test.YtefdhlfljpppfaaEnt
import Derived.Test.YtefdhlfljpppfaaRdr
import Derived.Laws.StructEq
namespace Go.Proofs.Ytefdhlfljpppfaa
open Go.RowKit
set_option linter.unusedVariables false
set_option linter.unusedSimpArgs false

theorem hm_ent : Try.prog.eqGuardType Try.prog.depth 76 = false := by kernel_rfl
theorem hs_ent : Try.prog.stoodInHeld 76 = false := by kernel_rfl
theorem hS_ent : Try.prog.underlying 76 = some (.struct (Try.prog.fieldsOf 76)) := by kernel_rfl
theorem eqIn_ent (a b : Ent) (w : World) : (Op.equalIn 10000 76 (.agg #[.int .i64 a.k, .int .i64 a.v]) (.agg #[.int .i64 b.k, .int .i64 b.v])).run Try.prog w = .ok (decide (a = b)) w := by
  have h3 : Try.prog.underlying 3 = some (.int .i64) := Try.underlying3
  rw [show (10000 : Nat) = 9998 + 2 from rfl, run_equalIn_agg w _ _ _ _ hS_ent hs_ent]
  simp only [Program.fieldsOf, Try.underlying76]
  obtain ⟨a1, a2⟩ := a
  obtain ⟨b1, b2⟩ := b
  simp [go_sem, h3]
  by_cases h1 : a1 = b1 <;> by_cases h2 : a2 = b2 <;> simp [h1, h2]
end Go.Proofs.Ytefdhlfljpppfaa
