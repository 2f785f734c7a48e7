/- sameStore of the laws. -/
import Derived.Test.YtmpdopjailomlaaGreatEnt
import Derived.Test.YtmpdopjailomlaaGreatRdr
import Derived.Laws.StructEq
namespace Go.Proofs.YtmpdopjailomlaaGreat
open Go.RowKit
set_option linter.unusedVariables false
set_option linter.unusedSimpArgs false

theorem hm_ent : Tryz.prog.eqGuardType Tryz.prog.depth 99 = false := by kernel_rfl
theorem hs_ent : Tryz.prog.stoodInHeld 99 = false := by kernel_rfl
theorem hS_ent : Tryz.prog.underlying 99 = some (.struct (Tryz.prog.fieldsOf 99)) := by kernel_rfl
theorem eqIn_ent (a b : Ent) (w : World) : (Op.equalIn 10000 99 (.agg #[.int .i64 a.k, .int .i64 a.v]) (.agg #[.int .i64 b.k, .int .i64 b.v])).run Tryz.prog w = .ok (decide (a = b)) w := by
  have h3 : Tryz.prog.underlying 3 = some (.int .i64) := Tryz.underlying3
  rw [show (10000 : Nat) = 9998 + 2 from rfl, run_equalIn_agg w _ _ _ _ hS_ent hs_ent]
  simp only [Program.fieldsOf, Tryz.underlying99]
  obtain ⟨a1, a2⟩ := a
  obtain ⟨b1, b2⟩ := b
  simp [go_sem, h3]
  by_cases h1 : a1 = b1 <;> by_cases h2 : a2 = b2 <;> simp [h1, h2]
end Go.Proofs.YtmpdopjailomlaaGreat
