/- Serial runs of the program: runAll, RunSerial, RunAction. -/
import Derived.Test.YtefdhlfljpppfaaActRun
import Derived.Test.YtefdhlfljpppfaaEffD
namespace Go.Proofs.Ytefdhlfljpppfaa
open Go.RowKit
set_option linter.unusedVariables false
set_option linter.unusedSimpArgs false
attribute [local go_sem ↓] Go.wp_at_zero Go.wp_at_succ

def runAllV : List Int → List Act → List Int
  | v, [] => v
  | v, a :: al => runAllV (setAll v (runV v a).writes) al
def runAllE : List Int → List Act → List Eff
  | _, [] => []
  | v, a :: al => runV v a :: runAllE (setAll v (runV v a).writes) al
theorem runAllV_snoc (v : List Int) (al : List Act) (a : Act) : runAllV v (al ++ [a]) = setAll (runAllV v al) (runV (runAllV v al) a).writes := by
  induction al generalizing v with
  | nil => rfl
  | cons b al ih => exact ih _
theorem runAllE_snoc (v : List Int) (al : List Act) (a : Act) : runAllE v (al ++ [a]) = runAllE v al ++ [runV (runAllV v al) a] := by
  induction al generalizing v with
  | nil => rfl
  | cons b al ih => rw [List.cons_append, runAllE, ih]; rfl
theorem runAllE_len (v : List Int) (al : List Act) : (runAllE v al).length = al.length := by
  induction al generalizing v with
  | nil => rfl
  | cons b al ih => rw [runAllE, List.length_cons, ih, List.length_cons]
/-- what is written is in bounds -/
theorem runV_writes {v : List Int} {a : Act} (hv : valOk v) (ha : actB a = true) : ∀ e ∈ (runV v a).writes, (0 ≤ e.k ∧ e.k ≤ 31) ∧ 0 ≤ e.v ∧ e.v ≤ 1000000 := by
  intro e he
  obtain ⟨hs, hd, hm, hk⟩ := actB_bd ha
  have hkk := actK_kind hk
  have hx := atV_bd hv a.src
  have hy := atV_bd hv a.dst
  cases hdn : actDone a (atV v a.src) (atV v a.dst)
  · rw [runV_no hdn] at he; cases he
  · rw [runV_yes hdn] at he
    obtain ⟨k, hkm, rfl⟩ := List.mem_map.1 he
    have hkey : 0 ≤ k ∧ k ≤ 31 := by
      rcases actWrites_mem hkm with rfl | rfl
      · exact hs
      · exact hd
    refine ⟨hkey, ?_⟩
    simp only
    unfold actDone at hdn
    unfold wAt
    generalize atV v a.src = x at *
    generalize atV v a.dst = y at *
    rcases hkk with h | h | h | h | h | h
    · rw [if_pos h]; exact hm
    · rw [if_neg (by omega), if_pos h]; omega
    · rw [if_neg (by omega), if_neg (by omega), if_pos h]; exact hx
    · rw [if_neg (by omega), if_neg (by omega), if_neg (by omega), if_pos h]
      split <;> assumption
    · rw [if_pos h, decide_eq_true_eq] at hdn
      rw [if_neg (by omega), if_neg (by omega), if_neg (by omega), if_neg (by omega), if_pos h]
      omega
    · rw [if_neg (by omega), if_pos h, Bool.and_eq_true, Bool.or_eq_true, decide_eq_true_eq, decide_eq_true_eq, decide_eq_true_eq] at hdn
      rw [if_neg (by omega), if_neg (by omega), if_neg (by omega), if_neg (by omega), if_neg (by omega)]
      split
      · exact hx
      · rename_i hne
        split
        · omega
        · have := hdn.2
          omega
theorem valOk_setAll {v : List Int} (hv : valOk v) {es : List Ent} (h : ∀ e ∈ es, (0 ≤ e.k ∧ e.k ≤ 31) ∧ 0 ≤ e.v ∧ e.v ≤ 1000000) : valOk (setAll v es) := by
  induction es generalizing v with
  | nil => exact hv
  | cons e es ih =>
    have h1 := h e (by simp)
    exact ih (valOk_set hv h1.1.1 h1.2.1 h1.2.2) fun x hx => h x (by simp [hx])
theorem valOk_runAll {v : List Int} (hv : valOk v) {al : List Act} (ha : ∀ a ∈ al, actB a = true) : valOk (runAllV v al) := by
  induction al generalizing v with
  | nil => exact hv
  | cons a al ih => exact ih (valOk_setAll hv (runV_writes hv (ha a (by simp)))) fun x hx => ha x (by simp [hx])
theorem runV_len (v : List Int) (a : Act) : (runV v a).reads.length ≤ 2 ∧ (runV v a).writes.length ≤ 2 := by
  constructor
  · rw [runV_reads, List.length_map]; exact actReads_len a
  · cases h : actDone a (atV v a.src) (atV v a.dst)
    · rw [runV_no h]; simp
    · rw [runV_yes h, List.length_map]; exact actWrites_len a
theorem runAllE_small (v : List Int) (al : List Act) : ∀ x ∈ runAllE v al, x.reads.length ≤ 2 ∧ x.writes.length ≤ 2 := by
  induction al generalizing v with
  | nil => intro x hx; cases hx
  | cons a al ih =>
    intro x hx
    rcases List.mem_cons.1 hx with rfl | hx
    · exact runV_len v a
    · exact ih _ x hx
theorem results_cell_tmp {P : Program} {fn : Func} {p q : Tmp} {ty : TypeId} (h : fn.results = #[.cell p ty, .tmp q]) (tmps : Array Value) (w : World) (g : Nat) (t : TypeId) (cs : Array Value) (fr : Nat × Nat) (d : TypeDesc)
    (hp : tmps.getD p undef = .pointer (some ⟨g, 0, none⟩)) (hg : w.heap[g]? = some (.cells cs t fr))
    (hu : P.underlying ty = some d) (hd : (match d with | .struct _ | .array _ _ => true | _ => false) = true) (hi : (P.info? ty).map (·.size) = some cs.size) :
    (results fn tmps).run P w = .ok (.tuple #[.agg cs, tmps.getD q undef]) w := by
  have hp' : tmps[p]?.getD undef = .pointer (some ⟨g, 0, none⟩) := by simpa using hp
  simp [results, h, hp', asAddr, run_loadVar_row w g t ty cs fr d hg hu hd hi]
theorem one_effs (x : Eff) (A1 : Option Addr) (c1 : Nat) (A2 : Option Addr) (c2 : Nat) : ∀ u ∈ effV x A1 c1 A2 c2, u.oneCell' = true := by
  intro u hu
  simp [effV] at hu
  rcases hu with rfl | rfl | rfl <;> rfl
end Go.Proofs.Ytefdhlfljpppfaa
