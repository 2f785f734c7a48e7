/- What an action does: reads, writes, result, run of the program. -/
import Derived.Test.YtefdhlfljpppfaaMapR
import Derived.Test.YtefdhlfljpppfaaActS
import Derived.Test.YtefdhlfljpppfaaDiffs
import Derived.Test.YtefdhlfljpppfaaEffS
namespace Go.Proofs.Ytefdhlfljpppfaa
open Go.RowKit
set_option linter.unusedVariables false
set_option linter.unusedSimpArgs false
attribute [local go_sem ↓] Go.wp_at_zero Go.wp_at_succ

def actReads (a : Act) : List Int := if a.kind = 1 then [] else if a.kind = 3 ∨ a.kind = 6 ∨ a.src = a.dst then [a.src] else [a.src, a.dst]
def actWrites (a : Act) : List Int := if a.kind = 1 ∨ a.kind = 6 then [a.src] else if a.kind = 3 ∨ a.kind = 5 ∨ a.src = a.dst then [a.dst] else [min a.src a.dst, max a.src a.dst]
def actDone (a : Act) (x y : Int) : Bool := if a.kind = 5 then decide (x + y ≤ 1000000) else if a.kind = 2 then decide (a.amt ≤ x) && (decide (a.src = a.dst) || decide (y + a.amt ≤ 1000000)) else true
def wAt (a : Act) (x y : Int) (key : Int) : Int :=
  if a.kind = 1 then a.amt else if a.kind = 6 then max 0 (x - a.amt) else if a.kind = 3 then x else if a.kind = 4 then (if key = a.dst then x else y) else if a.kind = 5 then x + y
  else if a.src = a.dst then x else if key = a.src then x - a.amt else y + a.amt
def atV (v : List Int) (k : Int) : Int := v.getD k.toNat 0
/-- the effect of an action where its keys have x and y -/
def actEff (a : Act) (x y : Int) : Eff :=
  ⟨actDone a x y, (actReads a).map fun k => ⟨k, if k = a.src then x else y⟩, if actDone a x y = true then (actWrites a).map fun k => ⟨k, wAt a x y k⟩ else []⟩
def runV (v : List Int) (a : Act) : Eff := actEff a (atV v a.src) (atV v a.dst)
theorem actB_bd {a : Act} (h : actB a = true) : (0 ≤ a.src ∧ a.src ≤ 31) ∧ (0 ≤ a.dst ∧ a.dst ≤ 31) ∧ (0 ≤ a.amt ∧ a.amt ≤ 1000000) ∧ actK a = true := by
  unfold actB at h
  simp only [Bool.and_eq_true] at h
  exact ⟨inB_true.1 h.1, inB_true.1 h.2.1, inB_true.1 h.2.2.1, h.2.2.2⟩
theorem actK_kind {a : Act} (h : actK a = true) : a.kind = 1 ∨ a.kind = 6 ∨ a.kind = 3 ∨ a.kind = 4 ∨ a.kind = 5 ∨ a.kind = 2 := by
  unfold actK at h
  simp only [beq_iff_eq] at h
  split at h
  · exact .inl ‹_›
  · split at h
    · exact .inr (.inl ‹_›)
    · split at h
      · exact .inr (.inr (.inl ‹_›))
      · split at h
        · exact .inr (.inr (.inr (.inl ‹_›)))
        · split at h
          · exact .inr (.inr (.inr (.inr (.inl ‹_›))))
          · exact .inr (.inr (.inr (.inr (.inr (by simpa using h)))))
theorem actReads_len (a : Act) : (actReads a).length ≤ 2 := by unfold actReads; split; simp; split <;> simp
theorem actWrites_len (a : Act) : (actWrites a).length ≤ 2 := by unfold actWrites; split; simp; split <;> simp
theorem atV_bd {v : List Int} (hv : valOk v) (k : Int) : 0 ≤ atV v k ∧ atV v k ≤ 1000000 := hv.2 _
end Go.Proofs.Ytefdhlfljpppfaa
