/- Serial runs of the program: RunSerial, RunAction; effects compared; FirstWrong. -/
import Derived.Test.YtefdhlfljpppfaaRunAll
import Derived.Test.YtefdhlfljpppfaaSameS
namespace Go.Proofs.Ytefdhlfljpppfaa
open Go.RowKit
set_option linter.unusedVariables false
set_option linter.unusedSimpArgs false
attribute [local go_sem ↓] Go.wp_at_zero Go.wp_at_succ

def serialS (s : List Ent) (al : List Act) : List Ent := if storeB s = true ∧ actsB al = true then storeL (runAllV (valsL s) al) else []
def serialE (s : List Ent) (al : List Act) : List Eff := if storeB s = true ∧ actsB al = true then runAllE (valsL s) al else []
theorem serialE_small (s : List Ent) (al : List Act) : ∀ x ∈ serialE s al, x.reads.length ≤ 2 ∧ x.writes.length ≤ 2 := by
  unfold serialE
  split
  · exact runAllE_small _ _
  · intro x hx; cases hx
theorem serialE_len (s : List Ent) (al : List Act) : (serialE s al).length ≤ 10 := by
  unfold serialE
  split
  · rename_i h
    rw [runAllE_len]
    exact (actsB_yes h.2).1
  · simp
theorem serialS_len (s : List Ent) (al : List Act) : (serialS s al).length ≤ 32 := by
  unfold serialS
  split
  · exact storeL_len _
  · simp
theorem acts_all {al : List Act} (h : actsB al = true) : ∀ a ∈ al, actB a = true := fun a ha => by
  obtain ⟨k, hk, rfl⟩ := List.getElem_of_mem ha
  exact (actsB_yes h).2 k hk
/-- the first effect that is not right -/
def fwGo : Nat → List Eff → List Eff → Nat
  | n, x :: xs, y :: ys => if x = y then fwGo (n + 1) xs ys else n
  | n, _, _ => n
def firstW (s : List Ent) (al : List Act) (es : List Eff) : Int := if storeB s = true ∧ actsB al = true ∧ es.length = al.length then (fwGo 0 es (serialE s al) : Int) else -1
theorem fwGo_hit {es ws : List Eff} (n k : Nat) (hk : k < es.length) (hw : k < ws.length) (h : ∀ j (h1 : j < es.length) (h2 : j < ws.length), j < k → es[j] = ws[j]) (hne : es[k] ≠ ws[k]) : fwGo n es ws = n + k := by
  induction k generalizing n es ws with
  | zero =>
    cases es with
    | nil => simp at hk
    | cons x xs => cases ws with | nil => simp at hw | cons y ys => rw [fwGo, if_neg (by simpa using hne)]; rfl
  | succ k ih =>
    cases es with
    | nil => simp at hk
    | cons x xs =>
      cases ws with
      | nil => simp at hw
      | cons y ys =>
        have h0 := h 0 (by simp) (by simp) (by omega)
        simp only [List.getElem_cons_zero] at h0
        rw [fwGo, if_pos h0, ih (n + 1) (by simpa using hk) (by simpa using hw) (fun j h1 h2 hj => by have := h (j + 1) (by simpa using h1) (by simpa using h2) (by omega); simpa using this) (by simpa using hne)]
        omega
theorem fwGo_all {es ws : List Eff} (n : Nat) (hl : es.length = ws.length) (h : ∀ j (h1 : j < es.length) (h2 : j < ws.length), es[j] = ws[j]) : fwGo n es ws = n + es.length := by
  induction es generalizing n ws with
  | nil => cases ws <;> rfl
  | cons x xs ih =>
    cases ws with
    | nil => simp at hl
    | cons y ys =>
      have h0 := h 0 (by simp) (by simp)
      simp only [List.getElem_cons_zero] at h0
      rw [fwGo, if_pos h0, ih (n + 1) (by simpa using hl) (fun j h1 h2 => by have := h (j + 1) (by simpa using h1) (by simpa using h2); simpa using this), List.length_cons]
      omega
end Go.Proofs.Ytefdhlfljpppfaa
