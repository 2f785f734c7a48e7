/- From the form's reading of entries to this claim's words. -/
import Derived.Test.YtkbbhbgjanfcoaaOpen
import Derived.Test.YtkbbhbgjanfcoaaEnt
namespace Go.Proofs.Ytkbbhbgjanfcoaa
open Go.RowKit Go.ChangeShapes Go.WideShapes Go.Deep
set_option linter.unusedVariables false
set_option linter.unusedSimpArgs false

def Ent.wf (e : Ent) : Prop := (Lit.int .i64 e.k).wf = true ∧ (Lit.int .i64 e.v).wf = true
theorem cellsOf_ent : Try.prog.cellsOf 52 = 2 := by kernel_rfl
theorem open_ent {H : Type} {enc : TypeId × Value → H} {w : World} {base : Nat} {spare : Nat → Bool} {held : Bool} (n : Nat) (cs : List Value) (x : DataW H × List MemPlace) (h : DataW.trod enc Try.prog w base spare held n 52 cs = some x) :
    ∃ e : Ent, cs = encE e ∧ e.wf := by
  obtain ⟨xs, n', _, _, hlen, hxl, hf⟩ := DataW.trod_struct Try.underlying52 h
  have hx2 : xs.length = 2 := hxl
  rw [cellsOf_ent] at hlen
  match cs, hlen with
  | [c0, c1], _ =>
    have hc : Try.prog.cellsOf 3 = 1 := by kernel_rfl
    have h0 := hf 0 _ rfl
    have h1 := hf 1 _ rfl
    have e0 : ∃ y, xs[0]? = some y := ⟨_, List.getElem?_eq_getElem (by omega)⟩
    have e1 : ∃ y, xs[1]? = some y := ⟨_, List.getElem?_eq_getElem (by omega)⟩
    obtain ⟨y0, e0⟩ := e0
    obtain ⟨y1, e1⟩ := e1
    rw [e0] at h0
    rw [e1] at h1
    obtain ⟨a, ha, _, wa⟩ := DataW.trod_int Try.underlying3 h0
    obtain ⟨b, hb, _, wb⟩ := DataW.trod_int Try.underlying3 h1
    simp [hc] at ha hb
    subst ha
    subst hb
    exact ⟨⟨a, b⟩, rfl, wa, wb⟩
end Go.Proofs.Ytkbbhbgjanfcoaa
