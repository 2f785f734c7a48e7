/- From the form's reading of Entry to this claim's words. -/
import Derived.Test.YtihlhejencninaaGreatOpen
import Derived.Test.YtihlhejencninaaGreatGint
namespace Go.Proofs.YtihlhejencninaaGreat
open Go.RowKit Go.ChangeShapes Go.WideShapes Go.Deep
set_option linter.unusedVariables false
set_option linter.unusedSimpArgs false

def Ent.wf (e : Ent) : Prop := (Lit.int .i64 e.k).wf = true ∧ (Lit.int .i64 e.v).wf = true
theorem cellsOf_ent : Tryz.prog.cellsOf 81 = 2 := by kernel_rfl
set_option maxRecDepth 100000 in
theorem open_ent {H : Type} {enc : TypeId × Value → H} {w : World} {base : Nat} {spare : Nat → Bool} {held : Bool} (n : Nat) (cs : List Value) (x : DataW H × List MemPlace) (h : DataW.trod enc Tryz.prog w base spare held n 81 cs = some x) :
    ∃ e : Ent, cs = encE e ∧ e.wf := by
  obtain ⟨xs, n', _, _, hlen, hxl, hf⟩ := DataW.trod_struct Tryz.underlying81 h
  have hx2 : xs.length = 2 := hxl
  rw [cellsOf_ent] at hlen
  match cs, hlen with
  | [c0, c1], _ =>
    have hc : Tryz.prog.cellsOf 3 = 1 := by kernel_rfl
    have h0 := hf 0 _ rfl
    obtain ⟨y0, e0⟩ : ∃ y, xs[0]? = some y := ⟨_, List.getElem?_eq_getElem (by omega)⟩
    rw [e0] at h0
    obtain ⟨a0, q0, _, w0⟩ := DataW.trod_int Tryz.underlying3 h0
    simp [hc] at q0
    subst q0
    have h1 := hf 1 _ rfl
    obtain ⟨y1, e1⟩ : ∃ y, xs[1]? = some y := ⟨_, List.getElem?_eq_getElem (by omega)⟩
    rw [e1] at h1
    obtain ⟨a1, q1, _, w1⟩ := DataW.trod_int Tryz.underlying3 h1
    simp [hc] at q1
    subst q1
    exact ⟨⟨a0, a1⟩, rfl, w0, w1⟩
end Go.Proofs.YtihlhejencninaaGreat
