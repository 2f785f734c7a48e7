/- From the form's reading of Wish to this claim's words. -/
import Derived.Test.YtcgheamckfodaaaOpen
import Derived.Test.YtcgheamckfodaaaFlatWish
import Derived.Test.YtcgheamckfodaaaOpenAction
namespace Go.Proofs.Ytcgheamckfodaaa
open Go.RowKit Go.ChangeShapes Go.WideShapes Go.Deep
set_option linter.unusedVariables false
set_option linter.unusedSimpArgs false

def Wsh.wf (e : Wsh) : Prop := (Lit.int .i64 e.kind).wf = true ∧ (Lit.int .i64 e.src).wf = true ∧ (Lit.int .i64 e.dst).wf = true ∧ (Lit.int .i64 e.amt).wf = true ∧ (Lit.int .i64 e.fee).wf = true ∧ (Lit.int .i64 e.who).wf = true
theorem cellsOf_wsh : Try.prog.cellsOf 57 = 6 := by kernel_rfl
set_option maxRecDepth 100000 in
theorem open_wsh {H : Type} {enc : TypeId × Value → H} {w : World} {base : Nat} {spare : Nat → Bool} {held : Bool} (n : Nat) (cs : List Value) (x : DataW H × List MemPlace) (h : DataW.trod enc Try.prog w base spare held n 57 cs = some x) :
    ∃ e : Wsh, cs = encW e ∧ e.wf := by
  obtain ⟨xs, n', _, _, hlen, hxl, hf⟩ := DataW.trod_struct Try.underlying57 h
  have hx2 : xs.length = 3 := hxl
  rw [cellsOf_wsh] at hlen
  match cs, hlen with
  | [c0, c1, c2, c3, c4, c5], _ =>
    have hc : Try.prog.cellsOf 3 = 1 := by kernel_rfl
    have hc4 : Try.prog.cellsOf 55 = 4 := by kernel_rfl
    have h0 := hf 0 _ rfl
    obtain ⟨y0, e0⟩ : ∃ y, xs[0]? = some y := ⟨_, List.getElem?_eq_getElem (by omega)⟩
    rw [e0] at h0
    obtain ⟨ac, qa, wa⟩ := open_act _ _ _ h0
    simp [hc4, encA] at qa
    obtain ⟨rfl, rfl, rfl, rfl⟩ := qa
    have h1 := hf 1 _ rfl
    obtain ⟨y1, e1⟩ : ∃ y, xs[1]? = some y := ⟨_, List.getElem?_eq_getElem (by omega)⟩
    rw [e1] at h1
    obtain ⟨a4, q4, _, w4⟩ := DataW.trod_int Try.underlying3 h1
    simp [hc, hc4] at q4
    subst q4
    have h2 := hf 2 _ rfl
    obtain ⟨y2, e2⟩ : ∃ y, xs[2]? = some y := ⟨_, List.getElem?_eq_getElem (by omega)⟩
    rw [e2] at h2
    obtain ⟨a5, q5, _, w5⟩ := DataW.trod_int Try.underlying3 h2
    simp [hc, hc4] at q5
    subst q5
    exact ⟨⟨ac.kind, ac.src, ac.dst, ac.amt, a4, a5⟩, rfl, wa.1, wa.2.1, wa.2.2.1, wa.2.2.2, w4, w5⟩
end Go.Proofs.Ytcgheamckfodaaa
