/- From the form's reading of Action to this claim's words. -/
import Derived.Test.YtihlhejencninaaGreatOpen
import Derived.Test.YtihlhejencninaaGreatGact
namespace Go.Proofs.YtihlhejencninaaGreat
open Go.RowKit Go.ChangeShapes Go.WideShapes Go.Deep
set_option linter.unusedVariables false
set_option linter.unusedSimpArgs false

def Act.wf (e : Act) : Prop := (Lit.int .i64 e.kind).wf = true ∧ (Lit.int .i64 e.src).wf = true ∧ (Lit.int .i64 e.dst).wf = true ∧ (Lit.int .i64 e.amt).wf = true
theorem cellsOf_act : Tryz.prog.cellsOf 90 = 4 := by kernel_rfl
set_option maxRecDepth 100000 in
theorem open_act {H : Type} {enc : TypeId × Value → H} {w : World} {base : Nat} {spare : Nat → Bool} {held : Bool} (n : Nat) (cs : List Value) (x : DataW H × List MemPlace) (h : DataW.trod enc Tryz.prog w base spare held n 90 cs = some x) :
    ∃ e : Act, cs = encA e ∧ e.wf := by
  obtain ⟨xs, n', _, _, hlen, hxl, hf⟩ := DataW.trod_struct Tryz.underlying90 h
  have hx2 : xs.length = 4 := hxl
  rw [cellsOf_act] at hlen
  match cs, hlen with
  | [c0, c1, c2, c3], _ =>
    have hc : Tryz.prog.cellsOf 3 = 1 := by kernel_rfl
    have h0 := hf 0 _ rfl
    obtain ⟨y0, e0⟩ : ∃ y, xs[0]? = some y := ⟨_, List.getElem?_eq_getElem (by omega)⟩
    rw [e0] at h0
    obtain ⟨a0, q0, _, w0⟩ := DataW.trod_int Tryz.underlying3 h0
    simp [hc] at q0
    subst q0
    have h1 := hf 1 _ rfl
    obtain ⟨y1, e1⟩ : ∃ y, xs[1]? = some y := ⟨_, List.getElem?_eq_getElem (by omega)⟩
    rw [e1] at h1
    obtain ⟨a1, q1, _, w1⟩ := DataW.trod_int Tryz.underlying3 h1
    simp [hc] at q1
    subst q1
    have h2 := hf 2 _ rfl
    obtain ⟨y2, e2⟩ : ∃ y, xs[2]? = some y := ⟨_, List.getElem?_eq_getElem (by omega)⟩
    rw [e2] at h2
    obtain ⟨a2, q2, _, w2⟩ := DataW.trod_int Tryz.underlying3 h2
    simp [hc] at q2
    subst q2
    have h3 := hf 3 _ rfl
    obtain ⟨y3, e3⟩ : ∃ y, xs[3]? = some y := ⟨_, List.getElem?_eq_getElem (by omega)⟩
    rw [e3] at h3
    obtain ⟨a3, q3, _, w3⟩ := DataW.trod_int Tryz.underlying3 h3
    simp [hc] at q3
    subst q3
    exact ⟨⟨a0, a1, a2, a3⟩, rfl, w0, w1, w2, w3⟩
end Go.Proofs.YtihlhejencninaaGreat
