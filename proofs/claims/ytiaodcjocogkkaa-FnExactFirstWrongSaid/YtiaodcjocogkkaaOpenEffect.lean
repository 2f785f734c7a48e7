/- From the form's reading of effects to this claim's words. -/
import Derived.Test.YtiaodcjocogkkaaOpenDeep
import Derived.Test.YtiaodcjocogkkaaOpenEntry
import Derived.Test.YtiaodcjocogkkaaEffS
namespace Go.Proofs.Ytiaodcjocogkkaa
open Go.RowKit Go.ChangeShapes Go.WideShapes Go.Deep
set_option linter.unusedVariables false
set_option linter.unusedSimpArgs false

theorem cellsOf_eff : Try.prog.cellsOf 78 = 3 := by kernel_rfl
set_option maxRecDepth 100000 in
theorem open_eff {H : Type} {enc : TypeId × Value → H} {w : World} {base : Nat} {spare : Nat → Bool} {held : Bool} (n : Nat) (cs : List Value) (x : DataW H × List MemPlace) (h : DataW.trod enc Try.prog w base spare held n 78 cs = some x) :
    ∃ e : Eff, effR (fun _ => True) e w cs := by
  obtain ⟨xs, n', _, _, hlen, hxl, hf⟩ := DataW.trod_struct Try.underlying78 h
  have hx2 : xs.length = 3 := hxl
  rw [cellsOf_eff] at hlen
  have hc : Try.prog.cellsOf 4 = 1 := by kernel_rfl
  have hcs : Try.prog.cellsOf 22 = 1 := by kernel_rfl
  match cs, hlen with
  | [c0, c1, c2], _ =>
    have h0 := hf 0 _ rfl
    obtain ⟨y0, e0⟩ : ∃ y, xs[0]? = some y := ⟨_, List.getElem?_eq_getElem (by omega)⟩
    rw [e0] at h0
    obtain ⟨a0, q0, _⟩ := DataW.trod_bool Try.underlying4 h0
    simp [hc, hcs] at q0
    subst q0
    have h1 := hf 1 _ rfl
    obtain ⟨y1, e1⟩ : ∃ y, xs[1]? = some y := ⟨_, List.getElem?_eq_getElem (by omega)⟩
    rw [e1] at h1
    obtain ⟨A1, d1, ys1, q1, m1, r1, _⟩ := open_flatP encE Ent.wf encE_len Try.underlying22 cellsOf_ent open_ent h1
    simp [hc, hcs] at q1
    subst q1
    have h2 := hf 2 _ rfl
    obtain ⟨y2, e2⟩ : ∃ y, xs[2]? = some y := ⟨_, List.getElem?_eq_getElem (by omega)⟩
    rw [e2] at h2
    obtain ⟨A2, d2, ys2, q2, m2, r2, _⟩ := open_flatP encE Ent.wf encE_len Try.underlying22 cellsOf_ent open_ent h2
    simp [hc, hcs] at q2
    subst q2
    exact ⟨⟨a0, ys1, ys2⟩, A1, d1, A2, d2, rfl, m1, m2, r1, r2⟩
end Go.Proofs.Ytiaodcjocogkkaa
