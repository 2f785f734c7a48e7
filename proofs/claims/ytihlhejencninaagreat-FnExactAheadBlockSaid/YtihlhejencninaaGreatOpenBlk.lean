/- From the form's reading of blocks and answers to this claim's words. -/
import Derived.Test.YtihlhejencninaaGreatOpen
import Derived.Test.YtihlhejencninaaGreatOpenAction
import Derived.Test.YtihlhejencninaaGreatGeff
namespace Go.Proofs.YtihlhejencninaaGreat
open Go.RowKit Go.ChangeShapes Go.WideShapes Go.Deep
set_option linter.unusedVariables false
set_option linter.unusedSimpArgs false

theorem open_one {H : Type} {enc : TypeId × Value → H} {w : World} {base : Nat} {spare : Nat → Bool} {held : Bool} (n : Nat) (cs : List Value) (x : DataW H × List MemPlace) (h : DataW.trod enc Tryz.prog w base spare held n 3 cs = some x) :
    ∃ z : Int, cs = [.int .i64 z] ∧ (Lit.int .i64 z).wf = true := by
  obtain ⟨a0, q0, _, w0⟩ := DataW.trod_int Tryz.underlying3 h
  exact ⟨a0, q0, w0⟩
theorem flat_ints (xs : List Int) : xs.flatMap (fun z => [Value.int .i64 z]) = xs.map (.int .i64) := by induction xs <;> simp_all
theorem open_ints_ {H : Type} {enc : TypeId × Value → H} {w : World} {base : Nat} {spare : Nat → Bool} {held : Bool} {n : Nat} {cs : List Value} {x : DataW H × List MemPlace} (h : DataW.trod enc Tryz.prog w base spare held n 26 cs = some x) :
    ∃ (A : Option Addr) (c : Nat) (ys : List Int), cs = [.slice A ys.length c] ∧ Rd w A (ys.map (.int .i64)) ∧ ys.length ≤ maxLen := by
  obtain ⟨A, c, ys, h1, h2, _, h4⟩ := open_flat (fun z : Int => [Value.int .i64 z]) (fun z => (Lit.int .i64 z).wf = true) (s := 1) (fun _ => rfl) Tryz.underlying26 (by kernel_rfl) open_one h
  rw [flat_ints] at h2
  exact ⟨A, c, ys, h1, h2, h4⟩
theorem cellsOf_blk : Tryz.prog.cellsOf 24 = 6 := by kernel_rfl
set_option maxRecDepth 100000 in
theorem open_blk {H : Type} {enc : TypeId × Value → H} {w : World} {base : Nat} {spare : Nat → Bool} {held : Bool} (n : Nat) (cs : List Value) (x : DataW H × List MemPlace) (h : DataW.trod enc Tryz.prog w base spare held n 24 cs = some x) :
    ∃ (e : Bk) (A : Option Addr) (c : Nat), cs = [.int .i64 e.before, .int .i64 e.height, .int .i64 e.view, .slice A e.list.length c, .int .i64 e.root, .int .i64 e.eff] ∧ Rd w A (e.list.flatMap encA) ∧ e.list.length ≤ maxLen := by
  obtain ⟨xs, n', _, _, hlen, hxl, hf⟩ := DataW.trod_struct Tryz.underlying24 h
  have hx2 : xs.length = 6 := hxl
  rw [cellsOf_blk] at hlen
  have hc : Tryz.prog.cellsOf 3 = 1 := by kernel_rfl
  have hcs : Tryz.prog.cellsOf 22 = 1 := by kernel_rfl
  match cs, hlen with
  | [c0, c1, c2, c3, c4, c5], _ =>
    have h0 := hf 0 _ rfl
    obtain ⟨y0, e0⟩ : ∃ y, xs[0]? = some y := ⟨_, List.getElem?_eq_getElem (by omega)⟩
    rw [e0] at h0
    obtain ⟨a0, q0, _, w0⟩ := DataW.trod_int Tryz.underlying3 h0
    simp [hc, hcs] at q0
    subst q0
    have h1 := hf 1 _ rfl
    obtain ⟨y1, e1⟩ : ∃ y, xs[1]? = some y := ⟨_, List.getElem?_eq_getElem (by omega)⟩
    rw [e1] at h1
    obtain ⟨a1, q1, _, w1⟩ := DataW.trod_int Tryz.underlying3 h1
    simp [hc, hcs] at q1
    subst q1
    have h2 := hf 2 _ rfl
    obtain ⟨y2, e2⟩ : ∃ y, xs[2]? = some y := ⟨_, List.getElem?_eq_getElem (by omega)⟩
    rw [e2] at h2
    obtain ⟨a2, q2, _, w2⟩ := DataW.trod_int Tryz.underlying3 h2
    simp [hc, hcs] at q2
    subst q2
    have h4 := hf 4 _ rfl
    obtain ⟨y4, e4⟩ : ∃ y, xs[4]? = some y := ⟨_, List.getElem?_eq_getElem (by omega)⟩
    rw [e4] at h4
    obtain ⟨a4, q4, _, w4⟩ := DataW.trod_int Tryz.underlying3 h4
    simp [hc, hcs] at q4
    subst q4
    have h5 := hf 5 _ rfl
    obtain ⟨y5, e5⟩ : ∃ y, xs[5]? = some y := ⟨_, List.getElem?_eq_getElem (by omega)⟩
    rw [e5] at h5
    obtain ⟨a5, q5, _, w5⟩ := DataW.trod_int Tryz.underlying3 h5
    simp [hc, hcs] at q5
    subst q5
    have h3 := hf 3 _ rfl
    obtain ⟨y3, e3⟩ : ∃ y, xs[3]? = some y := ⟨_, List.getElem?_eq_getElem (by omega)⟩
    rw [e3] at h3
    obtain ⟨A, c, ys, q3, r3, _, m3⟩ := open_flat encA Act.wf encA_len Tryz.underlying22 cellsOf_act open_act h3
    simp [hc, hcs] at q3
    subst q3
    exact ⟨⟨a0, a1, a2, ys, a4, a5⟩, A, c, rfl, r3, m3⟩
end Go.Proofs.YtihlhejencninaaGreat
