/- From the form's reading of Entry to this claim's words. From the form's reading of Action to this claim's words. From the form's reading of slices whose elements hold slices to this claim's words. From the form's reading of blocks and answers to this claim's words. From the form's reading of trees of blocks to this claim's words. -/
import Derived.Test.YtmpdopjailomlaaGreatOpen
import Derived.Test.YtmpdopjailomlaaGreatFlatEntry
import Derived.Test.YtmpdopjailomlaaGreatFlatAction
import Derived.Test.YtmpdopjailomlaaGreatDeep
import Derived.Test.YtmpdopjailomlaaGreatBlk
import Derived.Test.YtmpdopjailomlaaGreatBkS
import Derived.Test.YtmpdopjailomlaaGreatTr
namespace Go.Proofs.YtmpdopjailomlaaGreat
open Go.RowKit Go.ChangeShapes Go.WideShapes Go.Deep
set_option linter.unusedVariables false
set_option linter.unusedSimpArgs false

def Ent.wf (e : Ent) : Prop := (Lit.int .i64 e.k).wf = true ∧ (Lit.int .i64 e.v).wf = true
theorem cellsOf_ent : Tryz.prog.cellsOf 113 = 2 := by kernel_rfl
set_option maxRecDepth 100000 in
theorem open_ent {H : Type} {enc : TypeId × Value → H} {w : World} {base : Nat} {spare : Nat → Bool} {held : Bool} (n : Nat) (cs : List Value) (x : DataW H × List MemPlace) (h : DataW.trod enc Tryz.prog w base spare held n 113 cs = some x) :
    ∃ e : Ent, cs = encE e ∧ e.wf := by
  obtain ⟨xs, n', _, _, hlen, hxl, hf⟩ := DataW.trod_struct Tryz.underlying113 h
  have hx2 : xs.length = 2 := hxl
  rw [cellsOf_ent] at hlen
  match cs, hlen with
  | [c0, c1], _ =>
    have hc : Tryz.prog.cellsOf 3 = 1 := by kernel_rfl
    have h0 := hf 0 _ rfl
    obtain ⟨y0, e0⟩ : ∃ y, xs[0]? = some y := ⟨_, List.getElem?_eq_getElem (by omega)⟩
    rw [e0] at h0
    obtain ⟨a0, q0, _, w0⟩ := DataW.trod_int Tryz.underlying3 h0
    simp [hc] at q0
    subst q0
    have h1 := hf 1 _ rfl
    obtain ⟨y1, e1⟩ : ∃ y, xs[1]? = some y := ⟨_, List.getElem?_eq_getElem (by omega)⟩
    rw [e1] at h1
    obtain ⟨a1, q1, _, w1⟩ := DataW.trod_int Tryz.underlying3 h1
    simp [hc] at q1
    subst q1
    exact ⟨⟨a0, a1⟩, rfl, w0, w1⟩
end Go.Proofs.YtmpdopjailomlaaGreat
namespace Go.Proofs.YtmpdopjailomlaaGreat
open Go.RowKit Go.ChangeShapes Go.WideShapes Go.Deep
set_option linter.unusedVariables false
set_option linter.unusedSimpArgs false

def Act.wf (e : Act) : Prop := (Lit.int .i64 e.kind).wf = true ∧ (Lit.int .i64 e.src).wf = true ∧ (Lit.int .i64 e.dst).wf = true ∧ (Lit.int .i64 e.amt).wf = true
theorem cellsOf_act : Tryz.prog.cellsOf 161 = 4 := by kernel_rfl
set_option maxRecDepth 100000 in
theorem open_act {H : Type} {enc : TypeId × Value → H} {w : World} {base : Nat} {spare : Nat → Bool} {held : Bool} (n : Nat) (cs : List Value) (x : DataW H × List MemPlace) (h : DataW.trod enc Tryz.prog w base spare held n 161 cs = some x) :
    ∃ e : Act, cs = encA e ∧ e.wf := by
  obtain ⟨xs, n', _, _, hlen, hxl, hf⟩ := DataW.trod_struct Tryz.underlying161 h
  have hx2 : xs.length = 4 := hxl
  rw [cellsOf_act] at hlen
  match cs, hlen with
  | [c0, c1, c2, c3], _ =>
    have hc : Tryz.prog.cellsOf 3 = 1 := by kernel_rfl
    have h0 := hf 0 _ rfl
    obtain ⟨y0, e0⟩ : ∃ y, xs[0]? = some y := ⟨_, List.getElem?_eq_getElem (by omega)⟩
    rw [e0] at h0
    obtain ⟨a0, q0, _, w0⟩ := DataW.trod_int Tryz.underlying3 h0
    simp [hc] at q0
    subst q0
    have h1 := hf 1 _ rfl
    obtain ⟨y1, e1⟩ : ∃ y, xs[1]? = some y := ⟨_, List.getElem?_eq_getElem (by omega)⟩
    rw [e1] at h1
    obtain ⟨a1, q1, _, w1⟩ := DataW.trod_int Tryz.underlying3 h1
    simp [hc] at q1
    subst q1
    have h2 := hf 2 _ rfl
    obtain ⟨y2, e2⟩ : ∃ y, xs[2]? = some y := ⟨_, List.getElem?_eq_getElem (by omega)⟩
    rw [e2] at h2
    obtain ⟨a2, q2, _, w2⟩ := DataW.trod_int Tryz.underlying3 h2
    simp [hc] at q2
    subst q2
    have h3 := hf 3 _ rfl
    obtain ⟨y3, e3⟩ : ∃ y, xs[3]? = some y := ⟨_, List.getElem?_eq_getElem (by omega)⟩
    rw [e3] at h3
    obtain ⟨a3, q3, _, w3⟩ := DataW.trod_int Tryz.underlying3 h3
    simp [hc] at q3
    subst q3
    exact ⟨⟨a0, a1, a2, a3⟩, rfl, w0, w1, w2, w3⟩
end Go.Proofs.YtmpdopjailomlaaGreat
namespace Go.Proofs.YtmpdopjailomlaaGreat
open Go.RowKit Go.ChangeShapes Go.WideShapes Go.Deep
set_option linter.unusedVariables false
set_option linter.unusedSimpArgs false

section
variable {H : Type} {enc : TypeId × Value → H} {P : Program} {w : World} {base : Nat} {spare : Nat → Bool} {held : Bool}
theorem open_deep {α : Type} {R : Rel α} {s : Nat} {t e : TypeId} {fuel : Nat} {cs : List Value} {x : DataW H × List MemPlace} (G : Good R s) (hs : 0 < s) (ht : P.underlying t = some (.slice e)) (hC : P.cellsOf e = s)
    (hel : ∀ n cs' x', DataW.trod enc P w base spare held n e cs' = some x' → ∃ y, R (fun _ => True) y w cs') (h : DataW.trod enc P w base spare held fuel t cs = some x) :
    ∃ (A : Option Addr) (c : Nat) (ys : List α), cs = [.slice A ys.length c] ∧ (ys.length ≤ c ∧ c ≤ maxLen) ∧ RdD R (fun _ => True) w A ys := by
  rcases open_slice ht h with ⟨rfl, _⟩ | ⟨a, len, cap, m, n, D, Pl, rfl, hb, hl, hm, hmm, hx, hi⟩
  · exact ⟨none, 0, [], rfl, ⟨Nat.le_refl _, by simp [maxLen]⟩, RdD.nil _ _ _ _⟩
  · have hlm : len ≤ m := by rw [hmm]; split <;> omega
    obtain ⟨ps, hps, hp⟩ := exists_list len (fun i (p : α × List Value) => R (fun _ => True) p.1 w p.2 ∧ ∀ j u, p.2[j]? = some u → w.cell? (a.add (i * s + j)) = some u) (fun i hil => by
      obtain ⟨cs', hc, ht'⟩ := hi i (by omega)
      rw [hC] at hc
      obtain ⟨y, hy⟩ := hel _ _ _ ht'
      refine ⟨(y, cs'), hy, fun j u hu => ?_⟩
      obtain ⟨_, hcl, hat⟩ := World.cells?_some hc
      have hj : j < s := by rw [← G.len hy]; exact (List.getElem?_eq_some_iff.1 hu).1
      rw [← Go.Deep.add_add, hat j hj, hu])
    have hall : AllR R (fun _ => True) w (ps.map Prod.fst) (ps.map Prod.snd) := AllR.of_get (by simp) fun k hk hv => by
      have := (hp k (by simpa using hk)).1
      simpa using this
    refine ⟨some a, cap, ps.map Prod.fst, by simp [hps], ⟨by simp [hps]; exact hl, hm⟩, _, hall, RdP.of_rd (rd_of_cells fun i u hu => ?_) fun _ _ _ => trivial⟩
    have hil : i < (ps.map Prod.fst).length * s := by rw [← hall.flat_len G]; exact (List.getElem?_eq_some_iff.1 hu).1
    have hq : i / s < ps.length := by
      have := Nat.div_lt_of_lt_mul (by rw [Nat.mul_comm]; exact hil)
      simpa using this
    have hg := hall.flat_get G (k := i / s) (by simpa using hq) (Nat.mod_lt i hs)
    rw [Nat.div_add_mod' i s, hu] at hg
    have := (hp (i / s) hq).2 (i % s) u (by rw [hg]; simp)
    rwa [Nat.div_add_mod' i s] at this
/-- a slice of flat things, with its capacity -/
theorem open_flatP {α : Type} {t e : TypeId} {fuel s : Nat} {cs : List Value} {x : DataW H × List MemPlace} (f : α → List Value) (Q : α → Prop) (hf : ∀ y, (f y).length = s) (ht : P.underlying t = some (.slice e)) (hC : P.cellsOf e = s)
    (hel : ∀ n cs' x', DataW.trod enc P w base spare held n e cs' = some x' → ∃ y, cs' = f y ∧ Q y) (h : DataW.trod enc P w base spare held fuel t cs = some x) :
    ∃ (A : Option Addr) (c : Nat) (ys : List α), cs = [.slice A ys.length c] ∧ (ys.length ≤ c ∧ c ≤ maxLen) ∧ RdP (fun _ => True) w A (ys.flatMap f) ∧ (∀ y ∈ ys, Q y) := by
  obtain ⟨A, c, ys, h1, h2, h3, h4⟩ := open_flat f Q hf ht hC hel h
  refine ⟨A, c, ys, h1, ?_, RdP.of_rd h2 fun _ _ _ => trivial, h3⟩
  rcases open_slice ht h with ⟨h5, _⟩ | ⟨a, len, cap, m, n, D, Pl, h5, hb, hl, hm, hmm, hx, hi⟩
  · rw [h1] at h5
    injection h5 with h5
    injection h5 with _ q2 q3
    exact ⟨by omega, by rw [q3]; simp [maxLen]⟩
  · rw [h1] at h5
    injection h5 with h5
    injection h5 with _ q2 q3
    exact ⟨by omega, by rw [q3]; exact hm⟩
end
end Go.Proofs.YtmpdopjailomlaaGreat
namespace Go.Proofs.YtmpdopjailomlaaGreat
open Go.RowKit Go.ChangeShapes Go.WideShapes Go.Deep
set_option linter.unusedVariables false
set_option linter.unusedSimpArgs false

theorem open_one {H : Type} {enc : TypeId × Value → H} {w : World} {base : Nat} {spare : Nat → Bool} {held : Bool} (n : Nat) (cs : List Value) (x : DataW H × List MemPlace) (h : DataW.trod enc Tryz.prog w base spare held n 3 cs = some x) :
    ∃ z : Int, cs = [.int .i64 z] ∧ (Lit.int .i64 z).wf = true := by
  obtain ⟨a0, q0, _, w0⟩ := DataW.trod_int Tryz.underlying3 h
  exact ⟨a0, q0, w0⟩
theorem flat_ints (xs : List Int) : xs.flatMap (fun z => [Value.int .i64 z]) = xs.map (.int .i64) := by induction xs <;> simp_all
theorem open_ints_ {H : Type} {enc : TypeId × Value → H} {w : World} {base : Nat} {spare : Nat → Bool} {held : Bool} {n : Nat} {cs : List Value} {x : DataW H × List MemPlace} (h : DataW.trod enc Tryz.prog w base spare held n 24 cs = some x) :
    ∃ (A : Option Addr) (c : Nat) (ys : List Int), cs = [.slice A ys.length c] ∧ Rd w A (ys.map (.int .i64)) ∧ ys.length ≤ maxLen := by
  obtain ⟨A, c, ys, h1, h2, _, h4⟩ := open_flat (fun z : Int => [Value.int .i64 z]) (fun z => (Lit.int .i64 z).wf = true) (s := 1) (fun _ => rfl) Tryz.underlying24 (by kernel_rfl) open_one h
  rw [flat_ints] at h2
  exact ⟨A, c, ys, h1, h2, h4⟩
theorem cellsOf_blk : Tryz.prog.cellsOf 105 = 6 := by kernel_rfl
set_option maxRecDepth 100000 in
theorem open_blk {H : Type} {enc : TypeId × Value → H} {w : World} {base : Nat} {spare : Nat → Bool} {held : Bool} (n : Nat) (cs : List Value) (x : DataW H × List MemPlace) (h : DataW.trod enc Tryz.prog w base spare held n 105 cs = some x) :
    ∃ (e : Bk) (A : Option Addr) (c : Nat), cs = [.int .i64 e.before, .int .i64 e.height, .int .i64 e.view, .slice A e.list.length c, .int .i64 e.root, .int .i64 e.eff] ∧ Rd w A (e.list.flatMap encA) ∧ e.list.length ≤ maxLen := by
  obtain ⟨xs, n', _, _, hlen, hxl, hf⟩ := DataW.trod_struct Tryz.underlying105 h
  have hx2 : xs.length = 6 := hxl
  rw [cellsOf_blk] at hlen
  have hc : Tryz.prog.cellsOf 3 = 1 := by kernel_rfl
  have hcs : Tryz.prog.cellsOf 103 = 1 := by kernel_rfl
  match cs, hlen with
  | [c0, c1, c2, c3, c4, c5], _ =>
    have h0 := hf 0 _ rfl
    obtain ⟨y0, e0⟩ : ∃ y, xs[0]? = some y := ⟨_, List.getElem?_eq_getElem (by omega)⟩
    rw [e0] at h0
    obtain ⟨a0, q0, _, w0⟩ := DataW.trod_int Tryz.underlying3 h0
    simp [hc, hcs] at q0
    subst q0
    have h1 := hf 1 _ rfl
    obtain ⟨y1, e1⟩ : ∃ y, xs[1]? = some y := ⟨_, List.getElem?_eq_getElem (by omega)⟩
    rw [e1] at h1
    obtain ⟨a1, q1, _, w1⟩ := DataW.trod_int Tryz.underlying3 h1
    simp [hc, hcs] at q1
    subst q1
    have h2 := hf 2 _ rfl
    obtain ⟨y2, e2⟩ : ∃ y, xs[2]? = some y := ⟨_, List.getElem?_eq_getElem (by omega)⟩
    rw [e2] at h2
    obtain ⟨a2, q2, _, w2⟩ := DataW.trod_int Tryz.underlying3 h2
    simp [hc, hcs] at q2
    subst q2
    have h4 := hf 4 _ rfl
    obtain ⟨y4, e4⟩ : ∃ y, xs[4]? = some y := ⟨_, List.getElem?_eq_getElem (by omega)⟩
    rw [e4] at h4
    obtain ⟨a4, q4, _, w4⟩ := DataW.trod_int Tryz.underlying3 h4
    simp [hc, hcs] at q4
    subst q4
    have h5 := hf 5 _ rfl
    obtain ⟨y5, e5⟩ : ∃ y, xs[5]? = some y := ⟨_, List.getElem?_eq_getElem (by omega)⟩
    rw [e5] at h5
    obtain ⟨a5, q5, _, w5⟩ := DataW.trod_int Tryz.underlying3 h5
    simp [hc, hcs] at q5
    subst q5
    have h3 := hf 3 _ rfl
    obtain ⟨y3, e3⟩ : ∃ y, xs[3]? = some y := ⟨_, List.getElem?_eq_getElem (by omega)⟩
    rw [e3] at h3
    obtain ⟨A, c, ys, q3, r3, _, m3⟩ := open_flat encA Act.wf encA_len Tryz.underlying103 cellsOf_act open_act h3
    simp [hc, hcs] at q3
    subst q3
    exact ⟨⟨a0, a1, a2, ys, a4, a5⟩, A, c, rfl, r3, m3⟩
end Go.Proofs.YtmpdopjailomlaaGreat
namespace Go.Proofs.YtmpdopjailomlaaGreat
open Go.RowKit Go.ChangeShapes Go.WideShapes Go.Deep
set_option linter.unusedVariables false
set_option linter.unusedSimpArgs false

set_option maxRecDepth 100000 in
theorem open_bkR {H : Type} {enc : TypeId × Value → H} {w : World} {base : Nat} {spare : Nat → Bool} {held : Bool} (n : Nat) (cs : List Value) (x : DataW H × List MemPlace) (h : DataW.trod enc Tryz.prog w base spare held n 105 cs = some x) :
    ∃ e : Bk, bkR (fun _ => True) e w cs := by
  obtain ⟨xs, n', _, _, hlen, hxl, hf⟩ := DataW.trod_struct Tryz.underlying105 h
  have hx2 : xs.length = 6 := hxl
  rw [cellsOf_blk] at hlen
  have hc : Tryz.prog.cellsOf 3 = 1 := by kernel_rfl
  have hcs : Tryz.prog.cellsOf 103 = 1 := by kernel_rfl
  match cs, hlen with
  | [c0, c1, c2, c3, c4, c5], _ =>
    have h0 := hf 0 _ rfl
    obtain ⟨y0, e0⟩ : ∃ y, xs[0]? = some y := ⟨_, List.getElem?_eq_getElem (by omega)⟩
    rw [e0] at h0
    obtain ⟨a0, q0, _, w0⟩ := DataW.trod_int Tryz.underlying3 h0
    simp [hc, hcs] at q0
    subst q0
    have h1 := hf 1 _ rfl
    obtain ⟨y1, e1⟩ : ∃ y, xs[1]? = some y := ⟨_, List.getElem?_eq_getElem (by omega)⟩
    rw [e1] at h1
    obtain ⟨a1, q1, _, w1⟩ := DataW.trod_int Tryz.underlying3 h1
    simp [hc, hcs] at q1
    subst q1
    have h2 := hf 2 _ rfl
    obtain ⟨y2, e2⟩ : ∃ y, xs[2]? = some y := ⟨_, List.getElem?_eq_getElem (by omega)⟩
    rw [e2] at h2
    obtain ⟨a2, q2, _, w2⟩ := DataW.trod_int Tryz.underlying3 h2
    simp [hc, hcs] at q2
    subst q2
    have h4 := hf 4 _ rfl
    obtain ⟨y4, e4⟩ : ∃ y, xs[4]? = some y := ⟨_, List.getElem?_eq_getElem (by omega)⟩
    rw [e4] at h4
    obtain ⟨a4, q4, _, w4⟩ := DataW.trod_int Tryz.underlying3 h4
    simp [hc, hcs] at q4
    subst q4
    have h5 := hf 5 _ rfl
    obtain ⟨y5, e5⟩ : ∃ y, xs[5]? = some y := ⟨_, List.getElem?_eq_getElem (by omega)⟩
    rw [e5] at h5
    obtain ⟨a5, q5, _, w5⟩ := DataW.trod_int Tryz.underlying3 h5
    simp [hc, hcs] at q5
    subst q5
    have h3 := hf 3 _ rfl
    obtain ⟨y3, e3⟩ : ∃ y, xs[3]? = some y := ⟨_, List.getElem?_eq_getElem (by omega)⟩
    rw [e3] at h3
    obtain ⟨A, c, ys, q3, m3, r3, _⟩ := open_flatP encA Act.wf encA_len Tryz.underlying103 cellsOf_act open_act h3
    simp [hc, hcs] at q3
    subst q3
    exact ⟨⟨a0, a1, a2, ys, a4, a5⟩, A, c, rfl, m3, r3⟩
theorem cellsOf_tr : Tryz.prog.cellsOf 26 = 3 := by kernel_rfl
set_option maxRecDepth 100000 in
theorem open_tree {H : Type} {enc : TypeId × Value → H} {w : World} {base : Nat} {spare : Nat → Bool} {held : Bool} (n : Nat) (cs : List Value) (x : DataW H × List MemPlace) (h : DataW.trod enc Tryz.prog w base spare held n 26 cs = some x) :
    ∃ (e : Tr) (A1 : Option Addr) (c1 : Nat) (A2 : Option Addr) (c2 : Nat) (A3 : Option Addr) (c3 : Nat), cs = [.slice A1 e.base.length c1, .slice A2 e.blocks.length c2, .slice A3 e.before.length c3] ∧ TrR w e A1 A2 A3 ∧ (e.base.length ≤ maxLen ∧ e.blocks.length ≤ maxLen ∧ e.before.length ≤ maxLen) := by
  obtain ⟨xs, n', _, _, hlen, hxl, hf⟩ := DataW.trod_struct Tryz.underlying26 h
  have hx2 : xs.length = 3 := hxl
  rw [cellsOf_tr] at hlen
  have hc1 : Tryz.prog.cellsOf 22 = 1 := by kernel_rfl
  have hc2 : Tryz.prog.cellsOf 23 = 1 := by kernel_rfl
  have hc3 : Tryz.prog.cellsOf 24 = 1 := by kernel_rfl
  match cs, hlen with
  | [c0, c1, c2], _ =>
    have h1 := hf 0 _ rfl
    obtain ⟨y1, e1⟩ : ∃ y, xs[0]? = some y := ⟨_, List.getElem?_eq_getElem (by omega)⟩
    rw [e1] at h1
    obtain ⟨A1, d1, ys1, q1, m1, r1, _⟩ := open_flatP encE Ent.wf encE_len Tryz.underlying22 cellsOf_ent open_ent h1
    simp [hc1] at q1
    subst q1
    have h2 := hf 1 _ rfl
    obtain ⟨y2, e2⟩ : ∃ y, xs[1]? = some y := ⟨_, List.getElem?_eq_getElem (by omega)⟩
    rw [e2] at h2
    obtain ⟨A2, d2, ys2, q2, m2, r2⟩ := open_deep bk_good (by omega) Tryz.underlying23 cellsOf_blk open_bkR h2
    simp [hc1, hc2] at q2
    subst q2
    have h3 := hf 2 _ rfl
    obtain ⟨y3, e3⟩ : ∃ y, xs[2]? = some y := ⟨_, List.getElem?_eq_getElem (by omega)⟩
    rw [e3] at h3
    obtain ⟨A3, d3, ys3, q3, r3, m3⟩ := open_ints_ h3
    simp [hc1, hc2, hc3] at q3
    subst q3
    exact ⟨⟨ys1, ys2, ys3⟩, A1, d1, A2, d2, A3, d3, rfl, ⟨r1.rd, r2, r3⟩, Nat.le_trans m1.1 m1.2, Nat.le_trans m2.1 m2.2, m3⟩
end Go.Proofs.YtmpdopjailomlaaGreat
