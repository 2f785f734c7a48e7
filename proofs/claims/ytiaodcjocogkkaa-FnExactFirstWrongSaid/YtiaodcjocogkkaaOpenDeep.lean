/- From the form's reading of slices whose elements hold slices to this claim's words. -/
import Derived.Test.YtiaodcjocogkkaaOpen
import Derived.Test.YtiaodcjocogkkaaDeep
namespace Go.Proofs.Ytiaodcjocogkkaa
open Go.RowKit Go.ChangeShapes Go.WideShapes Go.Deep
set_option linter.unusedVariables false
set_option linter.unusedSimpArgs false

section
variable {H : Type} {enc : TypeId × Value → H} {P : Program} {w : World} {base : Nat} {spare : Nat → Bool} {held : Bool}
theorem open_deep {α : Type} {R : Rel α} {s : Nat} {t e : TypeId} {fuel : Nat} {cs : List Value} {x : DataW H × List MemPlace} (G : Good R s) (hs : 0 < s) (ht : P.underlying t = some (.slice e)) (hC : P.cellsOf e = s)
    (hel : ∀ n cs' x', DataW.trod enc P w base spare held n e cs' = some x' → ∃ y, R (fun _ => True) y w cs') (h : DataW.trod enc P w base spare held fuel t cs = some x) :
    ∃ (A : Option Addr) (c : Nat) (ys : List α), cs = [.slice A ys.length c] ∧ (ys.length ≤ c ∧ c ≤ maxLen) ∧ RdD R (fun _ => True) w A ys := by
  rcases open_slice ht h with ⟨rfl, _⟩ | ⟨a, len, cap, m, n, D, Pl, rfl, hb, hl, hm, hmm, hx, hi⟩
  · exact ⟨none, 0, [], rfl, ⟨Nat.le_refl _, by simp [maxLen]⟩, RdD.nil _ _ _ _⟩
  · have hlm : len ≤ m := by rw [hmm]; split <;> omega
    obtain ⟨ps, hps, hp⟩ := exists_list len (fun i (p : α × List Value) => R (fun _ => True) p.1 w p.2 ∧ ∀ j u, p.2[j]? = some u → w.cell? (a.add (i * s + j)) = some u) (fun i hil => by
      obtain ⟨cs', hc, ht'⟩ := hi i (by omega)
      rw [hC] at hc
      obtain ⟨y, hy⟩ := hel _ _ _ ht'
      refine ⟨(y, cs'), hy, fun j u hu => ?_⟩
      obtain ⟨_, hcl, hat⟩ := World.cells?_some hc
      have hj : j < s := by rw [← G.len hy]; exact (List.getElem?_eq_some_iff.1 hu).1
      rw [← Go.Deep.add_add, hat j hj, hu])
    have hall : AllR R (fun _ => True) w (ps.map Prod.fst) (ps.map Prod.snd) := AllR.of_get (by simp) fun k hk hv => by
      have := (hp k (by simpa using hk)).1
      simpa using this
    refine ⟨some a, cap, ps.map Prod.fst, by simp [hps], ⟨by simp [hps]; exact hl, hm⟩, _, hall, RdP.of_rd (rd_of_cells fun i u hu => ?_) fun _ _ _ => trivial⟩
    have hil : i < (ps.map Prod.fst).length * s := by rw [← hall.flat_len G]; exact (List.getElem?_eq_some_iff.1 hu).1
    have hq : i / s < ps.length := by
      have := Nat.div_lt_of_lt_mul (by rw [Nat.mul_comm]; exact hil)
      simpa using this
    have hg := hall.flat_get G (k := i / s) (by simpa using hq) (Nat.mod_lt i hs)
    rw [Nat.div_add_mod' i s, hu] at hg
    have := (hp (i / s) hq).2 (i % s) u (by rw [hg]; simp)
    rwa [Nat.div_add_mod' i s] at this
/-- a slice of flat things, with its capacity -/
theorem open_flatP {α : Type} {t e : TypeId} {fuel s : Nat} {cs : List Value} {x : DataW H × List MemPlace} (f : α → List Value) (Q : α → Prop) (hf : ∀ y, (f y).length = s) (ht : P.underlying t = some (.slice e)) (hC : P.cellsOf e = s)
    (hel : ∀ n cs' x', DataW.trod enc P w base spare held n e cs' = some x' → ∃ y, cs' = f y ∧ Q y) (h : DataW.trod enc P w base spare held fuel t cs = some x) :
    ∃ (A : Option Addr) (c : Nat) (ys : List α), cs = [.slice A ys.length c] ∧ (ys.length ≤ c ∧ c ≤ maxLen) ∧ RdP (fun _ => True) w A (ys.flatMap f) ∧ (∀ y ∈ ys, Q y) := by
  obtain ⟨A, c, ys, h1, h2, h3, h4⟩ := open_flat f Q hf ht hC hel h
  refine ⟨A, c, ys, h1, ?_, RdP.of_rd h2 fun _ _ _ => trivial, h3⟩
  rcases open_slice ht h with ⟨h5, _⟩ | ⟨a, len, cap, m, n, D, Pl, h5, hb, hl, hm, hmm, hx, hi⟩
  · rw [h1] at h5
    injection h5 with h5
    injection h5 with _ q2 q3
    exact ⟨by omega, by rw [q3]; simp [maxLen]⟩
  · rw [h1] at h5
    injection h5 with h5
    injection h5 with _ q2 q3
    exact ⟨by omega, by rw [q3]; exact hm⟩
end
end Go.Proofs.Ytiaodcjocogkkaa
