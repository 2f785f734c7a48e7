/- From the form's reading of an argument to this claim's words for memory. -/
import Derived.Test.YtihlhejencninaaGreatGmem
import Derived.ProofKit
import Derived.OpenShut
import Derived.ShutString
import Derived.ChangeOld
import Derived.Deep.Slices
import Derived.Deep.Fields
import Derived.ChangeSame
namespace Go.Proofs.YtihlhejencninaaGreat
open Go.RowKit
set_option linter.unusedVariables false
set_option linter.unusedSimpArgs false

theorem cell_spot {w : World} {a : Addr} {v : Value} (h : w.cell? a = some v) : a = ⟨a.block, a.off, none⟩ := by
  rcases a with ⟨b, o, s⟩
  cases s with
  | none => rfl
  | some s =>
    exfalso
    unfold World.cell? at h
    split at h
    · simp at h
    · cases h
theorem add_plain (b o i : Nat) : (⟨b, o, none⟩ : Addr).add i = ⟨b, o + i, none⟩ := by
  unfold Addr.add
  split
  · simp [*]
  · rfl
/-- a row of cells by Addr.add is a row by offsets -/
theorem rd_of_cells {w : World} {a : Addr} {xs : List Value} (h : ∀ i u, xs[i]? = some u → w.cell? (a.add i) = some u) : Rd w (some a) xs := fun h0 => by
  have hc0 := h 0 xs[0] (List.getElem?_eq_getElem h0)
  have ha0 : a.add 0 = a := by unfold Addr.add; simp
  rw [ha0] at hc0
  have ha := cell_spot hc0
  refine ⟨a.block, a.off, by rw [← ha], World.block_lt_of_cell? w a hc0, fun j u hu => ?_⟩
  have := h j u hu
  rw [ha, add_plain] at this
  exact this
theorem rd_ints {w : World} {k : IntKind} {a : Addr} {len : Nat} {zs : List Int} (hl : len ≤ zs.length) (hc : ∀ i, i < zs.length → w.cell? (a.add i) = some (.int k (zs.getD i 0))) (hw : ∀ n ∈ zs, (Lit.int k n).wf = true) :
    ∃ ys : List Int, ys.length = len ∧ Rd w (some a) (ys.map (Value.int k)) ∧ ∀ n ∈ ys, (Lit.int k n).wf = true := by
  refine ⟨zs.take len, by simp; omega, rd_of_cells fun i u hu => ?_, fun n hn => hw n (List.mem_of_mem_take hn)⟩
  rw [List.getElem?_map, Option.map_eq_some_iff] at hu
  obtain ⟨n, hn, rfl⟩ := hu
  rw [List.getElem?_take] at hn
  split at hn
  · obtain ⟨h1, rfl⟩ := List.getElem?_eq_some_iff.1 hn
    rw [hc i h1]
    simp [h1]
  · cases hn
theorem exists_list {α : Type} (m : Nat) (R : Nat → α → Prop) (h : ∀ i, i < m → ∃ x, R i x) : ∃ xs : List α, xs.length = m ∧ ∀ i (hi : i < xs.length), R i xs[i] := by
  induction m with
  | zero => exact ⟨[], rfl, fun i hi => absurd hi (by simp)⟩
  | succ m ih =>
    obtain ⟨xs, hl, hx⟩ := ih fun i hi => h i (by omega)
    obtain ⟨x, hm⟩ := h m (by omega)
    refine ⟨xs ++ [x], by simp [hl], fun i hi => ?_⟩
    rcases Nat.lt_or_ge i m with h1 | h1
    · rw [List.getElem_append_left (by omega)]
      exact hx i (by omega)
    · have : i = m := by simp [hl] at hi; omega
      subst this
      rw [List.getElem_append_right (by omega)]
      simpa [hl] using hm
section
open Go.ChangeShapes Go.WideShapes Go.Deep
variable {H : Type} {enc : TypeId × Value → H} {P : Program} {w : World} {base : Nat} {spare : Nat → Bool} {held : Bool}
/-- a slice of things whose cells are known by what they are -/
theorem open_flat {α : Type} {t e : TypeId} {fuel s : Nat} {cs : List Value} {x : DataW H × List MemPlace} (f : α → List Value) (Q : α → Prop) (hf : ∀ y, (f y).length = s) (ht : P.underlying t = some (.slice e)) (hC : P.cellsOf e = s)
    (hel : ∀ n cs' x', DataW.trod enc P w base spare held n e cs' = some x' → ∃ y, cs' = f y ∧ Q y) (h : DataW.trod enc P w base spare held fuel t cs = some x) :
    ∃ (A : Option Addr) (c : Nat) (ys : List α), cs = [.slice A ys.length c] ∧ Rd w A (ys.flatMap f) ∧ (∀ y ∈ ys, Q y) ∧ ys.length ≤ maxLen := by
  rcases open_slice ht h with ⟨rfl, _⟩ | ⟨a, len, cap, m, n, D, Pl, rfl, hb, hl, hm, hmm, hx, hi⟩
  · exact ⟨none, 0, [], rfl, Rd.nil _ _, by simp, by simp [maxLen]⟩
  · have hlm : len ≤ m := by rw [hmm]; split <;> omega
    obtain ⟨ys, hys, hy⟩ := exists_list len (fun i (y : α) => (∀ j u, (f y)[j]? = some u → w.cell? (a.add (i * s + j)) = some u) ∧ Q y) (fun i hil => by
      obtain ⟨cs', hc, ht'⟩ := hi i (by omega)
      rw [hC] at hc
      obtain ⟨y, rfl, hq⟩ := hel _ _ _ ht'
      refine ⟨y, fun j u hu => ?_, hq⟩
      obtain ⟨_, hcl, hat⟩ := World.cells?_some hc
      have hj : j < s := by rw [← hf y]; exact (List.getElem?_eq_some_iff.1 hu).1
      rw [← Go.Deep.add_add, hat j hj, hu])
    refine ⟨some a, cap, ys, by rw [hys], rd_of_cells fun i u hu => ?_, fun y hyy => ?_, by omega⟩
    · have hs0 : 0 < s := by
        rcases Nat.eq_zero_or_pos s with h0 | h0
        · subst h0
          have hl0 := (List.getElem?_eq_some_iff.1 hu).1
          rw [length_flat f 0 hf] at hl0
          omega
        · exact h0
      have hil : i < ys.length * s := by rw [← length_flat f s hf]; exact (List.getElem?_eq_some_iff.1 hu).1
      have hq : i / s < ys.length := Nat.div_lt_of_lt_mul (by rw [Nat.mul_comm]; exact hil)
      have hg := get_flat f s hf ys (i / s) hq (i % s) (Nat.mod_lt _ hs0)
      rw [Nat.div_add_mod' i s, hu] at hg
      have := (hy (i / s) hq).1 (i % s) u hg.symm
      rwa [Nat.div_add_mod' i s] at this
    · obtain ⟨i, hi', rfl⟩ := List.getElem_of_mem hyy
      exact (hy i hi').2
end
theorem wf_u8 {n : Int} (h : (Lit.int .u8 n).wf = true) : 0 ≤ n ∧ n ≤ 255 := by simpa [Lit.wf, IntKind.min, IntKind.max, IntKind.signed, IntKind.bits] using h
theorem wf_i64 {n : Int} (h : (Lit.int .i64 n).wf = true) : -9223372036854775808 ≤ n ∧ n ≤ 9223372036854775807 := by simpa [Lit.wf, IntKind.min, IntKind.max, IntKind.signed, IntKind.bits] using h
end Go.Proofs.YtihlhejencninaaGreat
