/- Slices of effects, in the laws: to, eq, sz, mark. -/
import Derived.Test.YtefdhlfljpppfaaGreatValEffect
import Derived.Test.YtefdhlfljpppfaaGreatOwn
namespace Go.Proofs.YtefdhlfljpppfaaGreat
open Go.RowKit
set_option linter.unusedVariables false
set_option linter.unusedSimpArgs false

def effV (x : Eff) (A1 : Option Addr) (c1 : Nat) (A2 : Option Addr) (c2 : Nat) : List Value := [.bool x.done, .slice A1 x.reads.length c1, .slice A2 x.writes.length c2]
/-- an effect in three cells -/
def effR : Rel Eff := fun P x w cs => ∃ A1 c1 A2 c2, cs = effV x A1 c1 A2 c2 ∧ (x.reads.length ≤ c1 ∧ c1 ≤ maxLen) ∧ (x.writes.length ≤ c2 ∧ c2 ≤ maxLen) ∧ RdP P w A1 (x.reads.flatMap encE) ∧ RdP P w A2 (x.writes.flatMap encE)
theorem eff_good : Good effR 3 :=
  ⟨fun ⟨_, _, _, _, h, _⟩ => by rw [h]; rfl, fun ⟨A1, c1, A2, c2, h0, h1, h2, h3, h4⟩ hPQ => ⟨A1, c1, A2, c2, h0, h1, h2, h3.mono hPQ, h4.mono hPQ⟩, fun ⟨A1, c1, A2, c2, h0, h1, h2, h3, h4⟩ hk => ⟨A1, c1, A2, c2, h0, h1, h2, h3.keep hk, h4.keep hk⟩⟩
def effO : ORel Eff := fun x w cs fp => ∃ A1 c1 A2 c2, cs = effV x A1 c1 A2 c2 ∧ w.ownsRow 0 85 2 (.slice A1 x.reads.length c1) x.reads.length (x.reads.flatMap encE) ∧ w.ownsRow 0 85 2 (.slice A2 x.writes.length c2) x.writes.length (x.writes.flatMap encE) ∧ fp = blk A1 ++ blk A2
theorem effO_good : OGood effO effR :=
  ⟨fun ⟨A1, c1, A2, c2, h0, h1, h2, h3⟩ => ⟨A1, c1, A2, c2, h0, own_cap h1, own_cap h2, (own_rdP h1).mono fun k hk _ => by rw [h3]; exact List.mem_append_left _ (mem_blk hk.2), (own_rdP h2).mono fun k hk _ => by rw [h3]; exact List.mem_append_right _ (mem_blk hk.2)⟩,
   fun ⟨A1, c1, A2, c2, h0, h1, h2, h3⟩ hk => ⟨A1, c1, A2, c2, h0, own_keep h1 fun g hA hg => hk g (by rw [h3]; exact List.mem_append_left _ (mem_blk hA)) hg, own_keep h2 fun g hA hg => hk g (by rw [h3]; exact List.mem_append_right _ (mem_blk hA)) hg, h3⟩,
   fun ⟨A1, c1, A2, c2, h0, h1, h2, h3⟩ k hk => by
    rw [h3] at hk
    rcases List.mem_append.1 hk with hk | hk
    · exact (blk_own h1 hk).2.2
    · exact (blk_own h2 hk).2.2⟩
theorem RdD.eff {P : Nat → Prop} {w : World} {A : Option Addr} {xs : List Eff} (h : RdD effR P w A xs) {k : Nat} (hk : k < xs.length) :
    ∃ b off A1 c1 A2 c2, A = some ⟨b, off, none⟩ ∧ P b ∧ b < w.heap.size ∧ w.cell? ⟨b, off + k * 3, none⟩ = some (.bool xs[k].done) ∧ w.cell? ⟨b, off + k * 3 + 1, none⟩ = some (.slice A1 xs[k].reads.length c1) ∧ w.cell? ⟨b, off + k * 3 + 2, none⟩ = some (.slice A2 xs[k].writes.length c2) ∧
      (xs[k].reads.length ≤ c1 ∧ c1 ≤ maxLen) ∧ (xs[k].writes.length ≤ c2 ∧ c2 ≤ maxLen) ∧ RdP P w A1 (xs[k].reads.flatMap encE) ∧ RdP P w A2 (xs[k].writes.flatMap encE) := by
  obtain ⟨b, off, cs, hA, hp, hb, ⟨A1, c1, A2, c2, rfl, h1, h2, h3, h4⟩, hc⟩ := h.get eff_good (by omega) hk
  exact ⟨b, off, A1, c1, A2, c2, hA, hp, hb, hc 0 _ rfl, hc 1 _ rfl, hc 2 _ rfl, h1, h2, h3, h4⟩
theorem info_eff : (Tryz.prog.info? 83).map (fun i => (i.zero, i.size, i.bytes)) = some (some (.agg #[.bool false, .slice none 0 0, .slice none 0 0]), 3, 56) := by kernel_rfl
theorem el_eff : El Tryz.prog 78 83 3 56 := El.mk_ Tryz.underlying78 info_eff rfl (by omega)
/-- cells that make lays, as things of s cells -/
theorem zeroes_flat (z : List Value) (s n : Nat) (hz : z.length = s) (hs : 0 < s) : madeCells z.toArray (n * s) = (List.replicate n z).flatten.toArray := by
  have hall : ∀ v ∈ List.replicate n z, v.length = s := fun v hv => by rw [List.eq_of_mem_replicate hv, hz]
  have hfl : (List.replicate n z).flatten.length = n * s := by rw [List.length_flatten]; simp [hz]
  apply Array.ext
  · rw [size_madeCells, List.size_toArray, hfl]
  · intro i h1 h2
    have hi : i < n * s := by rw [size_madeCells] at h1; exact h1
    have hq : i / s < n := Nat.div_lt_of_lt_mul (by rw [Nat.mul_comm]; exact hi)
    have hm := Nat.mod_lt i hs
    have key : ∀ (m q r : Nat), q < m → r < s → (List.replicate m z).flatten[q * s + r]? = z[r]? := by
      intro m
      induction m with
      | zero => intro q r h; omega
      | succ m ih =>
        intro q r h hr
        rw [List.replicate_succ, List.flatten_cons]
        cases q with
        | zero => rw [Nat.zero_mul, Nat.zero_add, List.getElem?_append_left (by omega)]
        | succ q =>
          have e : (q + 1) * s + r = s + (q * s + r) := by rw [Nat.add_mul]; omega
          rw [e, List.getElem?_append_right (by omega), hz, Nat.add_sub_cancel_left]
          exact ih q r (by omega) hr
    have h3 := key n (i / s) (i % s) hq hm
    rw [Nat.div_add_mod' i s] at h3
    have h4 : z[i % s]? = some (z[i % s]'(by omega)) := List.getElem?_eq_getElem _
    rw [h4] at h3
    have h5 := (List.getElem?_eq_some_iff.1 h3).2
    refine Eq.trans ?_ ((List.getElem_toArray h2).trans h5).symm
    simp only [madeCells, Array.getElem_map, Array.getElem_range, List.size_toArray, hz]
    simp [hm, hz]
theorem make_eff (n : Nat) (hn : n ≤ 1048576) (w : World) : (Instr.makeSlice 78 (.int .i64 (n : Int)) (.int .i64 (n : Int))).run Tryz.prog w = .ok (.slice (some ⟨w.heap.size, 0, none⟩) n n) (w.alloc (.cells (List.replicate n [Value.bool false, .slice none 0 0, .slice none 0 0]).flatten.toArray 83)) := by
  obtain ⟨i0, hi0, hz0, hz1, hz2⟩ := info_parts info_eff
  rw [run_make_rowN 78 83 i0 _ Tryz.underlying78 hi0 hz0 _ _ n n (Nat.le_refl _) (by rw [hz2]; omega) (by omega), hz1]
  simp only [Value.cells]
  rw [← zeroes_flat [Value.bool false, .slice none 0 0, .slice none 0 0] 3 n rfl (by omega)]
/-- three cells of a row of the call's own, set -/
theorem own_set3 {w : World} {e : TypeId} {g n c : Nat} {vs : List (List Value)} (h : w.ownsRow 0 e 3 (.slice (some ⟨g, 0, none⟩) n c) n vs.flatten) (hv : ∀ v ∈ vs, v.length = 3) {k : Nat} (hk : k < vs.length) (x y z : Value) :
    (((w.setCell ⟨g, k * 3, none⟩ x).setCell ⟨g, k * 3 + 1, none⟩ y).setCell ⟨g, k * 3 + 2, none⟩ z).ownsRow 0 e 3 (.slice (some ⟨g, 0, none⟩) n c) n (vs.set k [x, y, z]).flatten := by
  have h3 := own_set (own_set (own_set h (k * 3) x) (k * 3 + 1) y) (k * 3 + 2) z
  rw [← setAt_flatten 3 vs hv k hk [x, y, z] rfl]
  exact h3
/-- how many entries there are -/
def effTot : List Eff → Nat
  | [] => 0
  | x :: xs => x.reads.length + x.writes.length + effTot xs
theorem effTot_mem {x : Eff} {xs : List Eff} (h : x ∈ xs) : x.reads.length + x.writes.length ≤ effTot xs := by
  induction xs with
  | nil => cases h
  | cons y xs ih =>
    rw [effTot]
    rcases List.mem_cons.1 h with rfl | h
    · omega
    · have := ih h; omega
/-- what is left of l -/
def szL (n : Nat) (l : Int) : Int := if (n : Int) ≤ l then l - (n : Int) else -1
theorem szL_yes {n : Nat} {l : Int} (h : (n : Int) ≤ l) : szL n l = l - (n : Int) := if_pos h
theorem szL_no {n : Nat} {l : Int} (h : ¬ (n : Int) ≤ l) : szL n l = -1 := if_neg h
end Go.Proofs.YtefdhlfljpppfaaGreat
