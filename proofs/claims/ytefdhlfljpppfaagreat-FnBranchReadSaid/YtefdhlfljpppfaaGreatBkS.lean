/- Slices of blocks, in the laws: to, eq, sz. -/
import Derived.Test.YtefdhlfljpppfaaGreatEffS
import Derived.Test.YtefdhlfljpppfaaGreatValBlock
import Derived.Test.YtefdhlfljpppfaaGreatOwn
namespace Go.Proofs.YtefdhlfljpppfaaGreat
open Go.RowKit
set_option linter.unusedVariables false
set_option linter.unusedSimpArgs false

def bkV (x : Bk) (A : Option Addr) (c : Nat) : List Value := [.int .i64 x.before, .int .i64 x.height, .int .i64 x.view, .slice A x.list.length c, .int .i64 x.root, .int .i64 x.eff]
/-- a block in six cells -/
def bkR : Rel Bk := fun P x w cs => ∃ A c, cs = bkV x A c ∧ (x.list.length ≤ c ∧ c ≤ maxLen) ∧ RdP P w A (x.list.flatMap encA)
theorem bk_good : Good bkR 6 :=
  ⟨fun ⟨_, _, h, _⟩ => by rw [h]; rfl, fun ⟨A, c, h0, h1, h2⟩ hPQ => ⟨A, c, h0, h1, h2.mono hPQ⟩, fun ⟨A, c, h0, h1, h2⟩ hk => ⟨A, c, h0, h1, h2.keep hk⟩⟩
def bkO : ORel Bk := fun x w cs fp => ∃ A c, cs = bkV x A c ∧ w.ownsRow 0 101 4 (.slice A x.list.length c) x.list.length (x.list.flatMap encA) ∧ fp = blk A
theorem bkO_good : OGood bkO bkR :=
  ⟨fun ⟨A, c, h0, h1, h3⟩ => ⟨A, c, h0, own_cap h1, (own_rdP h1).mono fun k hk _ => by rw [h3]; exact mem_blk hk.2⟩,
   fun ⟨A, c, h0, h1, h3⟩ hk => ⟨A, c, h0, own_keep h1 fun g hA hg => hk g (by rw [h3]; exact mem_blk hA) hg, h3⟩,
   fun ⟨A, c, h0, h1, h3⟩ k hk => by
    rw [h3] at hk
    exact (blk_own h1 hk).2.2⟩
theorem RdD.bk {P : Nat → Prop} {w : World} {A : Option Addr} {xs : List Bk} (h : RdD bkR P w A xs) {k : Nat} (hk : k < xs.length) :
    ∃ b off A1 c1, A = some ⟨b, off, none⟩ ∧ P b ∧ b < w.heap.size ∧ w.cell? ⟨b, off + k * 6, none⟩ = some (.int .i64 xs[k].before) ∧ w.cell? ⟨b, off + k * 6 + 1, none⟩ = some (.int .i64 xs[k].height) ∧ w.cell? ⟨b, off + k * 6 + 2, none⟩ = some (.int .i64 xs[k].view) ∧ w.cell? ⟨b, off + k * 6 + 3, none⟩ = some (.slice A1 xs[k].list.length c1) ∧ w.cell? ⟨b, off + k * 6 + 4, none⟩ = some (.int .i64 xs[k].root) ∧ w.cell? ⟨b, off + k * 6 + 5, none⟩ = some (.int .i64 xs[k].eff) ∧
      (xs[k].list.length ≤ c1 ∧ c1 ≤ maxLen) ∧ RdP P w A1 (xs[k].list.flatMap encA) := by
  obtain ⟨b, off, cs, hA, hp, hb, ⟨A1, c1, rfl, h1, h3⟩, hc⟩ := h.get bk_good (by omega) hk
  exact ⟨b, off, A1, c1, hA, hp, hb, hc 0 _ rfl, hc 1 _ rfl, hc 2 _ rfl, hc 3 _ rfl, hc 4 _ rfl, hc 5 _ rfl, h1, h3⟩
theorem info_bk : (Tryz.prog.info? 50).map (fun i => (i.zero, i.size, i.bytes)) = some (some (.agg #[.int .i64 0, .int .i64 0, .int .i64 0, .slice none 0 0, .int .i64 0, .int .i64 0]), 6, 64) := by kernel_rfl
theorem el_bk : El Tryz.prog 24 50 6 64 := El.mk_ Tryz.underlying24 info_bk rfl (by omega)
def zbk : List Value := [.int .i64 0, .int .i64 0, .int .i64 0, .slice none 0 0, .int .i64 0, .int .i64 0]
theorem make_bk (n : Nat) (hn : n ≤ 1048576) (w : World) : (Instr.makeSlice 24 (.int .i64 (n : Int)) (.int .i64 (n : Int))).run Tryz.prog w = .ok (.slice (some ⟨w.heap.size, 0, none⟩) n n) (w.alloc (.cells (List.replicate n zbk).flatten.toArray 50)) := by
  obtain ⟨i0, hi0, hz0, hz1, hz2⟩ := info_parts info_bk
  rw [run_make_rowN 24 50 i0 _ Tryz.underlying24 hi0 hz0 _ _ n n (Nat.le_refl _) (by rw [hz2]; omega) (by omega), hz1]
  simp only [Value.cells]
  rw [← zeroes_flat zbk 6 n rfl (by omega)]
  rfl
/-- six cells of a row of the call's own, set -/
theorem own_set6 {w : World} {e : TypeId} {g n c base : Nat} {vs : List (List Value)} (h : w.ownsRow base e 6 (.slice (some ⟨g, 0, none⟩) n c) n vs.flatten) (hv : ∀ v ∈ vs, v.length = 6) {k : Nat} (hk : k < vs.length) (x0 x1 x2 x3 x4 x5 : Value) :
    ((((((w.setCell ⟨g, k * 6, none⟩ x0).setCell ⟨g, k * 6 + 1, none⟩ x1).setCell ⟨g, k * 6 + 2, none⟩ x2).setCell ⟨g, k * 6 + 3, none⟩ x3).setCell ⟨g, k * 6 + 4, none⟩ x4).setCell ⟨g, k * 6 + 5, none⟩ x5).ownsRow base e 6 (.slice (some ⟨g, 0, none⟩) n c) n (vs.set k [x0, x1, x2, x3, x4, x5]).flatten := by
  have h3 := own_set (own_set (own_set (own_set (own_set (own_set h (k * 6) x0) (k * 6 + 1) x1) (k * 6 + 2) x2) (k * 6 + 3) x3) (k * 6 + 4) x4) (k * 6 + 5) x5
  rw [← setAt_flatten 6 vs hv k hk [x0, x1, x2, x3, x4, x5] rfl]
  exact h3
theorem chg_set6 (w : World) (g o : Nat) (x0 x1 x2 x3 x4 x5 : Value) : Chg (fun q => q = g) w ((((((w.setCell ⟨g, o, none⟩ x0).setCell ⟨g, o + 1, none⟩ x1).setCell ⟨g, o + 2, none⟩ x2).setCell ⟨g, o + 3, none⟩ x3).setCell ⟨g, o + 4, none⟩ x4).setCell ⟨g, o + 5, none⟩ x5) :=
  ((((((Chg.refl (fun q => q = g) w).setCell (.inl rfl) _).setCell (.inl rfl) _).setCell (.inl rfl) _).setCell (.inl rfl) _).setCell (.inl rfl) _).setCell (.inl rfl) _
/-- how many actions there are -/
def bkTot : List Bk → Nat
  | [] => 0
  | x :: xs => x.list.length + bkTot xs
theorem bkTot_mem {x : Bk} {xs : List Bk} (h : x ∈ xs) : x.list.length ≤ bkTot xs := by
  induction xs with
  | nil => cases h
  | cons y xs ih =>
    rw [bkTot]
    rcases List.mem_cons.1 h with rfl | h
    · omega
    · have := ih h; omega
end Go.Proofs.YtefdhlfljpppfaaGreat
