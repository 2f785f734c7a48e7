/- Contracts of the laws' helpers over []int: copies, equality, marks. -/
import Derived.Test.YtefdhlfljpppfaaGreatInts
import Derived.Deep.QuietTactic
import Derived.BigQuiet
namespace Go.Proofs.YtefdhlfljpppfaaGreat
open Go.RowKit
set_option linter.unusedVariables false
set_option linter.unusedSimpArgs false

theorem make_ints (n : Nat) (hn : n ≤ 1048576) (w : World) : (Instr.makeSlice 25 (.int .i64 (n : Int)) (.int .i64 (n : Int))).run Tryz.prog w = .ok (.slice (some ⟨w.heap.size, 0, none⟩) n n) (w.alloc (.cells (Array.replicate n (Value.int .i64 0)) 3)) := by
  obtain ⟨i0, hi0, hz0, hz1, hz2⟩ := info_parts int_info
  rw [run_make_rowN 25 3 i0 _ Tryz.underlying25 hi0 hz0 _ _ n n (Nat.le_refl _) (by rw [hz2]; omega) (by omega), hz1]
  simp only [Value.cells, Nat.mul_one, madeCells_one]


def iota (k : Int) (n : Nat) : List Int := (List.range n).map fun i : Nat => k + (i : Int)
theorem iota_succ (k : Int) (n : Nat) : iota k (n + 1) = iota k n ++ [k + n] := by simp [iota, List.range_succ]
theorem iota_length (k : Int) (n : Nat) : (iota k n).length = n := by simp [iota]
theorem iota_get (k : Int) (n i : Nat) (h : i < (iota k n).length) : (iota k n)[i] = k + i := by simp [iota]

theorem sameInts_any (A B : Option Addr) (c d : Nat) (xs ys : List Int) (w : World) (hx : Rd w A (xs.map (.int .i64))) (hy : Rd w B (ys.map (.int .i64))) (hbx : xs.length ≤ 4611686018427387904) :
    Calls Tryz.prog 11 #[.slice A xs.length c, .slice B ys.length d] w fun e w' => e = .returned (.bool (decide (xs = ys))) ∧ ∃ m, w.drewN m = w' := by
  by_cases hl : xs.length = ys.length
  · have hd : ((xs.length : Int) != (ys.length : Int)) = false := by simp [hl]
    have HL := hide hl
    have hl1 : xs.length ≤ ys.length := by omega
    have hl2 : ys.length ≤ xs.length := by omega
    clear hl
    go_enter Tryz.func11, Tryz.ntmps11
    go_wp2
    go_loopw [5] (fun i wr => ∃ k : Nat, k ≤ xs.length ∧ i = .int .i64 k ∧ (∀ j (h1 : j < xs.length) (h2 : j < ys.length), j < k → xs[j] = ys[j]) ∧ ∃ m, w.drewN m = wr) (fun i _ => xs.length - (intOf i).toNat)
    case atStart => exact ⟨0, Nat.zero_le _, rfl, fun j _ _ h => absurd h (by omega), 0, rfl⟩
    case round =>
      obtain ⟨k, hk, rfl, hsame, m, rfl⟩ := hrel
      have HS := hide hsame
      clear hsame
      by_cases hlt : k < xs.length
      · have hlt2 : k < ys.length := by omega
        obtain ⟨b, off, rfl, hbb, hc⟩ := hx.int hlt
        obtain ⟨b', off', rfl, hbb', hc'⟩ := hy.int hlt2
        have hc1 : (w.drewN m).cell? ⟨b, off + k, none⟩ = some (.int .i64 xs[k]) := hc
        have hc2 : (w.drewN m).cell? ⟨b', off' + k, none⟩ = some (.int .i64 ys[k]) := hc'
        generalize hxk : xs[k] = xk at *
        generalize hyk : ys[k] = yk at *
        have HX := hide hxk
        have HY := hide hyk
        clear hxk hyk
        have i1 : (k : Int) < (xs.length : Int) := by omega
        have i2 : (k : Int) < (ys.length : Int) := by omega
        by_cases he : xk = yk
        · have hn : (xk != yk) = false := by simp [he]
          have HE := hide he
          clear he
          go_wp2
          go_quiet (fail)
          go_wp2
          go_roundw
          case rel =>
            refine ⟨k + 1, by omega, by go_num, fun j h1 h2 hj => ?_, _, rfl⟩
            rcases Nat.lt_or_ge j k with h3 | h3
            · exact unhide HS j h1 h2 h3
            · have : j = k := by omega
              subst this
              exact (unhide HX).trans ((unhide HE).trans (unhide HY).symm)
          case measure => simp [intOf]; omega
        · have hn : (xk != yk) = true := by simp [he]
          go_wp2
          go_quiet (fail)
          go_wp2
          go_ret
          refine ⟨retb ?_, _, by rw [World.drewN_drewN]⟩
          symm
          rw [decide_eq_false_iff_not]
          intro hxy
          apply he
          have h1 := unhide HX
          have h2 := unhide HY
          subst hxy
          exact h1.symm.trans h2
      · go_wp2
        go_ret
        refine ⟨retb ?_, _, rfl⟩
        symm
        rw [decide_eq_true_iff]
        exact List.ext_getElem (unhide HL) fun j h1 h2 => unhide HS j h1 h2 (by omega)
  · have hd : ((xs.length : Int) != (ys.length : Int)) = true := by simp; omega
    have HL := hide hl
    clear hl
    go_enter Tryz.func11, Tryz.ntmps11
    go_wp2
    go_ret
    refine ⟨retb ?_, 0, rfl⟩
    symm
    rw [decide_eq_false_iff_not]
    exact fun h => unhide HL (by rw [h])
end Go.Proofs.YtefdhlfljpppfaaGreat
