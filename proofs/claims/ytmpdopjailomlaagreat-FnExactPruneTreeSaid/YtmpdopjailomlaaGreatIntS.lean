/- Contracts of the laws' helpers over []int: copies, equality, marks. -/
import Derived.Test.YtmpdopjailomlaaGreatInts
import Derived.Deep.QuietTactic
import Derived.BigQuiet
namespace Go.Proofs.YtmpdopjailomlaaGreat
open Go.RowKit
set_option linter.unusedVariables false
set_option linter.unusedSimpArgs false

theorem make_ints (n : Nat) (hn : n ≤ 1048576) (w : World) : (Instr.makeSlice 24 (.int .i64 (n : Int)) (.int .i64 (n : Int))).run Tryz.prog w = .ok (.slice (some ⟨w.heap.size, 0, none⟩) n n) (w.alloc (.cells (Array.replicate n (Value.int .i64 0)) 3)) := by
  obtain ⟨i0, hi0, hz0, hz1, hz2⟩ := info_parts int_info
  rw [run_make_rowN 24 3 i0 _ Tryz.underlying24 hi0 hz0 _ _ n n (Nat.le_refl _) (by rw [hz2]; omega) (by omega), hz1]
  simp only [Value.cells, Nat.mul_one, madeCells_one]

theorem toIntS_any (A : Option Addr) (c : Nat) (xs : List Int) (w : World) (hb : xs.length ≤ 1048576) (h : Rd w A (xs.map (.int .i64))) :
    Calls Tryz.prog 20 #[.slice A xs.length c] w fun e w' => ∃ A' c', e = .returned (.slice A' xs.length c') ∧ w'.ownsRow w.heap.size 3 1 (.slice A' xs.length c') xs.length (xs.map (.int .i64)) ∧ Below w.heap.size w w' := by
  have hmk := fun W => make_ints xs.length hb W
  go_enter Tryz.func20, Tryz.ntmps20
  go_wp2
  go_loopw [4] (fun i wr => ∃ k : Nat, k ≤ xs.length ∧ i = .int .i64 k ∧ wr.ownsRow w.heap.size 3 1 (.slice (some ⟨w.heap.size, 0, none⟩) xs.length xs.length) xs.length ((fill xs 0 k).map (.int .i64)) ∧ Below w.heap.size w wr) (fun i _ => xs.length - (intOf i).toNat)
  case atStart =>
    refine ⟨0, Nat.zero_le _, rfl, ?_, (Below.refl _ _).alloc (Nat.le_refl _) _⟩
    have := own_made (base := w.heap.size) (e := 3) (size := 1) w (Array.replicate xs.length (Value.int .i64 0)) xs.length (Nat.le_refl _) (by simp only [maxLen]; omega) (by simp)
    rw [fill_zero]
    simpa using this
  case round =>
    obtain ⟨k, hk, rfl, hown, hbel⟩ := hrel
    by_cases hlt : k < xs.length
    · obtain ⟨b, off, rfl, hbb, hc⟩ := h.int hlt
      have hc1 : wr.cell? ⟨b, off + k, none⟩ = some (.int .i64 xs[k]) := (hbel.cell hbb).trans hc
      obtain ⟨u0, hc2⟩ : ∃ u, wr.cell? ⟨w.heap.size, k, none⟩ = some u := ⟨_, own_cell hown k (by simp [fill_length _ _ _ hk]; omega)⟩
      have hc3 : wr.frozen? ⟨w.heap.size, k, none⟩ = false := own_frozen hown k
      have hset := own_set hown k (.int .i64 xs[k])
      rw [← List.map_set, ← fill_succ xs 0 k hlt] at hset
      go_wp2
      go_roundw
      case rel => exact ⟨k + 1, by omega, by go_num, hset, hbel.setCell (Nat.le_refl _) _⟩
      case measure => simp [intOf]; omega
    · have : k = xs.length := by omega
      subst this
      rw [fill_all] at hown
      go_wp2
      go_ret
      exact ⟨_, _, rfl, hown, hbel⟩

def iota (k : Int) (n : Nat) : List Int := (List.range n).map fun i : Nat => k + (i : Int)
theorem iota_succ (k : Int) (n : Nat) : iota k (n + 1) = iota k n ++ [k + n] := by simp [iota, List.range_succ]
theorem iota_length (k : Int) (n : Nat) : (iota k n).length = n := by simp [iota]
theorem iota_get (k : Int) (n i : Nat) (h : i < (iota k n).length) : (iota k n)[i] = k + i := by simp [iota]

theorem eqIntS_any (A B : Option Addr) (c d : Nat) (xs ys : List Int) (w : World) (hx : Rd w A (xs.map (.int .i64))) (hy : Rd w B (ys.map (.int .i64))) (hbx : xs.length ≤ 4611686018427387904) :
    Calls Tryz.prog 23 #[.slice A xs.length c, .slice B ys.length d] w fun e w' => e = .returned (.bool (decide (xs = ys))) ∧ ∃ m, w.drewN m = w' := by
  by_cases hl : xs.length = ys.length
  · have hd : ((xs.length : Int) != (ys.length : Int)) = false := by simp [hl]
    have HL := hide hl
    have hl1 : xs.length ≤ ys.length := by omega
    have hl2 : ys.length ≤ xs.length := by omega
    clear hl
    go_enter Tryz.func23, Tryz.ntmps23
    go_wp2
    go_loopw [5] (fun i wr => ∃ k : Nat, k ≤ xs.length ∧ i = .int .i64 k ∧ (∀ j (h1 : j < xs.length) (h2 : j < ys.length), j < k → xs[j] = ys[j]) ∧ ∃ m, w.drewN m = wr) (fun i _ => xs.length - (intOf i).toNat)
    case atStart => exact ⟨0, Nat.zero_le _, rfl, fun j _ _ h => absurd h (by omega), 0, rfl⟩
    case round =>
      obtain ⟨k, hk, rfl, hsame, m, rfl⟩ := hrel
      have HS := hide hsame
      clear hsame
      by_cases hlt : k < xs.length
      · have hlt2 : k < ys.length := by omega
        obtain ⟨b, off, rfl, hbb, hc⟩ := hx.int hlt
        obtain ⟨b', off', rfl, hbb', hc'⟩ := hy.int hlt2
        have hc1 : (w.drewN m).cell? ⟨b, off + k, none⟩ = some (.int .i64 xs[k]) := hc
        have hc2 : (w.drewN m).cell? ⟨b', off' + k, none⟩ = some (.int .i64 ys[k]) := hc'
        generalize hxk : xs[k] = xk at *
        generalize hyk : ys[k] = yk at *
        have HX := hide hxk
        have HY := hide hyk
        clear hxk hyk
        have i1 : (k : Int) < (xs.length : Int) := by omega
        have i2 : (k : Int) < (ys.length : Int) := by omega
        by_cases he : xk = yk
        · have hn : (xk != yk) = false := by simp [he]
          have HE := hide he
          clear he
          go_wp2
          go_quiet (fail)
          go_wp2
          go_roundw
          case rel =>
            refine ⟨k + 1, by omega, by go_num, fun j h1 h2 hj => ?_, _, rfl⟩
            rcases Nat.lt_or_ge j k with h3 | h3
            · exact unhide HS j h1 h2 h3
            · have : j = k := by omega
              subst this
              exact (unhide HX).trans ((unhide HE).trans (unhide HY).symm)
          case measure => simp [intOf]; omega
        · have hn : (xk != yk) = true := by simp [he]
          go_wp2
          go_quiet (fail)
          go_wp2
          go_ret
          refine ⟨retb ?_, _, by rw [World.drewN_drewN]⟩
          symm
          rw [decide_eq_false_iff_not]
          intro hxy
          apply he
          have h1 := unhide HX
          have h2 := unhide HY
          subst hxy
          exact h1.symm.trans h2
      · go_wp2
        go_ret
        refine ⟨retb ?_, _, rfl⟩
        symm
        rw [decide_eq_true_iff]
        exact List.ext_getElem (unhide HL) fun j h1 h2 => unhide HS j h1 h2 (by omega)
  · have hd : ((xs.length : Int) != (ys.length : Int)) = true := by simp; omega
    have HL := hide hl
    clear hl
    go_enter Tryz.func23, Tryz.ntmps23
    go_wp2
    go_ret
    refine ⟨retb ?_, 0, rfl⟩
    symm
    rw [decide_eq_false_iff_not]
    exact fun h => unhide HL (by rw [h])
theorem sameInts_any (A B : Option Addr) (c d : Nat) (xs ys : List Int) (w : World) (hx : Rd w A (xs.map (.int .i64))) (hy : Rd w B (ys.map (.int .i64))) (hbx : xs.length ≤ 4611686018427387904) :
    Calls Tryz.prog 28 #[.slice A xs.length c, .slice B ys.length d] w fun e w' => e = .returned (.bool (decide (xs = ys))) ∧ ∃ m, w.drewN m = w' := by
  by_cases hl : xs.length = ys.length
  · have hd : ((xs.length : Int) != (ys.length : Int)) = false := by simp [hl]
    have HL := hide hl
    have hl1 : xs.length ≤ ys.length := by omega
    have hl2 : ys.length ≤ xs.length := by omega
    clear hl
    go_enter Tryz.func28, Tryz.ntmps28
    go_wp2
    go_loopw [5] (fun i wr => ∃ k : Nat, k ≤ xs.length ∧ i = .int .i64 k ∧ (∀ j (h1 : j < xs.length) (h2 : j < ys.length), j < k → xs[j] = ys[j]) ∧ ∃ m, w.drewN m = wr) (fun i _ => xs.length - (intOf i).toNat)
    case atStart => exact ⟨0, Nat.zero_le _, rfl, fun j _ _ h => absurd h (by omega), 0, rfl⟩
    case round =>
      obtain ⟨k, hk, rfl, hsame, m, rfl⟩ := hrel
      have HS := hide hsame
      clear hsame
      by_cases hlt : k < xs.length
      · have hlt2 : k < ys.length := by omega
        obtain ⟨b, off, rfl, hbb, hc⟩ := hx.int hlt
        obtain ⟨b', off', rfl, hbb', hc'⟩ := hy.int hlt2
        have hc1 : (w.drewN m).cell? ⟨b, off + k, none⟩ = some (.int .i64 xs[k]) := hc
        have hc2 : (w.drewN m).cell? ⟨b', off' + k, none⟩ = some (.int .i64 ys[k]) := hc'
        generalize hxk : xs[k] = xk at *
        generalize hyk : ys[k] = yk at *
        have HX := hide hxk
        have HY := hide hyk
        clear hxk hyk
        have i1 : (k : Int) < (xs.length : Int) := by omega
        have i2 : (k : Int) < (ys.length : Int) := by omega
        by_cases he : xk = yk
        · have hn : (xk != yk) = false := by simp [he]
          have HE := hide he
          clear he
          go_wp2
          go_quiet (fail)
          go_wp2
          go_roundw
          case rel =>
            refine ⟨k + 1, by omega, by go_num, fun j h1 h2 hj => ?_, _, rfl⟩
            rcases Nat.lt_or_ge j k with h3 | h3
            · exact unhide HS j h1 h2 h3
            · have : j = k := by omega
              subst this
              exact (unhide HX).trans ((unhide HE).trans (unhide HY).symm)
          case measure => simp [intOf]; omega
        · have hn : (xk != yk) = true := by simp [he]
          go_wp2
          go_quiet (fail)
          go_wp2
          go_ret
          refine ⟨retb ?_, _, by rw [World.drewN_drewN]⟩
          symm
          rw [decide_eq_false_iff_not]
          intro hxy
          apply he
          have h1 := unhide HX
          have h2 := unhide HY
          subst hxy
          exact h1.symm.trans h2
      · go_wp2
        go_ret
        refine ⟨retb ?_, _, rfl⟩
        symm
        rw [decide_eq_true_iff]
        exact List.ext_getElem (unhide HL) fun j h1 h2 => unhide HS j h1 h2 (by omega)
  · have hd : ((xs.length : Int) != (ys.length : Int)) = true := by simp; omega
    have HL := hide hl
    clear hl
    go_enter Tryz.func28, Tryz.ntmps28
    go_wp2
    go_ret
    refine ⟨retb ?_, 0, rfl⟩
    symm
    rw [decide_eq_false_iff_not]
    exact fun h => unhide HL (by rw [h])
theorem markIntS_any (A : Option Addr) (c base : Nat) (k0 : Int) (xs : List Int) (w : World) (hown : w.ownsRow base 3 1 (.slice A xs.length c) xs.length (xs.map (.int .i64))) (hb : xs.length ≤ 4611686018427387904) (h0 : 0 ≤ k0) (h1 : k0 ≤ 2305843009213693952) :
    Calls Tryz.prog 24 #[.slice A xs.length c, .int .i64 k0] w fun e w' => e = .returned (.int .i64 (k0 + xs.length)) ∧ w'.ownsRow base 3 1 (.slice A xs.length c) xs.length ((iota k0 xs.length).map (.int .i64)) ∧ Chg (fun g => A = some ⟨g, 0, none⟩) w w' := by
  go_enter Tryz.func24, Tryz.ntmps24
  go_wp2
  go_loopw [1, 5] (fun kk i wr => ∃ k : Nat, k ≤ xs.length ∧ i = .int .i64 k ∧ kk = .int .i64 (k0 + k) ∧ wr.ownsRow base 3 1 (.slice A xs.length c) xs.length ((iota k0 k ++ xs.drop k).map (.int .i64)) ∧ Chg (fun g => A = some ⟨g, 0, none⟩) w wr) (fun _ i _ => xs.length - (intOf i).toNat)
  case atStart => exact ⟨0, Nat.zero_le _, rfl, by simp, by simpa [iota] using hown, Chg.refl _ _⟩
  case round =>
    clear hown
    obtain ⟨k, hk, rfl, rfl, hown, hchg⟩ := hrel
    by_cases hlt : k < xs.length
    · obtain ⟨g, rfl, hg1, hg2⟩ := own_addr hown (by omega)
      have hlen : ((iota k0 k ++ xs.drop k).map (Value.int .i64)).length = xs.length := by simp [iota_length]; omega
      obtain ⟨u0, hc2⟩ : ∃ u, wr.cell? ⟨g, k, none⟩ = some u := ⟨_, own_cell hown k (by omega)⟩
      have hc3 : wr.frozen? ⟨g, k, none⟩ = false := own_frozen hown k
      have hset := own_set hown k (.int .i64 (k0 + k))
      have he : ((iota k0 k ++ xs.drop k).map (Value.int .i64)).set k (.int .i64 (k0 + k)) = (iota k0 (k + 1) ++ xs.drop (k + 1)).map (Value.int .i64) := by
        rw [← List.map_set, List.set_append_right _ _ (by simp [iota_length])]
        rw [iota_length, Nat.sub_self, List.drop_eq_getElem_cons hlt, List.set_cons_zero, iota_succ]
        simp
      rw [he] at hset
      clear he hlen
      go_wp2
      go_roundw
      case rel => exact ⟨k + 1, by omega, by go_num, by go_num, hset, hchg.setCell (.inl rfl) _⟩
      case measure => simp [intOf]; omega
    · have : k = xs.length := by omega
      subst this
      rw [List.drop_length, List.append_nil] at hown
      go_wp2
      go_ret
      exact ⟨rfl, hown, hchg⟩
theorem heldIntS_any (A : Option Addr) (c n : Nat) (k0 : Int) (w : World) (hr : Rd w A ((iota k0 n).map (.int .i64))) (hb : n ≤ 4611686018427387904) (h0 : 0 ≤ k0) (h1 : k0 ≤ 2305843009213693952) :
    Calls Tryz.prog 51 #[.slice A n c, .int .i64 k0] w fun e w' => e = .returned (.int .i64 (k0 + n)) ∧ w = w' := by
  go_enter Tryz.func51, Tryz.ntmps51
  go_wp2
  go_loop [1, 5] (fun kk i => ∃ k : Nat, k ≤ n ∧ i = .int .i64 k ∧ kk = .int .i64 (k0 + k)) (fun _ i => n - (intOf i).toNat)
  case atStart => exact ⟨0, Nat.zero_le _, rfl, by simp⟩
  case round =>
    obtain ⟨k, hk, rfl, rfl⟩ := hrel
    by_cases hlt : k < n
    · have hlt' : k < (iota k0 n).length := by rw [iota_length]; exact hlt
      obtain ⟨b, off, rfl, hbb, hc⟩ := hr.int hlt'
      rw [iota_get] at hc
      go_wp2
      go_round
      case rel => exact ⟨k + 1, by omega, by go_num, by go_num⟩
      case measure => simp [intOf]; omega
    · have : k = n := by omega
      subst this
      go_wp2
      go_ret
      exact ⟨rfl, rfl⟩
end Go.Proofs.YtmpdopjailomlaaGreat
