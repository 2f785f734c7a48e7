/- Slices of bools in memory; the laws' helpers over them. -/
import Derived.Test.YthddcinpacaacaaIntS
namespace Go.Proofs.Ythddcinpacaacaa
open Go.RowKit
set_option linter.unusedVariables false
set_option linter.unusedSimpArgs false

theorem el_bool : El Try.prog 35 4 1 1 := El.mk_ (z := .bool false) Try.underlying35 (by kernel_rfl) rfl (by omega)
theorem Rd.boo {w : World} {A : Option Addr} {zs : List Bool} (h : Rd w A (zs.map Value.bool)) {k : Nat} (hk : k < zs.length) :
    ∃ b off, A = some ⟨b, off, none⟩ ∧ b < w.heap.size ∧ w.cell? ⟨b, off + k, none⟩ = some (.bool zs[k]) := by
  obtain ⟨b, off, rfl, hb, hc⟩ := h (by simp; omega)
  exact ⟨b, off, rfl, hb, hc k _ (by simp [hk])⟩
theorem one_bools (zs : List Bool) : ∀ u ∈ zs.map Value.bool, u.oneCell' = true := by
  intro u hu
  obtain ⟨z, _, rfl⟩ := List.mem_map.1 hu
  rfl
def markB (k : Int) (n : Nat) : List Bool := (List.range n).map fun i : Nat => (k + (i : Int)) % 3 == 0
theorem markB_succ (k : Int) (n : Nat) : markB k (n + 1) = markB k n ++ [(k + n) % 3 == 0] := by simp [markB, List.range_succ]
theorem markB_length (k : Int) (n : Nat) : (markB k n).length = n := by simp [markB]
theorem markB_get (k : Int) (n i : Nat) (h : i < (markB k n).length) : (markB k n)[i] = ((k + i) % 3 == 0) := by simp [markB]

theorem eqBoolS_any (A B : Option Addr) (c d : Nat) (xs ys : List Bool) (w : World) (hx : Rd w A (xs.map Value.bool)) (hy : Rd w B (ys.map Value.bool)) (hbx : xs.length ≤ 4611686018427387904) :
    Calls Try.prog 18 #[.slice A xs.length c, .slice B ys.length d] w fun e w' => e = .returned (.bool (decide (xs = ys))) ∧ ∃ m, w.drewN m = w' := by
  by_cases hl : xs.length = ys.length
  · have hd : ((xs.length : Int) != (ys.length : Int)) = false := by simp [hl]
    have HL := hide hl
    have hl1 : xs.length ≤ ys.length := by omega
    have hl2 : ys.length ≤ xs.length := by omega
    clear hl
    go_enter Try.func18, Try.ntmps18
    go_wp2
    go_loopw [5] (fun i wr => ∃ k : Nat, k ≤ xs.length ∧ i = .int .i64 k ∧ (∀ j (h1 : j < xs.length) (h2 : j < ys.length), j < k → xs[j] = ys[j]) ∧ ∃ m, w.drewN m = wr) (fun i _ => xs.length - (intOf i).toNat)
    case atStart => exact ⟨0, Nat.zero_le _, rfl, fun j _ _ h => absurd h (by omega), 0, rfl⟩
    case round =>
      obtain ⟨k, hk, rfl, hsame, m, rfl⟩ := hrel
      have HS := hide hsame
      clear hsame
      by_cases hlt : k < xs.length
      · have hlt2 : k < ys.length := by omega
        obtain ⟨b, off, rfl, hbb, hc⟩ := hx.boo hlt
        obtain ⟨b', off', rfl, hbb', hc'⟩ := hy.boo hlt2
        have hc1 : (w.drewN m).cell? ⟨b, off + k, none⟩ = some (.bool xs[k]) := hc
        have hc2 : (w.drewN m).cell? ⟨b', off' + k, none⟩ = some (.bool ys[k]) := hc'
        generalize hxk : xs[k] = xk at *
        generalize hyk : ys[k] = yk at *
        have HX := hide hxk
        have HY := hide hyk
        clear hxk hyk
        have i1 : (k : Int) < (xs.length : Int) := by omega
        have i2 : (k : Int) < (ys.length : Int) := by omega
        by_cases he : xk = yk
        · have hn : (xk != yk) = false := by simp [he]
          have hn2 : (!xk == yk) = false := by simp [he]
          have HE := hide he
          clear he
          go_wp2
          go_quiet (fail)
          go_wp2
          go_roundw
          case rel =>
            refine ⟨k + 1, by omega, by go_num, fun j h1 h2 hj => ?_, _, rfl⟩
            rcases Nat.lt_or_ge j k with h3 | h3
            · exact unhide HS j h1 h2 h3
            · have : j = k := by omega
              subst this
              exact (unhide HX).trans ((unhide HE).trans (unhide HY).symm)
          case measure => simp [intOf]; omega
        · have hn : (xk != yk) = true := by simp [he]
          have hn2 : (!xk == yk) = true := by revert he; cases xk <;> cases yk <;> simp
          go_wp2
          go_quiet (fail)
          go_wp2
          go_ret
          refine ⟨retb ?_, _, by rw [World.drewN_drewN]⟩
          symm
          rw [decide_eq_false_iff_not]
          intro hxy
          apply he
          have h1 := unhide HX
          have h2 := unhide HY
          subst hxy
          exact h1.symm.trans h2
      · go_wp2
        go_ret
        refine ⟨retb ?_, _, rfl⟩
        symm
        rw [decide_eq_true_iff]
        exact List.ext_getElem (unhide HL) fun j h1 h2 => unhide HS j h1 h2 (by omega)
  · have hd : ((xs.length : Int) != (ys.length : Int)) = true := by simp; omega
    have HL := hide hl
    clear hl
    go_enter Try.func18, Try.ntmps18
    go_wp2
    go_ret
    refine ⟨retb ?_, 0, rfl⟩
    symm
    rw [decide_eq_false_iff_not]
    exact fun h => unhide HL (by rw [h])
theorem markBoolS_any (A : Option Addr) (c base : Nat) (k0 : Int) (xs : List Bool) (w : World) (hown : w.ownsRow base 4 1 (.slice A xs.length c) xs.length (xs.map (.bool))) (hb : xs.length ≤ 4611686018427387904) (h0 : 0 ≤ k0) (h1 : k0 ≤ 2305843009213693952) :
    Calls Try.prog 21 #[.slice A xs.length c, .int .i64 k0] w fun e w' => e = .returned (.int .i64 (k0 + xs.length)) ∧ w'.ownsRow base 4 1 (.slice A xs.length c) xs.length ((markB k0 xs.length).map .bool) ∧ Chg (fun g => A = some ⟨g, 0, none⟩) w w' := by
  go_enter Try.func21, Try.ntmps21
  go_wp2
  go_loopw [1, 5] (fun kk i wr => ∃ k : Nat, k ≤ xs.length ∧ i = .int .i64 k ∧ kk = .int .i64 (k0 + k) ∧ wr.ownsRow base 4 1 (.slice A xs.length c) xs.length ((markB k0 k ++ xs.drop k).map .bool) ∧ Chg (fun g => A = some ⟨g, 0, none⟩) w wr) (fun _ i _ => xs.length - (intOf i).toNat)
  case atStart => exact ⟨0, Nat.zero_le _, rfl, by simp, by simpa [markB] using hown, Chg.refl _ _⟩
  case round =>
    clear hown
    obtain ⟨k, hk, rfl, rfl, hown, hchg⟩ := hrel
    by_cases hlt : k < xs.length
    · obtain ⟨g, rfl, hg1, hg2⟩ := own_addr hown (by omega)
      have hlen : ((markB k0 k ++ xs.drop k).map Value.bool).length = xs.length := by simp [markB_length]; omega
      obtain ⟨u0, hc2⟩ : ∃ u, wr.cell? ⟨g, k, none⟩ = some u := ⟨_, own_cell hown k (by omega)⟩
      have hc3 : wr.frozen? ⟨g, k, none⟩ = false := own_frozen hown k
      have hset := own_set hown k (.bool ((k0 + k) % 3 == 0))
      have he : ((markB k0 k ++ xs.drop k).map Value.bool).set k (.bool ((k0 + k) % 3 == 0)) = (markB k0 (k + 1) ++ xs.drop (k + 1)).map Value.bool := by
        rw [← List.map_set, List.set_append_right _ _ (by simp [markB_length])]
        rw [markB_length, Nat.sub_self, List.drop_eq_getElem_cons hlt, List.set_cons_zero, markB_succ]
        simp
      rw [he] at hset
      clear he hlen
      go_wp2
      go_roundw
      case rel => exact ⟨k + 1, by omega, by go_num, by go_num, hset, hchg.setCell (.inl rfl) _⟩
      case measure => simp [intOf]; omega
    · have : k = xs.length := by omega
      subst this
      rw [List.drop_length, List.append_nil] at hown
      go_wp2
      go_ret
      exact ⟨rfl, hown, hchg⟩
theorem heldBoolS_any (A : Option Addr) (c n : Nat) (k0 : Int) (w : World) (hr : Rd w A ((markB k0 n).map (.bool))) (hb : n ≤ 4611686018427387904) (h0 : 0 ≤ k0) (h1 : k0 ≤ 2305843009213693952) :
    Calls Try.prog 22 #[.slice A n c, .int .i64 k0] w fun e w' => e = .returned (.int .i64 (k0 + n)) ∧ w = w' := by
  go_enter Try.func22, Try.ntmps22
  go_wp2
  go_loop [1, 5] (fun kk i => ∃ k : Nat, k ≤ n ∧ i = .int .i64 k ∧ kk = .int .i64 (k0 + k)) (fun _ i => n - (intOf i).toNat)
  case atStart => exact ⟨0, Nat.zero_le _, rfl, by simp⟩
  case round =>
    obtain ⟨k, hk, rfl, rfl⟩ := hrel
    by_cases hlt : k < n
    · have hlt' : k < (markB k0 n).length := by rw [markB_length]; exact hlt
      obtain ⟨b, off, rfl, hbb, hc⟩ := hr.boo hlt'
      rw [markB_get] at hc
      go_wp2
      go_round
      case rel => exact ⟨k + 1, by omega, by go_num, by go_num⟩
      case measure => simp [intOf]; omega
    · have : k = n := by omega
      subst this
      go_wp2
      go_ret
      exact ⟨rfl, rfl⟩
end Go.Proofs.Ythddcinpacaacaa
