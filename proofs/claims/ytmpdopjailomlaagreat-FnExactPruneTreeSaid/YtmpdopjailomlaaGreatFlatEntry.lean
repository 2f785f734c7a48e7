/- Entry: slices of a struct of 2 integers in memory; the laws' helpers over them. -/
import Derived.Test.YtmpdopjailomlaaGreatIntS
import Derived.StillTailTactics
import Derived.Test.YtmpdopjailomlaaGreatEnt
namespace Go.Proofs.YtmpdopjailomlaaGreat
open Go.RowKit
set_option linter.unusedVariables false
set_option linter.unusedSimpArgs false

theorem info_ent : (Tryz.prog.info? 99).map (fun i => (i.zero, i.size, i.bytes)) = some (some (.agg #[.int .i64 0, .int .i64 0]), 2, 16) := by kernel_rfl
theorem zeroes_ent (n : Nat) : madeCells #[Value.int .i64 0, Value.int .i64 0] (n * 2) = ((List.replicate n (⟨0, 0⟩ : Ent)).flatMap encE).toArray := by
  apply Array.ext
  · rw [size_madeCells, List.size_toArray, length_flat encE 2 encE_len, List.length_replicate]
  · intro i h1 h2
    have hi : i < n * 2 := by rw [size_madeCells] at h1; exact h1
    have hq : i / 2 < (List.replicate n (⟨0, 0⟩ : Ent)).length := by rw [List.length_replicate]; omega
    have hg := get_flat encE 2 encE_len (List.replicate n (⟨0, 0⟩ : Ent)) (i / 2) hq (i % 2) (by omega)
    rw [show i / 2 * 2 + i % 2 = i by omega] at hg
    have hr : ∀ r, r < 2 → (encE (⟨0, 0⟩ : Ent))[r]? = some (Value.int .i64 0) := by
      intro r hr
      match r, hr with
      | 0, _ => rfl
      | 1, _ => rfl
    rw [List.getElem_replicate, hr _ (by omega)] at hg
    have h3 := (List.getElem?_eq_some_iff.1 hg).2
    refine Eq.trans ?_ ((List.getElem_toArray h2).trans h3).symm
    simp only [madeCells, Array.getElem_map, Array.getElem_range]
    have h4 : ∀ r, r < 2 → (#[Value.int .i64 0, Value.int .i64 0] : Array Value)[r]! = Value.int .i64 0 := by
      intro r hr
      match r, hr with
      | 0, _ => rfl
      | 1, _ => rfl
    exact h4 _ (Nat.mod_lt _ (by simp))
theorem make_ent (n : Nat) (hn : n ≤ 1048576) (w : World) : (Instr.makeSlice 28 (.int .i64 (n : Int)) (.int .i64 (n : Int))).run Tryz.prog w = .ok (.slice (some ⟨w.heap.size, 0, none⟩) n n) (w.alloc (.cells ((List.replicate n (⟨0, 0⟩ : Ent)).flatMap encE).toArray 99)) := by
  obtain ⟨i0, hi0, hz0, hz1, hz2⟩ := info_parts info_ent
  rw [run_make_rowN 28 99 i0 _ Tryz.underlying28 hi0 hz0 _ _ n n (Nat.le_refl _) (by rw [hz2]; omega) (by omega), hz1]
  simp only [Value.cells]
  rw [zeroes_ent]

theorem toEntry_any (x : Ent) (w : World) :
    Calls Tryz.prog 77 #[.agg #[.int .i64 x.k, .int .i64 x.v]] w fun e w' => e = .returned (.agg #[.int .i64 x.k, .int .i64 x.v]) ∧ Below w.heap.size w w' := by
  go_enter Tryz.func77, Tryz.ntmps77
  go_wp2
  refine bodyPost_ret (v := .agg #[.int .i64 x.k, .int .i64 x.v]) (by simp [results, Tryz.results77, go_sem]) rfl ⟨rfl, ?_⟩
  exact ((((Below.refl _ _).alloc (Nat.le_refl _) _).alloc (by simp) _).alloc (by simp; omega) _)
theorem toEntryS_any (A : Option Addr) (c : Nat) (xs : List Ent) (w : World) (hb : xs.length ≤ 1048576) (h : Rd w A (xs.flatMap encE)) :
    Calls Tryz.prog 38 #[.slice A xs.length c] w fun e w' => ∃ A' c', e = .returned (.slice A' xs.length c') ∧ w'.ownsRow w.heap.size 99 2 (.slice A' xs.length c') xs.length (xs.flatMap encE) ∧ Below w.heap.size w w' := by
  have hmk := fun W => make_ent xs.length hb W
  go_enter Tryz.func38, Tryz.ntmps38
  go_wp2
  go_loopw [4] (fun i wr => ∃ k : Nat, k ≤ xs.length ∧ i = .int .i64 k ∧ wr.ownsRow w.heap.size 99 2 (.slice (some ⟨w.heap.size, 0, none⟩) xs.length xs.length) xs.length ((fill xs ⟨0, 0⟩ k).flatMap encE) ∧ Below w.heap.size w wr) (fun i _ => xs.length - (intOf i).toNat)
  case atStart =>
    refine ⟨0, Nat.zero_le _, rfl, ?_, (Below.refl _ _).alloc (Nat.le_refl _) _⟩
    rw [fill_zero]
    exact own_made (base := w.heap.size) (e := 99) (size := 2) w _ xs.length (Nat.le_refl _) (by simp only [maxLen]; omega) (by rw [List.size_toArray, length_flat encE 2 encE_len, List.length_replicate])
  case round =>
    clear hmk
    obtain ⟨k, hk, rfl, hown, hbel⟩ := hrel
    by_cases hlt : k < xs.length
    · obtain ⟨b, off, rfl, hbb, hc0, hc1⟩ := (h.below hbel (Nat.le_refl _)).ent hlt
      have hfs := hide (fill_succ xs ⟨0, 0⟩ k hlt)
      generalize hxk : xs[k] = xk at *
      clear hxk
      go_wp2_with fail
      refine (toEntry_any _ _).mono ?_
      rintro e w1 ⟨rfl, hb1⟩
      have hown1 := own_new hown hb1
      have hkf : k < (fill xs (⟨0, 0⟩ : Ent) k).length := by rw [fill_length _ _ _ hk]; exact hlt
      obtain ⟨⟨u100, hd0⟩, ⟨u101, hd1⟩⟩ := own_ent hown1 hkf
      have hz0 : w1.frozen? ⟨w.heap.size, k * 2, none⟩ = false := own_frozen hown1 _
      have hz1 : w1.frozen? ⟨w.heap.size, k * 2 + 1, none⟩ = false := own_frozen hown1 _
      have hset := own_ent_set hown1 hkf xk
      rw [← unhide hfs] at hset
      have hbel1 := below_then hbel hb1 hbel.size
      clear hown hown1 hkf
      go_wp2
      go_roundw
      case rel => exact ⟨k + 1, by omega, by go_num, hset, (hbel1.setCell (Nat.le_refl _) _).setCell (Nat.le_refl _) _⟩
      case measure => simp [intOf]; omega
    · have : k = xs.length := by omega
      subst this
      rw [fill_all] at hown
      go_wp2
      go_ret
      exact ⟨_, _, rfl, hown, hbel⟩
theorem szEntryS_any (A : Option Addr) (n c : Nat) (l : Int) (w : World) (hn : n ≤ 9223372036854775807) (h0 : 0 ≤ l) (h1 : l ≤ 1048576) :
    Calls Tryz.prog 32 #[.slice A n c, .int .i64 l] w fun e w' => e = .returned (.int .i64 (if (n : Int) ≤ l then l - n else -1)) ∧ w = w' := by
  by_cases h : (n : Int) ≤ l
  · have HI := hide (show (if (n : Int) ≤ l then l - (n : Int) else -1) = l - n from if_pos h)
    have h2 : 0 ≤ l - (n : Int) := by omega
    go_enter Tryz.func32, Tryz.ntmps32
    go_wp2
    go_ret
    exact ⟨by first | rfl | exact reti (unhide HI).symm, rfl⟩
  · have HI := hide (show (if (n : Int) ≤ l then l - (n : Int) else -1) = -1 from if_neg h)
    have h2 : l - (n : Int) < 0 := by omega
    go_enter Tryz.func32, Tryz.ntmps32
    go_wp2
    go_ret
    exact ⟨by first | rfl | exact reti (unhide HI).symm, rfl⟩
theorem eqEntry_any (x y : Ent) (w : World) :
    Calls Tryz.prog 88 #[.agg #[.int .i64 x.k, .int .i64 x.v], .agg #[.int .i64 y.k, .int .i64 y.v]] w fun e w' => e = .returned (.bool (decide (x = y))) ∧ Below w.heap.size w w' := by
  by_cases h0 : x.k = y.k
  · have g0 : (x.k != y.k) = false := by simp [h0]
    by_cases h1 : x.v = y.v
    · have g1 : (x.v != y.v) = false := by simp [h1]
      have H := hide (show x = y by cases x; cases y; simp_all)
      clear h0 h1
      go_enter Tryz.func88, Tryz.ntmps88
      go_wp2
      go_ret
      exact ⟨retb (by simp [unhide H]), (((Below.refl _ _).alloc (Nat.le_refl _) _).alloc (by simp) _)⟩
    · have g1 : (x.v != y.v) = true := by simp [h1]
      have H := hide (show ¬ x = y by intro h; exact h1 (by rw [h]))
      clear h0 h1
      go_enter Tryz.func88, Tryz.ntmps88
      go_wp2
      go_ret
      exact ⟨retb (by simp [unhide H]), (((Below.refl _ _).alloc (Nat.le_refl _) _).alloc (by simp) _)⟩
  · have g0 : (x.k != y.k) = true := by simp [h0]
    have H := hide (show ¬ x = y by intro h; exact h0 (by rw [h]))
    clear h0
    go_enter Tryz.func88, Tryz.ntmps88
    go_wp2
    go_ret
    exact ⟨retb (by simp [unhide H]), (((Below.refl _ _).alloc (Nat.le_refl _) _).alloc (by simp) _)⟩
set_option maxRecDepth 100000 in
theorem eqEntryS_any (A B : Option Addr) (c d : Nat) (xs ys : List Ent) (w : World) (hx : Rd w A (xs.flatMap encE)) (hy : Rd w B (ys.flatMap encE)) (hbx : xs.length ≤ 4611686018427387904) :
    Calls Tryz.prog 45 #[.slice A xs.length c, .slice B ys.length d] w fun e w' => e = .returned (.bool (decide (xs = ys))) ∧ Below w.heap.size w w' := by
  by_cases hl : xs.length = ys.length
  · have hd : ((xs.length : Int) != (ys.length : Int)) = false := by simp [hl]
    have HL := hide hl
    have hl1 : xs.length ≤ ys.length := by omega
    have hl2 : ys.length ≤ xs.length := by omega
    clear hl
    go_enter Tryz.func45, Tryz.ntmps45
    go_wp2
    go_loopw [5] (fun i wr => ∃ k : Nat, k ≤ xs.length ∧ i = .int .i64 k ∧ (∀ j (h1 : j < xs.length) (h2 : j < ys.length), j < k → xs[j] = ys[j]) ∧ Below w.heap.size w wr) (fun i _ => xs.length - (intOf i).toNat)
    case atStart => exact ⟨0, Nat.zero_le _, rfl, fun j _ _ h => absurd h (by omega), Below.refl _ _⟩
    case round =>
      obtain ⟨k, hk, rfl, hsame, hbel⟩ := hrel
      have HS := hide hsame
      clear hsame
      by_cases hlt : k < xs.length
      · have hlt2 : k < ys.length := by omega
        obtain ⟨b, off, rfl, hbb, hc0, hc1⟩ := (hx.below hbel (Nat.le_refl _)).ent hlt
        obtain ⟨b', off', rfl, hbb', hc0', hc1'⟩ := (hy.below hbel (Nat.le_refl _)).ent hlt2
        generalize hxk : xs[k] = xk at *
        generalize hyk : ys[k] = yk at *
        have HX := hide hxk
        have HY := hide hyk
        clear hxk hyk
        have i1 : (k : Int) < (xs.length : Int) := by omega
        have i2 : (k : Int) < (ys.length : Int) := by omega
        have hbel2 := hbel.drew
        by_cases he : xk = yk
        · have hn : decide (xk = yk) = true := by simp [he]
          have HE := hide he
          clear he
          go_wp2
          go_still_tail 8, (by kernel_rfl)
          change wpList _ _ _ _ _ wr.drew
          go_wp2_with (go_at_call 88; refine (eqEntry_any _ _ _).mono ?_; rintro e w1 ⟨rfl, hb1⟩)
          go_roundw
          case rel =>
            refine ⟨k + 1, by omega, by go_num, fun j h1 h2 hj => ?_, below_then hbel2 hb1 hbel2.size⟩
            rcases Nat.lt_or_ge j k with h3 | h3
            · exact unhide HS j h1 h2 h3
            · have : j = k := by omega
              subst this
              exact (unhide HX).trans ((unhide HE).trans (unhide HY).symm)
          case measure => simp [intOf]; omega
        · have hn : decide (xk = yk) = false := by simp [he]
          have HE := hide he
          clear he
          go_wp2
          go_still_tail 8, (by kernel_rfl)
          change wpList _ _ _ _ _ wr.drew
          go_wp2_with (go_at_call 88; refine (eqEntry_any _ _ _).mono ?_; rintro e w1 ⟨rfl, hb1⟩)
          go_ret
          refine ⟨retb ?_, below_then hbel2 hb1 hbel2.size⟩
          symm
          rw [decide_eq_false_iff_not]
          intro hxy
          apply unhide HE
          have h1 := unhide HX
          have h2 := unhide HY
          subst hxy
          exact h1.symm.trans h2
      · go_wp2
        go_ret
        refine ⟨retb ?_, hbel⟩
        symm
        rw [decide_eq_true_iff]
        exact List.ext_getElem (unhide HL) fun j h1 h2 => unhide HS j h1 h2 (by omega)
  · have hd : ((xs.length : Int) != (ys.length : Int)) = true := by simp; omega
    have HL := hide hl
    clear hl
    go_enter Tryz.func45, Tryz.ntmps45
    go_wp2
    go_ret
    refine ⟨retb ?_, Below.refl _ _⟩
    symm
    rw [decide_eq_false_iff_not]
    exact fun h => unhide HL (by rw [h])
def markEnt (k : Int) (n : Nat) : List Ent := (List.range n).map fun i : Nat => ⟨k + (i : Int) * 2, k + (i : Int) * 2 + 1⟩
theorem markEnt_succ (k : Int) (n : Nat) : markEnt k (n + 1) = markEnt k n ++ [⟨k + (n : Int) * 2, k + (n : Int) * 2 + 1⟩] := by simp [markEnt, List.range_succ]
theorem markEnt_length (k : Int) (n : Nat) : (markEnt k n).length = n := by simp [markEnt]
theorem markEnt_get (k : Int) (n i : Nat) (h : i < (markEnt k n).length) : (markEnt k n)[i] = ⟨k + (i : Int) * 2, k + (i : Int) * 2 + 1⟩ := by simp [markEnt]
theorem markEntryS_any (A : Option Addr) (c base : Nat) (k0 : Int) (xs : List Ent) (w : World) (hown : w.ownsRow base 99 2 (.slice A xs.length c) xs.length (xs.flatMap encE)) (hb : xs.length ≤ 1152921504606846976) (h0 : 0 ≤ k0) (h1 : k0 ≤ 1152921504606846976) :
    Calls Tryz.prog 47 #[.slice A xs.length c, .int .i64 k0] w fun e w' => e = .returned (.int .i64 (k0 + xs.length * 2)) ∧ w'.ownsRow base 99 2 (.slice A xs.length c) xs.length ((markEnt k0 xs.length).flatMap encE) ∧ Chg (fun g => A = some ⟨g, 0, none⟩) w w' := by
  go_enter Tryz.func47, Tryz.ntmps47
  go_wp2
  go_loopw [1, 5] (fun kk i wr => ∃ k : Nat, k ≤ xs.length ∧ i = .int .i64 k ∧ kk = .int .i64 (k0 + k * 2) ∧ wr.ownsRow base 99 2 (.slice A xs.length c) xs.length ((markEnt k0 k ++ xs.drop k).flatMap encE) ∧ Chg (fun g => A = some ⟨g, 0, none⟩) w wr) (fun _ i _ => xs.length - (intOf i).toNat)
  case atStart => exact ⟨0, Nat.zero_le _, rfl, by simp, by simpa [markEnt] using hown, Chg.refl _ _⟩
  case round =>
    clear hown
    obtain ⟨k, hk, rfl, rfl, hown, hchg⟩ := hrel
    by_cases hlt : k < xs.length
    · obtain ⟨g, rfl, hg1, hg2⟩ := own_addr hown (by omega)
      have hkf : k < (markEnt k0 k ++ xs.drop k).length := by simp [markEnt_length]; omega
      obtain ⟨⟨u100, hd0⟩, ⟨u101, hd1⟩⟩ := own_ent hown hkf
      have hz0 : wr.frozen? ⟨g, k * 2, none⟩ = false := own_frozen hown _
      have hz1 : wr.frozen? ⟨g, k * 2 + 1, none⟩ = false := own_frozen hown _
      have hset := own_ent_set hown hkf ⟨k0 + (k : Int) * 2, k0 + (k : Int) * 2 + 1⟩
      have he : (markEnt k0 k ++ xs.drop k).set k ⟨k0 + (k : Int) * 2, k0 + (k : Int) * 2 + 1⟩ = markEnt k0 (k + 1) ++ xs.drop (k + 1) := by
        rw [List.set_append_right _ _ (by simp [markEnt_length])]
        rw [markEnt_length, Nat.sub_self, List.drop_eq_getElem_cons hlt, List.set_cons_zero, markEnt_succ]
        simp
      rw [he] at hset
      clear he hkf hown
      go_wp2
      go_roundw
      case rel => exact ⟨k + 1, by omega, by go_num, by go_num, hset, (hchg.setCell (.inl rfl) _).setCell (.inl rfl) _⟩
      case measure => simp [intOf]; omega
    · have : k = xs.length := by omega
      subst this
      rw [List.drop_length, List.append_nil] at hown
      go_wp2
      go_ret
      exact ⟨rfl, hown, hchg⟩
theorem heldEntryS_any (A : Option Addr) (c n : Nat) (k0 : Int) (w : World) (hr : Rd w A ((markEnt k0 n).flatMap encE)) (hb : n ≤ 1152921504606846976) (h0 : 0 ≤ k0) (h1 : k0 ≤ 1152921504606846976) :
    Calls Tryz.prog 49 #[.slice A n c, .int .i64 k0] w fun e w' => e = .returned (.int .i64 (k0 + n * 2)) ∧ w = w' := by
  go_enter Tryz.func49, Tryz.ntmps49
  go_wp2
  go_loop [1, 5] (fun kk i => ∃ k : Nat, k ≤ n ∧ i = .int .i64 k ∧ kk = .int .i64 (k0 + k * 2)) (fun _ i => n - (intOf i).toNat)
  case atStart => exact ⟨0, Nat.zero_le _, rfl, by simp⟩
  case round =>
    obtain ⟨k, hk, rfl, rfl⟩ := hrel
    by_cases hlt : k < n
    · have hlt' : k < (markEnt k0 n).length := by rw [markEnt_length]; exact hlt
      obtain ⟨b, off, rfl, hbb, hc0, hc1⟩ := hr.ent hlt'
      rw [markEnt_get] at hc0 hc1
      go_wp2
      go_round
      case rel => exact ⟨k + 1, by omega, by go_num, by go_num⟩
      case measure => simp [intOf]; omega
    · have : k = n := by omega
      subst this
      go_wp2
      go_ret
      exact ⟨rfl, rfl⟩
end Go.Proofs.YtmpdopjailomlaaGreat
