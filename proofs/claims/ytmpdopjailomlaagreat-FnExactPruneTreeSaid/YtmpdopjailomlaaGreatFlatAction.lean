/- Action: slices of a struct of 4 integers in memory; the laws' helpers over them. -/
import Derived.Test.YtmpdopjailomlaaGreatIntS
import Derived.StillTailTactics
namespace Go.Proofs.YtmpdopjailomlaaGreat
open Go.RowKit
set_option linter.unusedVariables false
set_option linter.unusedSimpArgs false

structure Act where
  kind : Int
  src : Int
  dst : Int
  amt : Int
deriving DecidableEq
def encA (e : Act) : List Value := [.int .i64 e.kind, .int .i64 e.src, .int .i64 e.dst, .int .i64 e.amt]
theorem encA_len (e : Act) : (encA e).length = 4 := rfl
theorem Rd.act {w : World} {A : Option Addr} {es : List Act} (h : Rd w A (es.flatMap encA)) {k : Nat} (hk : k < es.length) :
    ∃ b off, A = some ⟨b, off, none⟩ ∧ b < w.heap.size ∧ w.cell? ⟨b, off + k * 4, none⟩ = some (.int .i64 es[k].kind) ∧ w.cell? ⟨b, off + k * 4 + 1, none⟩ = some (.int .i64 es[k].src) ∧ w.cell? ⟨b, off + k * 4 + 2, none⟩ = some (.int .i64 es[k].dst) ∧ w.cell? ⟨b, off + k * 4 + 3, none⟩ = some (.int .i64 es[k].amt) := by
  obtain ⟨b, off, e, hb, hc⟩ := h.flat encA 4 (fun _ => rfl) (by omega) hk
  exact ⟨b, off, e, hb, hc 0 _ rfl, hc 1 _ rfl, hc 2 _ rfl, hc 3 _ rfl⟩
theorem own_act {w : World} {base : Nat} {e : TypeId} {g c n : Nat} {es : List Act} (h : w.ownsRow base e 4 (.slice (some ⟨g, 0, none⟩) n c) n (es.flatMap encA)) {k : Nat} (hk : k < es.length) :
    (∃ u, w.cell? ⟨g, k * 4, none⟩ = some u) ∧ (∃ u, w.cell? ⟨g, k * 4 + 1, none⟩ = some u) ∧ (∃ u, w.cell? ⟨g, k * 4 + 2, none⟩ = some u) ∧ (∃ u, w.cell? ⟨g, k * 4 + 3, none⟩ = some u) := by
  have hl : (es.flatMap encA).length = es.length * 4 := length_flat encA 4 encA_len es
  exact ⟨⟨_, own_cell h (k * 4) (by omega)⟩, ⟨_, own_cell h (k * 4 + 1) (by omega)⟩, ⟨_, own_cell h (k * 4 + 2) (by omega)⟩, ⟨_, own_cell h (k * 4 + 3) (by omega)⟩⟩
theorem own_act_set {w : World} {base : Nat} {e : TypeId} {g c n : Nat} {es : List Act} (h : w.ownsRow base e 4 (.slice (some ⟨g, 0, none⟩) n c) n (es.flatMap encA)) {k : Nat} (hk : k < es.length) (x : Act) :
    ((((w.setCell ⟨g, k * 4, none⟩ (.int .i64 x.kind)).setCell ⟨g, k * 4 + 1, none⟩ (.int .i64 x.src)).setCell ⟨g, k * 4 + 2, none⟩ (.int .i64 x.dst)).setCell ⟨g, k * 4 + 3, none⟩ (.int .i64 x.amt)).ownsRow base e 4 (.slice (some ⟨g, 0, none⟩) n c) n ((es.set k x).flatMap encA) := by
  have := (own_set (own_set (own_set (own_set h (k * 4) (.int .i64 x.kind)) (k * 4 + 1) (.int .i64 x.src)) (k * 4 + 2) (.int .i64 x.dst)) (k * 4 + 3) (.int .i64 x.amt))
  rw [← setAt_flat encA 4 encA_len es k hk x]
  exact this

theorem info_act : (Tryz.prog.info? 134).map (fun i => (i.zero, i.size, i.bytes)) = some (some (.agg #[.int .i64 0, .int .i64 0, .int .i64 0, .int .i64 0]), 4, 32) := by kernel_rfl
theorem zeroes_act (n : Nat) : madeCells #[Value.int .i64 0, Value.int .i64 0, Value.int .i64 0, Value.int .i64 0] (n * 4) = ((List.replicate n (⟨0, 0, 0, 0⟩ : Act)).flatMap encA).toArray := by
  apply Array.ext
  · rw [size_madeCells, List.size_toArray, length_flat encA 4 encA_len, List.length_replicate]
  · intro i h1 h2
    have hi : i < n * 4 := by rw [size_madeCells] at h1; exact h1
    have hq : i / 4 < (List.replicate n (⟨0, 0, 0, 0⟩ : Act)).length := by rw [List.length_replicate]; omega
    have hg := get_flat encA 4 encA_len (List.replicate n (⟨0, 0, 0, 0⟩ : Act)) (i / 4) hq (i % 4) (by omega)
    rw [show i / 4 * 4 + i % 4 = i by omega] at hg
    have hr : ∀ r, r < 4 → (encA (⟨0, 0, 0, 0⟩ : Act))[r]? = some (Value.int .i64 0) := by
      intro r hr
      match r, hr with
      | 0, _ => rfl
      | 1, _ => rfl
      | 2, _ => rfl
      | 3, _ => rfl
    rw [List.getElem_replicate, hr _ (by omega)] at hg
    have h3 := (List.getElem?_eq_some_iff.1 hg).2
    refine Eq.trans ?_ ((List.getElem_toArray h2).trans h3).symm
    simp only [madeCells, Array.getElem_map, Array.getElem_range]
    have h4 : ∀ r, r < 4 → (#[Value.int .i64 0, Value.int .i64 0, Value.int .i64 0, Value.int .i64 0] : Array Value)[r]! = Value.int .i64 0 := by
      intro r hr
      match r, hr with
      | 0, _ => rfl
      | 1, _ => rfl
      | 2, _ => rfl
      | 3, _ => rfl
    exact h4 _ (Nat.mod_lt _ (by simp))
theorem make_act (n : Nat) (hn : n ≤ 1048576) (w : World) : (Instr.makeSlice 67 (.int .i64 (n : Int)) (.int .i64 (n : Int))).run Tryz.prog w = .ok (.slice (some ⟨w.heap.size, 0, none⟩) n n) (w.alloc (.cells ((List.replicate n (⟨0, 0, 0, 0⟩ : Act)).flatMap encA).toArray 134)) := by
  obtain ⟨i0, hi0, hz0, hz1, hz2⟩ := info_parts info_act
  rw [run_make_rowN 67 134 i0 _ Tryz.underlying67 hi0 hz0 _ _ n n (Nat.le_refl _) (by rw [hz2]; omega) (by omega), hz1]
  simp only [Value.cells]
  rw [zeroes_act]

theorem toAction_any (x : Act) (w : World) :
    Calls Tryz.prog 138 #[.agg #[.int .i64 x.kind, .int .i64 x.src, .int .i64 x.dst, .int .i64 x.amt]] w fun e w' => e = .returned (.agg #[.int .i64 x.kind, .int .i64 x.src, .int .i64 x.dst, .int .i64 x.amt]) ∧ Below w.heap.size w w' := by
  go_enter Tryz.func138, Tryz.ntmps138
  go_wp2
  refine bodyPost_ret (v := .agg #[.int .i64 x.kind, .int .i64 x.src, .int .i64 x.dst, .int .i64 x.amt]) (by simp [results, Tryz.results138, go_sem]) rfl ⟨rfl, ?_⟩
  exact ((((Below.refl _ _).alloc (Nat.le_refl _) _).alloc (by simp) _).alloc (by simp; omega) _)
theorem toActionS_any (A : Option Addr) (c : Nat) (xs : List Act) (w : World) (hb : xs.length ≤ 1048576) (h : Rd w A (xs.flatMap encA)) :
    Calls Tryz.prog 111 #[.slice A xs.length c] w fun e w' => ∃ A' c', e = .returned (.slice A' xs.length c') ∧ w'.ownsRow w.heap.size 134 4 (.slice A' xs.length c') xs.length (xs.flatMap encA) ∧ Below w.heap.size w w' := by
  have hmk := fun W => make_act xs.length hb W
  go_enter Tryz.func111, Tryz.ntmps111
  go_wp2
  go_loopw [4] (fun i wr => ∃ k : Nat, k ≤ xs.length ∧ i = .int .i64 k ∧ wr.ownsRow w.heap.size 134 4 (.slice (some ⟨w.heap.size, 0, none⟩) xs.length xs.length) xs.length ((fill xs ⟨0, 0, 0, 0⟩ k).flatMap encA) ∧ Below w.heap.size w wr) (fun i _ => xs.length - (intOf i).toNat)
  case atStart =>
    refine ⟨0, Nat.zero_le _, rfl, ?_, (Below.refl _ _).alloc (Nat.le_refl _) _⟩
    rw [fill_zero]
    exact own_made (base := w.heap.size) (e := 134) (size := 4) w _ xs.length (Nat.le_refl _) (by simp only [maxLen]; omega) (by rw [List.size_toArray, length_flat encA 4 encA_len, List.length_replicate])
  case round =>
    clear hmk
    obtain ⟨k, hk, rfl, hown, hbel⟩ := hrel
    by_cases hlt : k < xs.length
    · obtain ⟨b, off, rfl, hbb, hc0, hc1, hc2, hc3⟩ := (h.below hbel (Nat.le_refl _)).act hlt
      have hfs := hide (fill_succ xs ⟨0, 0, 0, 0⟩ k hlt)
      generalize hxk : xs[k] = xk at *
      clear hxk
      go_wp2_with fail
      refine (toAction_any _ _).mono ?_
      rintro e w1 ⟨rfl, hb1⟩
      have hown1 := own_new hown hb1
      have hkf : k < (fill xs (⟨0, 0, 0, 0⟩ : Act) k).length := by rw [fill_length _ _ _ hk]; exact hlt
      obtain ⟨⟨u100, hd0⟩, ⟨u101, hd1⟩, ⟨u102, hd2⟩, ⟨u103, hd3⟩⟩ := own_act hown1 hkf
      have hz0 : w1.frozen? ⟨w.heap.size, k * 4, none⟩ = false := own_frozen hown1 _
      have hz1 : w1.frozen? ⟨w.heap.size, k * 4 + 1, none⟩ = false := own_frozen hown1 _
      have hz2 : w1.frozen? ⟨w.heap.size, k * 4 + 2, none⟩ = false := own_frozen hown1 _
      have hz3 : w1.frozen? ⟨w.heap.size, k * 4 + 3, none⟩ = false := own_frozen hown1 _
      have hset := own_act_set hown1 hkf xk
      rw [← unhide hfs] at hset
      have hbel1 := below_then hbel hb1 hbel.size
      clear hown hown1 hkf
      go_wp2
      go_roundw
      case rel => exact ⟨k + 1, by omega, by go_num, hset, (((hbel1.setCell (Nat.le_refl _) _).setCell (Nat.le_refl _) _).setCell (Nat.le_refl _) _).setCell (Nat.le_refl _) _⟩
      case measure => simp [intOf]; omega
    · have : k = xs.length := by omega
      subst this
      rw [fill_all] at hown
      go_wp2
      go_ret
      exact ⟨_, _, rfl, hown, hbel⟩
theorem szActionS_any (A : Option Addr) (n c : Nat) (l : Int) (w : World) (hn : n ≤ 9223372036854775807) (h0 : 0 ≤ l) (h1 : l ≤ 1048576) :
    Calls Tryz.prog 106 #[.slice A n c, .int .i64 l] w fun e w' => e = .returned (.int .i64 (if (n : Int) ≤ l then l - n else -1)) ∧ w = w' := by
  by_cases h : (n : Int) ≤ l
  · have HI := hide (show (if (n : Int) ≤ l then l - (n : Int) else -1) = l - n from if_pos h)
    have h2 : 0 ≤ l - (n : Int) := by omega
    go_enter Tryz.func106, Tryz.ntmps106
    go_wp2
    go_ret
    exact ⟨by first | rfl | exact reti (unhide HI).symm, rfl⟩
  · have HI := hide (show (if (n : Int) ≤ l then l - (n : Int) else -1) = -1 from if_neg h)
    have h2 : l - (n : Int) < 0 := by omega
    go_enter Tryz.func106, Tryz.ntmps106
    go_wp2
    go_ret
    exact ⟨by first | rfl | exact reti (unhide HI).symm, rfl⟩
theorem eqAction_any (x y : Act) (w : World) :
    Calls Tryz.prog 143 #[.agg #[.int .i64 x.kind, .int .i64 x.src, .int .i64 x.dst, .int .i64 x.amt], .agg #[.int .i64 y.kind, .int .i64 y.src, .int .i64 y.dst, .int .i64 y.amt]] w fun e w' => e = .returned (.bool (decide (x = y))) ∧ Below w.heap.size w w' := by
  by_cases h0 : x.kind = y.kind
  · have g0 : (x.kind != y.kind) = false := by simp [h0]
    by_cases h1 : x.src = y.src
    · have g1 : (x.src != y.src) = false := by simp [h1]
      by_cases h2 : x.dst = y.dst
      · have g2 : (x.dst != y.dst) = false := by simp [h2]
        by_cases h3 : x.amt = y.amt
        · have g3 : (x.amt != y.amt) = false := by simp [h3]
          have H := hide (show x = y by cases x; cases y; simp_all)
          clear h0 h1 h2 h3
          go_enter Tryz.func143, Tryz.ntmps143
          go_wp2
          go_ret
          exact ⟨retb (by simp [unhide H]), (((Below.refl _ _).alloc (Nat.le_refl _) _).alloc (by simp) _)⟩
        · have g3 : (x.amt != y.amt) = true := by simp [h3]
          have H := hide (show ¬ x = y by intro h; exact h3 (by rw [h]))
          clear h0 h1 h2 h3
          go_enter Tryz.func143, Tryz.ntmps143
          go_wp2
          go_ret
          exact ⟨retb (by simp [unhide H]), (((Below.refl _ _).alloc (Nat.le_refl _) _).alloc (by simp) _)⟩
      · have g2 : (x.dst != y.dst) = true := by simp [h2]
        have H := hide (show ¬ x = y by intro h; exact h2 (by rw [h]))
        clear h0 h1 h2
        go_enter Tryz.func143, Tryz.ntmps143
        go_wp2
        go_ret
        exact ⟨retb (by simp [unhide H]), (((Below.refl _ _).alloc (Nat.le_refl _) _).alloc (by simp) _)⟩
    · have g1 : (x.src != y.src) = true := by simp [h1]
      have H := hide (show ¬ x = y by intro h; exact h1 (by rw [h]))
      clear h0 h1
      go_enter Tryz.func143, Tryz.ntmps143
      go_wp2
      go_ret
      exact ⟨retb (by simp [unhide H]), (((Below.refl _ _).alloc (Nat.le_refl _) _).alloc (by simp) _)⟩
  · have g0 : (x.kind != y.kind) = true := by simp [h0]
    have H := hide (show ¬ x = y by intro h; exact h0 (by rw [h]))
    clear h0
    go_enter Tryz.func143, Tryz.ntmps143
    go_wp2
    go_ret
    exact ⟨retb (by simp [unhide H]), (((Below.refl _ _).alloc (Nat.le_refl _) _).alloc (by simp) _)⟩
set_option maxRecDepth 100000 in
theorem eqActionS_any (A B : Option Addr) (c d : Nat) (xs ys : List Act) (w : World) (hx : Rd w A (xs.flatMap encA)) (hy : Rd w B (ys.flatMap encA)) (hbx : xs.length ≤ 4611686018427387904) :
    Calls Tryz.prog 118 #[.slice A xs.length c, .slice B ys.length d] w fun e w' => e = .returned (.bool (decide (xs = ys))) ∧ Below w.heap.size w w' := by
  by_cases hl : xs.length = ys.length
  · have hd : ((xs.length : Int) != (ys.length : Int)) = false := by simp [hl]
    have HL := hide hl
    have hl1 : xs.length ≤ ys.length := by omega
    have hl2 : ys.length ≤ xs.length := by omega
    clear hl
    go_enter Tryz.func118, Tryz.ntmps118
    go_wp2
    go_loopw [5] (fun i wr => ∃ k : Nat, k ≤ xs.length ∧ i = .int .i64 k ∧ (∀ j (h1 : j < xs.length) (h2 : j < ys.length), j < k → xs[j] = ys[j]) ∧ Below w.heap.size w wr) (fun i _ => xs.length - (intOf i).toNat)
    case atStart => exact ⟨0, Nat.zero_le _, rfl, fun j _ _ h => absurd h (by omega), Below.refl _ _⟩
    case round =>
      obtain ⟨k, hk, rfl, hsame, hbel⟩ := hrel
      have HS := hide hsame
      clear hsame
      by_cases hlt : k < xs.length
      · have hlt2 : k < ys.length := by omega
        obtain ⟨b, off, rfl, hbb, hc0, hc1, hc2, hc3⟩ := (hx.below hbel (Nat.le_refl _)).act hlt
        obtain ⟨b', off', rfl, hbb', hc0', hc1', hc2', hc3'⟩ := (hy.below hbel (Nat.le_refl _)).act hlt2
        generalize hxk : xs[k] = xk at *
        generalize hyk : ys[k] = yk at *
        have HX := hide hxk
        have HY := hide hyk
        clear hxk hyk
        have i1 : (k : Int) < (xs.length : Int) := by omega
        have i2 : (k : Int) < (ys.length : Int) := by omega
        have hbel2 := hbel.drew
        by_cases he : xk = yk
        · have hn : decide (xk = yk) = true := by simp [he]
          have HE := hide he
          clear he
          go_wp2
          go_still_tail 8, (by kernel_rfl)
          change wpList _ _ _ _ _ wr.drew
          go_wp2_with (go_at_call 143; refine (eqAction_any _ _ _).mono ?_; rintro e w1 ⟨rfl, hb1⟩)
          go_roundw
          case rel =>
            refine ⟨k + 1, by omega, by go_num, fun j h1 h2 hj => ?_, below_then hbel2 hb1 hbel2.size⟩
            rcases Nat.lt_or_ge j k with h3 | h3
            · exact unhide HS j h1 h2 h3
            · have : j = k := by omega
              subst this
              exact (unhide HX).trans ((unhide HE).trans (unhide HY).symm)
          case measure => simp [intOf]; omega
        · have hn : decide (xk = yk) = false := by simp [he]
          have HE := hide he
          clear he
          go_wp2
          go_still_tail 8, (by kernel_rfl)
          change wpList _ _ _ _ _ wr.drew
          go_wp2_with (go_at_call 143; refine (eqAction_any _ _ _).mono ?_; rintro e w1 ⟨rfl, hb1⟩)
          go_ret
          refine ⟨retb ?_, below_then hbel2 hb1 hbel2.size⟩
          symm
          rw [decide_eq_false_iff_not]
          intro hxy
          apply unhide HE
          have h1 := unhide HX
          have h2 := unhide HY
          subst hxy
          exact h1.symm.trans h2
      · go_wp2
        go_ret
        refine ⟨retb ?_, hbel⟩
        symm
        rw [decide_eq_true_iff]
        exact List.ext_getElem (unhide HL) fun j h1 h2 => unhide HS j h1 h2 (by omega)
  · have hd : ((xs.length : Int) != (ys.length : Int)) = true := by simp; omega
    have HL := hide hl
    clear hl
    go_enter Tryz.func118, Tryz.ntmps118
    go_wp2
    go_ret
    refine ⟨retb ?_, Below.refl _ _⟩
    symm
    rw [decide_eq_false_iff_not]
    exact fun h => unhide HL (by rw [h])
def markAct (k : Int) (n : Nat) : List Act := (List.range n).map fun i : Nat => ⟨k + (i : Int) * 4, k + (i : Int) * 4 + 1, k + (i : Int) * 4 + 2, k + (i : Int) * 4 + 3⟩
theorem markAct_succ (k : Int) (n : Nat) : markAct k (n + 1) = markAct k n ++ [⟨k + (n : Int) * 4, k + (n : Int) * 4 + 1, k + (n : Int) * 4 + 2, k + (n : Int) * 4 + 3⟩] := by simp [markAct, List.range_succ]
theorem markAct_length (k : Int) (n : Nat) : (markAct k n).length = n := by simp [markAct]
theorem markAct_get (k : Int) (n i : Nat) (h : i < (markAct k n).length) : (markAct k n)[i] = ⟨k + (i : Int) * 4, k + (i : Int) * 4 + 1, k + (i : Int) * 4 + 2, k + (i : Int) * 4 + 3⟩ := by simp [markAct]
theorem markActionS_any (A : Option Addr) (c base : Nat) (k0 : Int) (xs : List Act) (w : World) (hown : w.ownsRow base 134 4 (.slice A xs.length c) xs.length (xs.flatMap encA)) (hb : xs.length ≤ 1152921504606846976) (h0 : 0 ≤ k0) (h1 : k0 ≤ 1152921504606846976) :
    Calls Tryz.prog 90 #[.slice A xs.length c, .int .i64 k0] w fun e w' => e = .returned (.int .i64 (k0 + xs.length * 4)) ∧ w'.ownsRow base 134 4 (.slice A xs.length c) xs.length ((markAct k0 xs.length).flatMap encA) ∧ Chg (fun g => A = some ⟨g, 0, none⟩) w w' := by
  go_enter Tryz.func90, Tryz.ntmps90
  go_wp2
  go_loopw [1, 5] (fun kk i wr => ∃ k : Nat, k ≤ xs.length ∧ i = .int .i64 k ∧ kk = .int .i64 (k0 + k * 4) ∧ wr.ownsRow base 134 4 (.slice A xs.length c) xs.length ((markAct k0 k ++ xs.drop k).flatMap encA) ∧ Chg (fun g => A = some ⟨g, 0, none⟩) w wr) (fun _ i _ => xs.length - (intOf i).toNat)
  case atStart => exact ⟨0, Nat.zero_le _, rfl, by simp, by simpa [markAct] using hown, Chg.refl _ _⟩
  case round =>
    clear hown
    obtain ⟨k, hk, rfl, rfl, hown, hchg⟩ := hrel
    by_cases hlt : k < xs.length
    · obtain ⟨g, rfl, hg1, hg2⟩ := own_addr hown (by omega)
      have hkf : k < (markAct k0 k ++ xs.drop k).length := by simp [markAct_length]; omega
      obtain ⟨⟨u100, hd0⟩, ⟨u101, hd1⟩, ⟨u102, hd2⟩, ⟨u103, hd3⟩⟩ := own_act hown hkf
      have hz0 : wr.frozen? ⟨g, k * 4, none⟩ = false := own_frozen hown _
      have hz1 : wr.frozen? ⟨g, k * 4 + 1, none⟩ = false := own_frozen hown _
      have hz2 : wr.frozen? ⟨g, k * 4 + 2, none⟩ = false := own_frozen hown _
      have hz3 : wr.frozen? ⟨g, k * 4 + 3, none⟩ = false := own_frozen hown _
      have hset := own_act_set hown hkf ⟨k0 + (k : Int) * 4, k0 + (k : Int) * 4 + 1, k0 + (k : Int) * 4 + 2, k0 + (k : Int) * 4 + 3⟩
      have he : (markAct k0 k ++ xs.drop k).set k ⟨k0 + (k : Int) * 4, k0 + (k : Int) * 4 + 1, k0 + (k : Int) * 4 + 2, k0 + (k : Int) * 4 + 3⟩ = markAct k0 (k + 1) ++ xs.drop (k + 1) := by
        rw [List.set_append_right _ _ (by simp [markAct_length])]
        rw [markAct_length, Nat.sub_self, List.drop_eq_getElem_cons hlt, List.set_cons_zero, markAct_succ]
        simp
      rw [he] at hset
      have q2 : k0 + (k : Int) * 4 + 2 = k0 + (k : Int) * 4 + 1 + 1 := by omega
      have q3 : k0 + (k : Int) * 4 + 3 = k0 + (k : Int) * 4 + 1 + 1 + 1 := by omega
      simp only [q2, q3] at hset
      clear q2 q3
      clear he hkf hown
      go_wp2
      go_roundw
      case rel => exact ⟨k + 1, by omega, by go_num, by go_num, hset, (((hchg.setCell (.inl rfl) _).setCell (.inl rfl) _).setCell (.inl rfl) _).setCell (.inl rfl) _⟩
      case measure => simp [intOf]; omega
    · have : k = xs.length := by omega
      subst this
      rw [List.drop_length, List.append_nil] at hown
      go_wp2
      go_ret
      exact ⟨rfl, hown, hchg⟩
theorem heldActionS_any (A : Option Addr) (c n : Nat) (k0 : Int) (w : World) (hr : Rd w A ((markAct k0 n).flatMap encA)) (hb : n ≤ 1152921504606846976) (h0 : 0 ≤ k0) (h1 : k0 ≤ 1152921504606846976) :
    Calls Tryz.prog 91 #[.slice A n c, .int .i64 k0] w fun e w' => e = .returned (.int .i64 (k0 + n * 4)) ∧ w = w' := by
  go_enter Tryz.func91, Tryz.ntmps91
  go_wp2
  go_loop [1, 5] (fun kk i => ∃ k : Nat, k ≤ n ∧ i = .int .i64 k ∧ kk = .int .i64 (k0 + k * 4)) (fun _ i => n - (intOf i).toNat)
  case atStart => exact ⟨0, Nat.zero_le _, rfl, by simp⟩
  case round =>
    obtain ⟨k, hk, rfl, rfl⟩ := hrel
    by_cases hlt : k < n
    · have hlt' : k < (markAct k0 n).length := by rw [markAct_length]; exact hlt
      obtain ⟨b, off, rfl, hbb, hc0, hc1, hc2, hc3⟩ := hr.act hlt'
      rw [markAct_get] at hc0 hc1 hc2 hc3
      go_wp2
      go_round
      case rel => exact ⟨k + 1, by omega, by go_num, by go_num⟩
      case measure => simp [intOf]; omega
    · have : k = n := by omega
      subst this
      go_wp2
      go_ret
      exact ⟨rfl, rfl⟩
end Go.Proofs.YtmpdopjailomlaaGreat
