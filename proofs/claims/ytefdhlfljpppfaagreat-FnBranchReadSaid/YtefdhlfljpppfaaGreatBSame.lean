/- Equal blocks, of both sides; numbers looked for in slices (printed by gen_in.py from xbsame.in). -/
import Derived.Test.YtefdhlfljpppfaaGreatBSum
import Derived.Test.YtefdhlfljpppfaaGreatActS
import Derived.Test.YtefdhlfljpppfaaGreatSerial
namespace Go.Proofs.YtefdhlfljpppfaaGreat
open Go.RowKit
set_option linter.unusedVariables false
set_option linter.unusedSimpArgs false

theorem bk_ext {x y : Bk} (h0 : x.before = y.before) (h1 : x.height = y.height) (h2 : x.view = y.view) (h3 : x.list = y.list) (h4 : x.root = y.root) (h5 : x.eff = y.eff) : x = y := by cases x; cases y; simp_all
theorem hm_actB : Tryz.prog.eqGuardType Tryz.prog.depth 101 = false := by kernel_rfl
theorem hs_actB : Tryz.prog.stoodInHeld 101 = false := by kernel_rfl
theorem hS_actB : Tryz.prog.underlying 101 = some (.struct (Tryz.prog.fieldsOf 101)) := by kernel_rfl
theorem eqIn_actB (a b : Act) (w : World) : (Op.equalIn 10000 101 (.agg #[.int .i64 a.kind, .int .i64 a.src, .int .i64 a.dst, .int .i64 a.amt]) (.agg #[.int .i64 b.kind, .int .i64 b.src, .int .i64 b.dst, .int .i64 b.amt])).run Tryz.prog w = .ok (decide (a = b)) w := by
  have h3 : Tryz.prog.underlying 3 = some (.int .i64) := Tryz.underlying3
  rw [show (10000 : Nat) = 9998 + 2 from rfl, run_equalIn_agg w _ _ _ _ hS_actB hs_actB]
  simp only [Program.fieldsOf, Tryz.underlying101]
  obtain ⟨a1, a2, a3, a4⟩ := a
  obtain ⟨b1, b2, b3, b4⟩ := b
  simp [go_sem, h3]
  by_cases h1 : a1 = b1 <;> by_cases h2 : a2 = b2 <;> by_cases h3 : a3 = b3 <;> by_cases h4 : a4 = b4 <;> simp [h1, h2, h3, h4]
theorem equalA_any (A B : Option Addr) (c d : Nat) (xs ys : List Act) (w : World) (hx : Rd w A (xs.flatMap encA)) (hy : Rd w B (ys.flatMap encA)) (hbx : xs.length ≤ 4611686018427387904) :
    Calls Tryz.prog 100 #[.slice A xs.length c, .slice B ys.length d] w fun e w' => e = .returned (.bool (decide (xs = ys))) ∧ ∃ m, w.drewN m = w' := by
  by_cases hl : xs.length = ys.length
  · have hd : ((xs.length : Int) != (ys.length : Int)) = false := by simp [hl]
    have HL := hide hl
    have hl1 : xs.length ≤ ys.length := by omega
    have hl2 : ys.length ≤ xs.length := by omega
    clear hl
    go_enter Tryz.func100, Tryz.ntmps100
    go_wp2
    go_loopw [5, 13] (fun _ i wr => ∃ k : Nat, k ≤ xs.length ∧ i = .int .i64 k ∧ (∀ j (h1 : j < xs.length) (h2 : j < ys.length), j < k → xs[j] = ys[j]) ∧ ∃ m, w.drewN m = wr) (fun _ i _ => xs.length - (intOf i).toNat)
    case atStart => exact ⟨0, Nat.zero_le _, rfl, fun j _ _ h => absurd h (by omega), 0, rfl⟩
    case round =>
      obtain ⟨k, hk, rfl, hsame, m, rfl⟩ := hrel
      have HS := hide hsame
      clear hsame
      by_cases hlt : k < xs.length
      · have hlt2 : k < ys.length := by omega
        obtain ⟨b, off, rfl, hbb, c0, c1, c2, c3⟩ := hx.act hlt
        obtain ⟨b', off', rfl, hbb', d0, d1, d2, d3⟩ := hy.act hlt2
        generalize hxk : xs[k] = xk at *
        generalize hyk : ys[k] = yk at *
        have HX := hide hxk
        have HY := hide hyk
        clear hxk hyk
        have i1 : (k : Int) < (xs.length : Int) := by omega
        have i2 : (k : Int) < (ys.length : Int) := by omega
        have e0 := eqIn_actB xk yk
        have e1 := hm_actB
        by_cases he : xk = yk
        · have e2 : decide (xk = yk) = true := by simpa using he
          have HE := hide he
          clear he
          rw [e2] at e0
          clear e2
          go_wp2
          go_quiet (fail)
          go_wp2
          go_roundw
          case rel =>
            refine ⟨k + 1, by omega, by go_num, fun j h1 h2 h3 => ?_, m + nq, rfl⟩
            rcases Nat.lt_or_ge j k with h4 | h4
            · exact unhide HS j h1 h2 h4
            · have : j = k := by omega
              subst this
              rw [unhide HX, unhide HY]
              exact unhide HE
          case measure => simp [intOf]; omega
        · have e2 : decide (xk = yk) = false := by simpa using he
          have HR := hide (show decide (xs = ys) = false by
            rw [decide_eq_false_iff_not]
            intro hh
            apply he
            subst hh
            rw [← unhide HX, ← unhide HY])
          clear he
          rw [e2] at e0
          clear e2
          go_wp2
          go_quiet (fail)
          go_wp2
          go_ret
          exact ⟨retb (unhide HR).symm, _, (World.drewN_drewN _ _ _).symm⟩
      · have HR := hide (show decide (xs = ys) = true by
          rw [decide_eq_true_eq]
          exact List.ext_getElem (unhide HL) fun j h1 h2 => unhide HS j h1 h2 (by omega))
        go_wp2
        go_ret
        exact ⟨retb (unhide HR).symm, m, rfl⟩
  · have hd : ((xs.length : Int) != (ys.length : Int)) = true := by simp; omega
    have HR := hide (show decide (xs = ys) = false by rw [decide_eq_false_iff_not]; intro hh; exact hl (by rw [hh]))
    clear hl
    go_enter Tryz.func100, Tryz.ntmps100
    go_wp2
    go_ret
    exact ⟨retb (unhide HR).symm, 0, rfl⟩
set_option maxRecDepth 100000 in
set_option maxHeartbeats 2000000 in
theorem sameB_impl (x y : Bk) (A : Option Addr) (c : Nat) (B : Option Addr) (d : Nat) (w : World) (h : Rd w A (x.list.flatMap encA)) (k : Rd w B (y.list.flatMap encA)) (hb : x.list.length ≤ 4611686018427387904) (hb2 : y.list.length ≤ 4611686018427387904) :
    Calls Tryz.prog 67 #[.agg #[.int .i64 x.before, .int .i64 x.height, .int .i64 x.view, .slice A x.list.length c, .int .i64 x.root, .int .i64 x.eff], .agg #[.int .i64 y.before, .int .i64 y.height, .int .i64 y.view, .slice B y.list.length d, .int .i64 y.root, .int .i64 y.eff]] w fun e w' => e = .returned (.bool (decide (x = y))) ∧ Below w.heap.size w w' := by
  have hB : Below w.heap.size w ((w.alloc (.cells #[.int .i64 x.before, .int .i64 x.height, .int .i64 x.view, .slice A x.list.length c, .int .i64 x.root, .int .i64 x.eff] 50)).alloc (.cells #[.int .i64 y.before, .int .i64 y.height, .int .i64 y.view, .slice B y.list.length d, .int .i64 y.root, .int .i64 y.eff] 50)) := ((Below.refl _ _).alloc (Nat.le_refl _) _).alloc (by simp) _
  have K0 := (Blk.new w 50 #[.int .i64 x.before, .int .i64 x.height, .int .i64 x.view, .slice A x.list.length c, .int .i64 x.root, .int .i64 x.eff]).alloc (.cells #[.int .i64 y.before, .int .i64 y.height, .int .i64 y.view, .slice B y.list.length d, .int .i64 y.root, .int .i64 y.eff] 50)
  have K1 := Blk.new (w.alloc (.cells #[.int .i64 x.before, .int .i64 x.height, .int .i64 x.view, .slice A x.list.length c, .int .i64 x.root, .int .i64 x.eff] 50)) 50 #[.int .i64 y.before, .int .i64 y.height, .int .i64 y.view, .slice B y.list.length d, .int .i64 y.root, .int .i64 y.eff]
  simp only [World.size_alloc] at K1
  by_cases e0 : x.before = y.before
  rotate_left
  · have HE := hide (show ¬ x = y from fun h => e0 (by rw [h]))
    have g0 : (x.before == y.before) = false := by simpa using e0
    have n0 : (x.before != y.before) = true := by simpa using e0
    clear e0
    go_enter Tryz.func67, Tryz.ntmps67
    go_wp2
    go_ret
    exact ⟨retb (decide_eq_false (unhide HE)).symm, hB⟩
  have H0 := hide e0
  have g0 : (x.before == y.before) = true := by simpa using e0
  have n0 : (x.before != y.before) = false := by simpa using e0
  clear e0
  by_cases e1 : x.height = y.height
  rotate_left
  · have HE := hide (show ¬ x = y from fun h => e1 (by rw [h]))
    have g1 : (x.height == y.height) = false := by simpa using e1
    have n1 : (x.height != y.height) = true := by simpa using e1
    clear e1
    go_enter Tryz.func67, Tryz.ntmps67
    go_wp2
    go_ret
    exact ⟨retb (decide_eq_false (unhide HE)).symm, hB⟩
  have H1 := hide e1
  have g1 : (x.height == y.height) = true := by simpa using e1
  have n1 : (x.height != y.height) = false := by simpa using e1
  clear e1
  by_cases e2 : x.view = y.view
  rotate_left
  · have HE := hide (show ¬ x = y from fun h => e2 (by rw [h]))
    have g2 : (x.view == y.view) = false := by simpa using e2
    have n2 : (x.view != y.view) = true := by simpa using e2
    clear e2
    go_enter Tryz.func67, Tryz.ntmps67
    go_wp2
    go_ret
    exact ⟨retb (decide_eq_false (unhide HE)).symm, hB⟩
  have H2 := hide e2
  have g2 : (x.view == y.view) = true := by simpa using e2
  have n2 : (x.view != y.view) = false := by simpa using e2
  clear e2
  by_cases e3 : x.root = y.root
  rotate_left
  · have HE := hide (show ¬ x = y from fun h => e3 (by rw [h]))
    have g3 : (x.root == y.root) = false := by simpa using e3
    have n3 : (x.root != y.root) = true := by simpa using e3
    clear e3
    go_enter Tryz.func67, Tryz.ntmps67
    go_wp2
    go_ret
    exact ⟨retb (decide_eq_false (unhide HE)).symm, hB⟩
  have H3 := hide e3
  have g3 : (x.root == y.root) = true := by simpa using e3
  have n3 : (x.root != y.root) = false := by simpa using e3
  clear e3
  by_cases e4 : x.eff = y.eff
  rotate_left
  · have HE := hide (show ¬ x = y from fun h => e4 (by rw [h]))
    have g4 : (x.eff == y.eff) = false := by simpa using e4
    have n4 : (x.eff != y.eff) = true := by simpa using e4
    clear e4
    go_enter Tryz.func67, Tryz.ntmps67
    go_wp2
    go_ret
    exact ⟨retb (decide_eq_false (unhide HE)).symm, hB⟩
  have H4 := hide e4
  have g4 : (x.eff == y.eff) = true := by simpa using e4
  have n4 : (x.eff != y.eff) = false := by simpa using e4
  clear e4
  have HD := hide (show decide (x = y) = decide (x.list = y.list) by
    by_cases hl : x.list = y.list
    · rw [decide_eq_true hl, decide_eq_true (bk_ext (unhide H0) (unhide H1) (unhide H2) hl (unhide H3) (unhide H4))]
    · rw [decide_eq_false hl, decide_eq_false (fun e => hl (by rw [e]))])
  go_enter Tryz.func67, Tryz.ntmps67
  go_wp2_with fail
  refine (equalA_any A B c d x.list y.list _ (h.new hB) (k.new hB) hb).mono ?_
  rintro e w' ⟨rfl, m, rfl⟩
  go_wp2
  go_ret
  exact ⟨retb (unhide HD).symm, below_drewN hB m⟩
set_option maxRecDepth 100000 in
set_option maxHeartbeats 2000000 in
theorem sameB_spec (x y : Bk) (A : Option Addr) (c : Nat) (B : Option Addr) (d : Nat) (w : World) (h : Rd w A (x.list.flatMap encA)) (k : Rd w B (y.list.flatMap encA)) (hb : x.list.length ≤ 4611686018427387904) (hb2 : y.list.length ≤ 4611686018427387904) :
    Calls Tryz.prog 75 #[.agg #[.int .i64 x.before, .int .i64 x.height, .int .i64 x.view, .slice A x.list.length c, .int .i64 x.root, .int .i64 x.eff], .agg #[.int .i64 y.before, .int .i64 y.height, .int .i64 y.view, .slice B y.list.length d, .int .i64 y.root, .int .i64 y.eff]] w fun e w' => e = .returned (.bool (decide (x = y))) ∧ Below w.heap.size w w' := by
  have hB : Below w.heap.size w ((w.alloc (.cells #[.int .i64 x.before, .int .i64 x.height, .int .i64 x.view, .slice A x.list.length c, .int .i64 x.root, .int .i64 x.eff] 50)).alloc (.cells #[.int .i64 y.before, .int .i64 y.height, .int .i64 y.view, .slice B y.list.length d, .int .i64 y.root, .int .i64 y.eff] 50)) := ((Below.refl _ _).alloc (Nat.le_refl _) _).alloc (by simp) _
  have K0 := (Blk.new w 50 #[.int .i64 x.before, .int .i64 x.height, .int .i64 x.view, .slice A x.list.length c, .int .i64 x.root, .int .i64 x.eff]).alloc (.cells #[.int .i64 y.before, .int .i64 y.height, .int .i64 y.view, .slice B y.list.length d, .int .i64 y.root, .int .i64 y.eff] 50)
  have K1 := Blk.new (w.alloc (.cells #[.int .i64 x.before, .int .i64 x.height, .int .i64 x.view, .slice A x.list.length c, .int .i64 x.root, .int .i64 x.eff] 50)) 50 #[.int .i64 y.before, .int .i64 y.height, .int .i64 y.view, .slice B y.list.length d, .int .i64 y.root, .int .i64 y.eff]
  simp only [World.size_alloc] at K1
  by_cases e0 : x.before = y.before
  rotate_left
  · have HE := hide (show ¬ x = y from fun h => e0 (by rw [h]))
    have g0 : (x.before == y.before) = false := by simpa using e0
    have n0 : (x.before != y.before) = true := by simpa using e0
    clear e0
    go_enter Tryz.func75, Tryz.ntmps75
    go_wp2
    go_ret
    exact ⟨retb (decide_eq_false (unhide HE)).symm, hB⟩
  have H0 := hide e0
  have g0 : (x.before == y.before) = true := by simpa using e0
  have n0 : (x.before != y.before) = false := by simpa using e0
  clear e0
  by_cases e1 : x.height = y.height
  rotate_left
  · have HE := hide (show ¬ x = y from fun h => e1 (by rw [h]))
    have g1 : (x.height == y.height) = false := by simpa using e1
    have n1 : (x.height != y.height) = true := by simpa using e1
    clear e1
    go_enter Tryz.func75, Tryz.ntmps75
    go_wp2
    go_ret
    exact ⟨retb (decide_eq_false (unhide HE)).symm, hB⟩
  have H1 := hide e1
  have g1 : (x.height == y.height) = true := by simpa using e1
  have n1 : (x.height != y.height) = false := by simpa using e1
  clear e1
  by_cases e2 : x.view = y.view
  rotate_left
  · have HE := hide (show ¬ x = y from fun h => e2 (by rw [h]))
    have g2 : (x.view == y.view) = false := by simpa using e2
    have n2 : (x.view != y.view) = true := by simpa using e2
    clear e2
    go_enter Tryz.func75, Tryz.ntmps75
    go_wp2
    go_ret
    exact ⟨retb (decide_eq_false (unhide HE)).symm, hB⟩
  have H2 := hide e2
  have g2 : (x.view == y.view) = true := by simpa using e2
  have n2 : (x.view != y.view) = false := by simpa using e2
  clear e2
  by_cases e3 : x.root = y.root
  rotate_left
  · have HE := hide (show ¬ x = y from fun h => e3 (by rw [h]))
    have g3 : (x.root == y.root) = false := by simpa using e3
    have n3 : (x.root != y.root) = true := by simpa using e3
    clear e3
    go_enter Tryz.func75, Tryz.ntmps75
    go_wp2
    go_ret
    exact ⟨retb (decide_eq_false (unhide HE)).symm, hB⟩
  have H3 := hide e3
  have g3 : (x.root == y.root) = true := by simpa using e3
  have n3 : (x.root != y.root) = false := by simpa using e3
  clear e3
  by_cases e4 : x.eff = y.eff
  rotate_left
  · have HE := hide (show ¬ x = y from fun h => e4 (by rw [h]))
    have g4 : (x.eff == y.eff) = false := by simpa using e4
    have n4 : (x.eff != y.eff) = true := by simpa using e4
    clear e4
    go_enter Tryz.func75, Tryz.ntmps75
    go_wp2
    go_ret
    exact ⟨retb (decide_eq_false (unhide HE)).symm, hB⟩
  have H4 := hide e4
  have g4 : (x.eff == y.eff) = true := by simpa using e4
  have n4 : (x.eff != y.eff) = false := by simpa using e4
  clear e4
  by_cases hl : x.list.length = y.list.length
  rotate_left
  · have HE := hide (show ¬ x = y from fun h => hl (by rw [h]))
    have g6 : ((x.list.length : Int) != (y.list.length : Int)) = true := by simp; omega
    clear hl
    go_enter Tryz.func75, Tryz.ntmps75
    go_wp2
    go_ret
    exact ⟨retb (decide_eq_false (unhide HE)).symm, hB⟩
  have g6 : ((x.list.length : Int) != (y.list.length : Int)) = false := by simp [hl]
  have HL := hide hl
  have hl1 : x.list.length ≤ y.list.length := by omega
  clear hl
  go_enter Tryz.func75, Tryz.ntmps75
  go_wp2
  obtain ⟨W, hW⟩ : ∃ W : World, W = ((w.alloc (.cells #[.int .i64 x.before, .int .i64 x.height, .int .i64 x.view, .slice A x.list.length c, .int .i64 x.root, .int .i64 x.eff] 50)).alloc (.cells #[.int .i64 y.before, .int .i64 y.height, .int .i64 y.view, .slice B y.list.length d, .int .i64 y.root, .int .i64 y.eff] 50)) := ⟨_, rfl⟩
  rw [← hW] at hB K0 K1
  rw [← hW]
  clear hW
  go_loopw [5] (fun i wr => ∃ k : Nat, k ≤ x.list.length ∧ i = .int .i64 k ∧ (∀ j (h1 : j < x.list.length) (h2 : j < y.list.length), j < k → x.list[j] = y.list[j]) ∧ ∃ m, W.drewN m = wr) (fun i _ => x.list.length - (intOf i).toNat)
  case atStart => exact ⟨0, Nat.zero_le _, rfl, fun j _ _ h => absurd h (by omega), 0, rfl⟩
  case round =>
    obtain ⟨k', hk, rfl, hsame, m, rfl⟩ := hrel
    have HS := hide hsame
    clear hsame
    have x3 : W.cell? ⟨w.heap.size, 3, none⟩ = some (.slice A x.list.length c) := K0.cell 3
    have y3 : W.cell? ⟨w.heap.size + 1, 3, none⟩ = some (.slice B y.list.length d) := K1.cell 3
    by_cases hlt : k' < x.list.length
    · have hlt2 : k' < y.list.length := by omega
      obtain ⟨b, off, rfl, hbb, c0, c1, c2, c3⟩ := (h.new hB).act hlt
      obtain ⟨b', off', rfl, hbb', d0, d1, d2, d3⟩ := (k.new hB).act hlt2
      generalize hxk : x.list[k'] = xk at *
      generalize hyk : y.list[k'] = yk at *
      have HX := hide hxk
      have HY := hide hyk
      clear hxk hyk
      have i1 : (k' : Int) < (x.list.length : Int) := by omega
      have i2 : (k' : Int) < (y.list.length : Int) := by omega
      have e0 := eqIn_actB xk yk
      have e1 := hm_actB
      by_cases he : xk = yk
      · have e2 : decide (xk = yk) = true := by simpa using he
        have HE := hide he
        clear he
        rw [e2] at e0
        clear e2
        go_wp2
        go_quiet (fail)
        go_wp2
        go_roundw
        case rel =>
          refine ⟨k' + 1, by omega, by go_num, fun j h1 h2 h3 => ?_, m + nq, rfl⟩
          rcases Nat.lt_or_ge j k' with h4 | h4
          · exact unhide HS j h1 h2 h4
          · have : j = k' := by omega
            subst this
            rw [unhide HX, unhide HY]
            exact unhide HE
        case measure => simp [intOf]; omega
      · have e2 : decide (xk = yk) = false := by simpa using he
        have HR := hide (show decide (x = y) = false by
          rw [decide_eq_false_iff_not]
          intro hh
          apply he
          subst hh
          rw [← unhide HX, ← unhide HY])
        clear he
        rw [e2] at e0
        clear e2
        go_wp2
        go_quiet (fail)
        go_wp2
        go_ret
        exact ⟨retb (unhide HR).symm, by first | exact below_drewN (below_drewN hB m) _ | exact below_drewN hB _⟩
    · have HR := hide (show decide (x = y) = true by
        rw [decide_eq_true_eq]
        exact bk_ext (unhide H0) (unhide H1) (unhide H2) (List.ext_getElem (unhide HL) fun j h1 h2 => unhide HS j h1 h2 (by omega)) (unhide H3) (unhide H4))
      go_wp2
      go_ret
      exact ⟨retb (unhide HR).symm, below_drewN hB m⟩
/-- the first place of a number, or none -/
def idxL (z : Int) : Nat → List Int → Int
  | _, [] => -1
  | n, x :: xs => if z = x then (n : Int) else idxL z (n + 1) xs
theorem idxL_none {z : Int} {xs : List Int} (n : Nat) (h : z ∉ xs) : idxL z n xs = -1 := by
  induction xs generalizing n with
  | nil => rfl
  | cons x xs ih => rw [idxL, if_neg (fun e => h (by simp [e])), ih (n + 1) (fun e => h (by simp [e]))]
theorem idxL_some {z : Int} {xs : List Int} (n k : Nat) (hk : k < xs.length) (h : xs[k] = z) (hn : ∀ j (hj : j < xs.length), j < k → xs[j] ≠ z) : idxL z n xs = (n + k : Nat) := by
  induction xs generalizing n k with
  | nil => simp at hk
  | cons x xs ih =>
    cases k with
    | zero => rw [idxL, if_pos (by simpa using h.symm)]; rfl
    | succ k =>
      rw [idxL, if_neg (fun e => hn 0 (by simp) (by omega) (by simpa using e.symm)), ih (n + 1) k (by simpa using hk) (by simpa using h) (fun j hj hjk => hn (j + 1) (by simpa using hj) (by omega))]
      omega
theorem idxL_ge (z : Int) (n : Nat) (xs : List Int) : decide (0 ≤ idxL z n xs) = decide (z ∈ xs) := by
  induction xs generalizing n with
  | nil => rfl
  | cons x xs ih =>
    rw [idxL]
    by_cases h : z = x
    · rw [if_pos h, h]; simp
    · rw [if_neg h, ih]
      simp [h]
set_option maxHeartbeats 1000000 in
theorem indexI_any (A : Option Addr) (c : Nat) (xs : List Int) (z : Int) (w : World) (h : Rd w A (xs.map (.int .i64))) (hb : xs.length ≤ 4611686018427387904) :
    Calls Tryz.prog 59 #[.slice A xs.length c, .int .i64 z] w fun e w' => e = .returned (.int .i64 (idxL z 0 xs)) ∧ w = w' := by
  go_enter Tryz.func59, Tryz.ntmps59
  go_wp2
  go_loopw [5, 8] (fun _ i wr => ∃ k : Nat, k ≤ xs.length ∧ i = .int .i64 k ∧ Hid (∀ j (hj : j < xs.length), j < k → xs[j] ≠ z) ∧ w = wr) (fun _ i _ => xs.length - (intOf i).toNat)
  case atStart => exact ⟨0, Nat.zero_le _, rfl, hide fun j _ h => absurd h (by omega), rfl⟩
  case round =>
    obtain ⟨k, hk, rfl, HS, rfl⟩ := hrel
    by_cases hlt : k < xs.length
    · obtain ⟨b, off, rfl, hbb, d0⟩ := h.int hlt
      have i1 : (k : Int) < (xs.length : Int) := by omega
      by_cases he : xs[k] = z
      · have HR := hide (idxL_some 0 k hlt he (unhide HS))
        rw [he] at d0
        clear he
        have hzz : (z == z) = true := by simp
        go_wp2
        go_ret
        exact ⟨reti (by rw [unhide HR]; simp), rfl⟩
      · have hne : (z == xs[k]) = false := by simpa using fun e => he e.symm
        have HN := hide (show ∀ j (hj : j < xs.length), j < k + 1 → xs[j] ≠ z from fun j hj h2 => by
          rcases Nat.lt_or_ge j k with h3 | h3
          · exact unhide HS j hj h3
          · have : j = k := by omega
            subst this
            exact he)
        clear he
        generalize xs[k] = y at *
        go_wp2
        go_roundw
        case rel => exact ⟨k + 1, by omega, by go_num, HN, by trivial⟩
        case measure => simp [intOf]; omega
    · have HR := hide (idxL_none 0 (z := z) (xs := xs) (fun hm => by
        obtain ⟨j, hj, e⟩ := List.getElem_of_mem hm
        exact unhide HS j hj (by omega) e))
      go_wp2
      go_ret
      exact ⟨reti (unhide HR).symm, rfl⟩
theorem containsI_any (A : Option Addr) (c : Nat) (xs : List Int) (z : Int) (w : World) (h : Rd w A (xs.map (.int .i64))) (hb : xs.length ≤ 4611686018427387904) :
    Calls Tryz.prog 63 #[.slice A xs.length c, .int .i64 z] w fun e w' => e = .returned (.bool (decide (z ∈ xs))) ∧ w = w' := by
  have HR := hide (idxL_ge z 0 xs)
  go_enter Tryz.func63, Tryz.ntmps63
  go_wp2_with fail
  refine (indexI_any A c xs z w h hb).mono ?_
  rintro e w' ⟨rfl, rfl⟩
  go_wp2
  go_ret
  exact ⟨retb (unhide HR), rfl⟩
end Go.Proofs.YtefdhlfljpppfaaGreat
