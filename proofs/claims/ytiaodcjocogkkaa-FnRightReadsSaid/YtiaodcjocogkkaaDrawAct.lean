/- Actions that are drawn. -/
import Derived.Test.YtiaodcjocogkkaaDrawKV
import Derived.Test.YtiaodcjocogkkaaAct
import Derived.Outline
namespace Go.Proofs.Ytiaodcjocogkkaa
open Go.RowKit
set_option linter.unusedVariables false
set_option linter.unusedSimpArgs false

def actBd (a : Act) : Prop := (-10 ≤ a.kind ∧ a.kind ≤ 2000000) ∧ (-10 ≤ a.src ∧ a.src ≤ 2000000) ∧ (-10 ≤ a.dst ∧ a.dst ≤ 2000000) ∧ (-10 ≤ a.amt ∧ a.amt ≤ 2000000)
set_option maxHeartbeats 4000000 in
theorem l20Action_any (g N : Nat) (n : Int) (w : World) (h : Rdr w g N) (hN : N ≤ 990000) (hn : 0 ≤ n) (hn2 : n ≤ 1000000) :
    Calls Try.prog 115 #[.pointer (some ⟨g, 0, none⟩), .int .i64 n] w fun e w' => ∃ a : Act, actBd a ∧ e = .returned (.agg #[.int .i64 a.kind, .int .i64 a.src, .int .i64 a.dst, .int .i64 a.amt]) ∧ Rdr w' g (N + 20) ∧ Chg (fun k => k = g) w w' := by
  have hg := h.lt
  have kr := Blk.new w 75 #[.int .i64 0, .int .i64 0, .int .i64 0, .int .i64 0]
  go_enter Try.func115, Try.ntmps115
  go_wp2_with fail
  refine (pick_any g N 6 _ (h.alloc _) (by omega) (by omega) (by omega)).mono ?_
  rintro e w1 ⟨v1, hv1, rfl, h1, ch1⟩
  go_wp2_with fail
  refine (l20Key_any g _ w1 h1 (by omega)).mono ?_
  rintro e w2 ⟨v2, hv2, rfl, h2, ch2⟩
  go_wp2_with fail
  refine (l20Key_any g _ w2 h2 (by omega)).mono ?_
  rintro e w3 ⟨v3, hv3, rfl, h3, ch3⟩
  go_wp2_with fail
  refine (l20Value_any g _ w3 h3 (by omega)).mono ?_
  rintro e w4 ⟨v4, hv4, rfl, h4, ch4⟩
  have q4 := (((((Chg.refl (fun k => k = g) w).alloc (.cells #[.int .i64 0, .int .i64 0, .int .i64 0, .int .i64 0] 75)).trans ch1).trans ch2).trans ch3).trans ch4
  replace kr := (((kr.chg ch1 (by omega)).chg ch2 (by omega)).chg ch3 (by omega)).chg ch4 (by omega)
  have s4 : w.heap.size < w4.heap.size := kr.lt
  clear ch1 ch2 ch3 ch4 h h1 h2 h3
  have hv : v1 = 0 ∨ v1 = 1 ∨ v1 = 2 ∨ v1 = 3 ∨ v1 = 4 ∨ v1 = 5 := by omega
  clear hv1
  rcases hv with rfl | rfl | rfl | rfl | rfl | rfl
  all_goals
    go_wp2_with fail
    refine (odd_any g _ n _ (h4.alloc _) (by omega) hn hn2).mono ?_
    rintro e w5 ⟨b, rfl, -, h5, ch5⟩
    have kb := Blk.chg (Blk.new w4 75 _) ch5 (by omega)
    have k5 := (kr.alloc _).chg ch5 (by omega)
    have q5 := (q4.alloc _).trans ch5
    clear ch5
    obtain ⟨a, ha, kb'⟩ : ∃ a : Act, actBd a ∧ Blk w5 w4.heap.size 75 #[.int .i64 a.kind, .int .i64 a.src, .int .i64 a.dst, .int .i64 a.amt] := by
      first | exact ⟨⟨1, v2, 0, v4⟩, ⟨⟨by simp only []; omega, by simp only []; omega⟩, ⟨by simp only []; omega, by simp only []; omega⟩, ⟨by simp only []; omega, by simp only []; omega⟩, ⟨by simp only []; omega, by simp only []; omega⟩⟩, kb⟩ | exact ⟨⟨2, v2, v3, v4⟩, ⟨⟨by simp only []; omega, by simp only []; omega⟩, ⟨by simp only []; omega, by simp only []; omega⟩, ⟨by simp only []; omega, by simp only []; omega⟩, ⟨by simp only []; omega, by simp only []; omega⟩⟩, kb⟩ | exact ⟨⟨3, v2, v3, 0⟩, ⟨⟨by simp only []; omega, by simp only []; omega⟩, ⟨by simp only []; omega, by simp only []; omega⟩, ⟨by simp only []; omega, by simp only []; omega⟩, ⟨by simp only []; omega, by simp only []; omega⟩⟩, kb⟩ | exact ⟨⟨4, v2, v3, 0⟩, ⟨⟨by simp only []; omega, by simp only []; omega⟩, ⟨by simp only []; omega, by simp only []; omega⟩, ⟨by simp only []; omega, by simp only []; omega⟩, ⟨by simp only []; omega, by simp only []; omega⟩⟩, kb⟩ | exact ⟨⟨5, v2, v3, 0⟩, ⟨⟨by simp only []; omega, by simp only []; omega⟩, ⟨by simp only []; omega, by simp only []; omega⟩, ⟨by simp only []; omega, by simp only []; omega⟩, ⟨by simp only []; omega, by simp only []; omega⟩⟩, kb⟩ | exact ⟨⟨6, v2, 0, v4⟩, ⟨⟨by simp only []; omega, by simp only []; omega⟩, ⟨by simp only []; omega, by simp only []; omega⟩, ⟨by simp only []; omega, by simp only []; omega⟩, ⟨by simp only []; omega, by simp only []; omega⟩⟩, kb⟩
    clear kb
    have HA := hide ha
    obtain ⟨⟨a00, a01⟩, ⟨a10, a11⟩, ⟨a20, a21⟩, ⟨a30, a31⟩⟩ := ha
    cases b
    · have z0 : w5.cell? ⟨w4.heap.size, 0, none⟩ = some (.int .i64 a.kind) := kb'.cell 0
      have z1 : w5.cell? ⟨w4.heap.size, 1, none⟩ = some (.int .i64 a.src) := kb'.cell 1
      have z2 : w5.cell? ⟨w4.heap.size, 2, none⟩ = some (.int .i64 a.dst) := kb'.cell 2
      have z3 : w5.cell? ⟨w4.heap.size, 3, none⟩ = some (.int .i64 a.amt) := kb'.cell 3
      have y0 : w5.cell? ⟨w.heap.size, 0, none⟩ = some (.int .i64 0) := k5.cell 0
      have y1 : w5.cell? ⟨w.heap.size, 1, none⟩ = some (.int .i64 0) := k5.cell 1
      have y2 : w5.cell? ⟨w.heap.size, 2, none⟩ = some (.int .i64 0) := k5.cell 2
      have y3 : w5.cell? ⟨w.heap.size, 3, none⟩ = some (.int .i64 0) := k5.cell 3
      have p0 : w5.frozen? ⟨w.heap.size, 0, none⟩ = false := k5.frozen 0
      have p1 : w5.frozen? ⟨w.heap.size, 1, none⟩ = false := k5.frozen 1
      have p2 : w5.frozen? ⟨w.heap.size, 2, none⟩ = false := k5.frozen 2
      have p3 : w5.frozen? ⟨w.heap.size, 3, none⟩ = false := k5.frozen 3
      have K5 := hide k5
      clear kb' k5
      go_wp2
      have hkf := hide (Blk.set_ (Blk.set_ (Blk.set_ (Blk.set_ (unhide K5) 0 (.int .i64 a.kind)) 1 (.int .i64 a.src)) 2 (.int .i64 a.dst)) 3 (.int .i64 a.amt))
      have hch := (Chg.setCell (Chg.setCell (Chg.setCell (Chg.setCell q5 (p := ⟨w.heap.size, 0, none⟩) (.inr (Nat.le_refl _)) (.int .i64 a.kind)) (p := ⟨w.heap.size, 1, none⟩) (.inr (Nat.le_refl _)) (.int .i64 a.src)) (p := ⟨w.heap.size, 2, none⟩) (.inr (Nat.le_refl _)) (.int .i64 a.dst)) (p := ⟨w.heap.size, 3, none⟩) (.inr (Nat.le_refl _)) (.int .i64 a.amt))
      have hrd := (h5.chg (Chg.setCell (Chg.setCell (Chg.setCell (Chg.setCell (Chg.refl (fun k => k = w.heap.size ∨ k = w4.heap.size) _) (p := ⟨w.heap.size, 0, none⟩) (by simp) (.int .i64 a.kind)) (p := ⟨w.heap.size, 1, none⟩) (by simp) (.int .i64 a.src)) (p := ⟨w.heap.size, 2, none⟩) (by simp) (.int .i64 a.dst)) (p := ⟨w.heap.size, 3, none⟩) (by simp) (.int .i64 a.amt)) (fun k hk hS => by omega))
      generalize hF : World.setCell _ _ _ = wF at hch hrd ⊢
      have kf : Blk wF w.heap.size 75 #[.int .i64 a.kind, .int .i64 a.src, .int .i64 a.dst, .int .i64 a.amt] := by rw [← hF]; exact unhide hkf
      clear hkf hF
      have c0 : wF.cell? ⟨w.heap.size, 0, none⟩ = some (.int .i64 a.kind) := kf.cell 0
      have c1 : wF.cell? ⟨w.heap.size, 1, none⟩ = some (.int .i64 a.src) := kf.cell 1
      have c2 : wF.cell? ⟨w.heap.size, 2, none⟩ = some (.int .i64 a.dst) := kf.cell 2
      have c3 : wF.cell? ⟨w.heap.size, 3, none⟩ = some (.int .i64 a.amt) := kf.cell 3
      refine bodyPost_ret (v := .agg #[.int .i64 a.kind, .int .i64 a.src, .int .i64 a.dst, .int .i64 a.amt]) (by simp [results, Try.results115, go_sem, c0, c1, c2, c3]) rfl ?_
      exact ⟨⟨a.kind, a.src, a.dst, a.amt⟩, unhide HA, rfl, hrd.more (by omega), hch⟩
    · go_wp2_with fail
      refine (pick_any g _ 4 w5 h5 (by omega) (by omega) (by omega)).mono ?_
      rintro e w6 ⟨v6, hv6, rfl, h6, ch6⟩
      have kb6 := kb'.chg ch6 (by omega)
      have k6 := k5.chg ch6 (by omega)
      have q6 := q5.trans ch6
      have s6 : w4.heap.size < w6.heap.size := kb6.lt
      clear kb' k5 q5 ch6 h5
      have hv : v6 = 0 ∨ v6 = 1 ∨ v6 = 2 ∨ v6 = 3 := by omega
      clear hv6
      rcases hv with rfl | rfl | rfl | rfl
      · go_wp2_with fail
        refine (pick_any g _ 2 _ (h6.alloc _) (by omega) (by omega) (by omega)).mono ?_
        rintro e w7 ⟨v7, hv7, rfl, h7, ch7⟩
        obtain ⟨x, hx, hc1⟩ := lit_int [0, 7] ch7 (show ¬ w6.heap.size = g by have := h6.lt; omega) (show v7 < 2 by omega)
        obtain ⟨x0, x1⟩ : -10 ≤ x ∧ x ≤ 2000000 := by simp at hx; omega
        clear hx
        have kb7 := (kb6.alloc _).chg ch7 (by omega)
        have k7 := (k6.alloc _).chg ch7 (by omega)
        have q7 := (q6.alloc _).trans ch7
        clear kb6 k6 q6 ch7 h6
        have z0 : w7.cell? ⟨w4.heap.size, 0, none⟩ = some (.int .i64 a.kind) := kb7.cell 0
        have z1 : w7.cell? ⟨w4.heap.size, 1, none⟩ = some (.int .i64 a.src) := kb7.cell 1
        have z2 : w7.cell? ⟨w4.heap.size, 2, none⟩ = some (.int .i64 a.dst) := kb7.cell 2
        have z3 : w7.cell? ⟨w4.heap.size, 3, none⟩ = some (.int .i64 a.amt) := kb7.cell 3
        have t0 : w7.frozen? ⟨w4.heap.size, 0, none⟩ = false := kb7.frozen 0
        have t1 : w7.frozen? ⟨w4.heap.size, 1, none⟩ = false := kb7.frozen 1
        have t2 : w7.frozen? ⟨w4.heap.size, 2, none⟩ = false := kb7.frozen 2
        have t3 : w7.frozen? ⟨w4.heap.size, 3, none⟩ = false := kb7.frozen 3
        have y0 : w7.cell? ⟨w.heap.size, 0, none⟩ = some (.int .i64 0) := k7.cell 0
        have y1 : w7.cell? ⟨w.heap.size, 1, none⟩ = some (.int .i64 0) := k7.cell 1
        have y2 : w7.cell? ⟨w.heap.size, 2, none⟩ = some (.int .i64 0) := k7.cell 2
        have y3 : w7.cell? ⟨w.heap.size, 3, none⟩ = some (.int .i64 0) := k7.cell 3
        have p0 : w7.frozen? ⟨w.heap.size, 0, none⟩ = false := k7.frozen 0
        have p1 : w7.frozen? ⟨w.heap.size, 1, none⟩ = false := k7.frozen 1
        have p2 : w7.frozen? ⟨w.heap.size, 2, none⟩ = false := k7.frozen 2
        have p3 : w7.frozen? ⟨w.heap.size, 3, none⟩ = false := k7.frozen 3
        have K7 := hide k7
        have s7 : w4.heap.size ≠ w.heap.size := by omega
        clear kb7 k7
        go_wp2
        have hkf := hide (Blk.set_ (Blk.set_ (Blk.set_ (Blk.set_ (Blk.far_ (unhide K7) (p := ⟨w4.heap.size, 0, none⟩) (by simp only []; omega) (.int .i64 x)) 0 (.int .i64 x)) 1 (.int .i64 a.src)) 2 (.int .i64 a.dst)) 3 (.int .i64 a.amt))
        have hch := (Chg.setCell (Chg.setCell (Chg.setCell (Chg.setCell (Chg.setCell q7 (p := ⟨w4.heap.size, 0, none⟩) (.inr (by simp only []; omega)) (.int .i64 x)) (p := ⟨w.heap.size, 0, none⟩) (.inr (Nat.le_refl _)) (.int .i64 x)) (p := ⟨w.heap.size, 1, none⟩) (.inr (Nat.le_refl _)) (.int .i64 a.src)) (p := ⟨w.heap.size, 2, none⟩) (.inr (Nat.le_refl _)) (.int .i64 a.dst)) (p := ⟨w.heap.size, 3, none⟩) (.inr (Nat.le_refl _)) (.int .i64 a.amt))
        have hrd := (h7.chg (Chg.setCell (Chg.setCell (Chg.setCell (Chg.setCell (Chg.setCell (Chg.refl (fun k => k = w.heap.size ∨ k = w4.heap.size) _) (p := ⟨w4.heap.size, 0, none⟩) (by simp) (.int .i64 x)) (p := ⟨w.heap.size, 0, none⟩) (by simp) (.int .i64 x)) (p := ⟨w.heap.size, 1, none⟩) (by simp) (.int .i64 a.src)) (p := ⟨w.heap.size, 2, none⟩) (by simp) (.int .i64 a.dst)) (p := ⟨w.heap.size, 3, none⟩) (by simp) (.int .i64 a.amt)) (fun k hk hS => by omega))
        generalize hF : World.setCell _ _ _ = wF at hch hrd ⊢
        have kf : Blk wF w.heap.size 75 #[.int .i64 x, .int .i64 a.src, .int .i64 a.dst, .int .i64 a.amt] := by rw [← hF]; exact unhide hkf
        clear hkf hF
        have c0 : wF.cell? ⟨w.heap.size, 0, none⟩ = some (.int .i64 x) := kf.cell 0
        have c1 : wF.cell? ⟨w.heap.size, 1, none⟩ = some (.int .i64 a.src) := kf.cell 1
        have c2 : wF.cell? ⟨w.heap.size, 2, none⟩ = some (.int .i64 a.dst) := kf.cell 2
        have c3 : wF.cell? ⟨w.heap.size, 3, none⟩ = some (.int .i64 a.amt) := kf.cell 3
        refine bodyPost_ret (v := .agg #[.int .i64 x, .int .i64 a.src, .int .i64 a.dst, .int .i64 a.amt]) (by simp [results, Try.results115, go_sem, c0, c1, c2, c3]) rfl ?_
        exact ⟨⟨x, a.src, a.dst, a.amt⟩, ⟨⟨x0, x1⟩, ⟨a10, a11⟩, ⟨a20, a21⟩, ⟨a30, a31⟩⟩, rfl, hrd.more (by omega), hch⟩
      · go_wp2_with fail
        refine (pick_any g _ 2 _ (h6.alloc _) (by omega) (by omega) (by omega)).mono ?_
        rintro e w7 ⟨v7, hv7, rfl, h7, ch7⟩
        obtain ⟨x, hx, hc1⟩ := lit_int [-1, 32] ch7 (show ¬ w6.heap.size = g by have := h6.lt; omega) (show v7 < 2 by omega)
        obtain ⟨x0, x1⟩ : -10 ≤ x ∧ x ≤ 2000000 := by simp at hx; omega
        clear hx
        have kb7 := (kb6.alloc _).chg ch7 (by omega)
        have k7 := (k6.alloc _).chg ch7 (by omega)
        have q7 := (q6.alloc _).trans ch7
        clear kb6 k6 q6 ch7 h6
        have z0 : w7.cell? ⟨w4.heap.size, 0, none⟩ = some (.int .i64 a.kind) := kb7.cell 0
        have z1 : w7.cell? ⟨w4.heap.size, 1, none⟩ = some (.int .i64 a.src) := kb7.cell 1
        have z2 : w7.cell? ⟨w4.heap.size, 2, none⟩ = some (.int .i64 a.dst) := kb7.cell 2
        have z3 : w7.cell? ⟨w4.heap.size, 3, none⟩ = some (.int .i64 a.amt) := kb7.cell 3
        have t0 : w7.frozen? ⟨w4.heap.size, 0, none⟩ = false := kb7.frozen 0
        have t1 : w7.frozen? ⟨w4.heap.size, 1, none⟩ = false := kb7.frozen 1
        have t2 : w7.frozen? ⟨w4.heap.size, 2, none⟩ = false := kb7.frozen 2
        have t3 : w7.frozen? ⟨w4.heap.size, 3, none⟩ = false := kb7.frozen 3
        have y0 : w7.cell? ⟨w.heap.size, 0, none⟩ = some (.int .i64 0) := k7.cell 0
        have y1 : w7.cell? ⟨w.heap.size, 1, none⟩ = some (.int .i64 0) := k7.cell 1
        have y2 : w7.cell? ⟨w.heap.size, 2, none⟩ = some (.int .i64 0) := k7.cell 2
        have y3 : w7.cell? ⟨w.heap.size, 3, none⟩ = some (.int .i64 0) := k7.cell 3
        have p0 : w7.frozen? ⟨w.heap.size, 0, none⟩ = false := k7.frozen 0
        have p1 : w7.frozen? ⟨w.heap.size, 1, none⟩ = false := k7.frozen 1
        have p2 : w7.frozen? ⟨w.heap.size, 2, none⟩ = false := k7.frozen 2
        have p3 : w7.frozen? ⟨w.heap.size, 3, none⟩ = false := k7.frozen 3
        have K7 := hide k7
        have s7 : w4.heap.size ≠ w.heap.size := by omega
        clear kb7 k7
        go_wp2
        have hkf := hide (Blk.set_ (Blk.set_ (Blk.set_ (Blk.set_ (Blk.far_ (unhide K7) (p := ⟨w4.heap.size, 1, none⟩) (by simp only []; omega) (.int .i64 x)) 0 (.int .i64 a.kind)) 1 (.int .i64 x)) 2 (.int .i64 a.dst)) 3 (.int .i64 a.amt))
        have hch := (Chg.setCell (Chg.setCell (Chg.setCell (Chg.setCell (Chg.setCell q7 (p := ⟨w4.heap.size, 1, none⟩) (.inr (by simp only []; omega)) (.int .i64 x)) (p := ⟨w.heap.size, 0, none⟩) (.inr (Nat.le_refl _)) (.int .i64 a.kind)) (p := ⟨w.heap.size, 1, none⟩) (.inr (Nat.le_refl _)) (.int .i64 x)) (p := ⟨w.heap.size, 2, none⟩) (.inr (Nat.le_refl _)) (.int .i64 a.dst)) (p := ⟨w.heap.size, 3, none⟩) (.inr (Nat.le_refl _)) (.int .i64 a.amt))
        have hrd := (h7.chg (Chg.setCell (Chg.setCell (Chg.setCell (Chg.setCell (Chg.setCell (Chg.refl (fun k => k = w.heap.size ∨ k = w4.heap.size) _) (p := ⟨w4.heap.size, 1, none⟩) (by simp) (.int .i64 x)) (p := ⟨w.heap.size, 0, none⟩) (by simp) (.int .i64 a.kind)) (p := ⟨w.heap.size, 1, none⟩) (by simp) (.int .i64 x)) (p := ⟨w.heap.size, 2, none⟩) (by simp) (.int .i64 a.dst)) (p := ⟨w.heap.size, 3, none⟩) (by simp) (.int .i64 a.amt)) (fun k hk hS => by omega))
        generalize hF : World.setCell _ _ _ = wF at hch hrd ⊢
        have kf : Blk wF w.heap.size 75 #[.int .i64 a.kind, .int .i64 x, .int .i64 a.dst, .int .i64 a.amt] := by rw [← hF]; exact unhide hkf
        clear hkf hF
        have c0 : wF.cell? ⟨w.heap.size, 0, none⟩ = some (.int .i64 a.kind) := kf.cell 0
        have c1 : wF.cell? ⟨w.heap.size, 1, none⟩ = some (.int .i64 x) := kf.cell 1
        have c2 : wF.cell? ⟨w.heap.size, 2, none⟩ = some (.int .i64 a.dst) := kf.cell 2
        have c3 : wF.cell? ⟨w.heap.size, 3, none⟩ = some (.int .i64 a.amt) := kf.cell 3
        refine bodyPost_ret (v := .agg #[.int .i64 a.kind, .int .i64 x, .int .i64 a.dst, .int .i64 a.amt]) (by simp [results, Try.results115, go_sem, c0, c1, c2, c3]) rfl ?_
        exact ⟨⟨a.kind, x, a.dst, a.amt⟩, ⟨⟨a00, a01⟩, ⟨x0, x1⟩, ⟨a20, a21⟩, ⟨a30, a31⟩⟩, rfl, hrd.more (by omega), hch⟩
      · go_wp2_with fail
        refine (pick_any g _ 2 _ (h6.alloc _) (by omega) (by omega) (by omega)).mono ?_
        rintro e w7 ⟨v7, hv7, rfl, h7, ch7⟩
        obtain ⟨x, hx, hc1⟩ := lit_int [-1, 1000001] ch7 (show ¬ w6.heap.size = g by have := h6.lt; omega) (show v7 < 2 by omega)
        obtain ⟨x0, x1⟩ : -10 ≤ x ∧ x ≤ 2000000 := by simp at hx; omega
        clear hx
        have kb7 := (kb6.alloc _).chg ch7 (by omega)
        have k7 := (k6.alloc _).chg ch7 (by omega)
        have q7 := (q6.alloc _).trans ch7
        clear kb6 k6 q6 ch7 h6
        have z0 : w7.cell? ⟨w4.heap.size, 0, none⟩ = some (.int .i64 a.kind) := kb7.cell 0
        have z1 : w7.cell? ⟨w4.heap.size, 1, none⟩ = some (.int .i64 a.src) := kb7.cell 1
        have z2 : w7.cell? ⟨w4.heap.size, 2, none⟩ = some (.int .i64 a.dst) := kb7.cell 2
        have z3 : w7.cell? ⟨w4.heap.size, 3, none⟩ = some (.int .i64 a.amt) := kb7.cell 3
        have t0 : w7.frozen? ⟨w4.heap.size, 0, none⟩ = false := kb7.frozen 0
        have t1 : w7.frozen? ⟨w4.heap.size, 1, none⟩ = false := kb7.frozen 1
        have t2 : w7.frozen? ⟨w4.heap.size, 2, none⟩ = false := kb7.frozen 2
        have t3 : w7.frozen? ⟨w4.heap.size, 3, none⟩ = false := kb7.frozen 3
        have y0 : w7.cell? ⟨w.heap.size, 0, none⟩ = some (.int .i64 0) := k7.cell 0
        have y1 : w7.cell? ⟨w.heap.size, 1, none⟩ = some (.int .i64 0) := k7.cell 1
        have y2 : w7.cell? ⟨w.heap.size, 2, none⟩ = some (.int .i64 0) := k7.cell 2
        have y3 : w7.cell? ⟨w.heap.size, 3, none⟩ = some (.int .i64 0) := k7.cell 3
        have p0 : w7.frozen? ⟨w.heap.size, 0, none⟩ = false := k7.frozen 0
        have p1 : w7.frozen? ⟨w.heap.size, 1, none⟩ = false := k7.frozen 1
        have p2 : w7.frozen? ⟨w.heap.size, 2, none⟩ = false := k7.frozen 2
        have p3 : w7.frozen? ⟨w.heap.size, 3, none⟩ = false := k7.frozen 3
        have K7 := hide k7
        have s7 : w4.heap.size ≠ w.heap.size := by omega
        clear kb7 k7
        go_wp2
        have hkf := hide (Blk.set_ (Blk.set_ (Blk.set_ (Blk.set_ (Blk.far_ (unhide K7) (p := ⟨w4.heap.size, 3, none⟩) (by simp only []; omega) (.int .i64 x)) 0 (.int .i64 a.kind)) 1 (.int .i64 a.src)) 2 (.int .i64 a.dst)) 3 (.int .i64 x))
        have hch := (Chg.setCell (Chg.setCell (Chg.setCell (Chg.setCell (Chg.setCell q7 (p := ⟨w4.heap.size, 3, none⟩) (.inr (by simp only []; omega)) (.int .i64 x)) (p := ⟨w.heap.size, 0, none⟩) (.inr (Nat.le_refl _)) (.int .i64 a.kind)) (p := ⟨w.heap.size, 1, none⟩) (.inr (Nat.le_refl _)) (.int .i64 a.src)) (p := ⟨w.heap.size, 2, none⟩) (.inr (Nat.le_refl _)) (.int .i64 a.dst)) (p := ⟨w.heap.size, 3, none⟩) (.inr (Nat.le_refl _)) (.int .i64 x))
        have hrd := (h7.chg (Chg.setCell (Chg.setCell (Chg.setCell (Chg.setCell (Chg.setCell (Chg.refl (fun k => k = w.heap.size ∨ k = w4.heap.size) _) (p := ⟨w4.heap.size, 3, none⟩) (by simp) (.int .i64 x)) (p := ⟨w.heap.size, 0, none⟩) (by simp) (.int .i64 a.kind)) (p := ⟨w.heap.size, 1, none⟩) (by simp) (.int .i64 a.src)) (p := ⟨w.heap.size, 2, none⟩) (by simp) (.int .i64 a.dst)) (p := ⟨w.heap.size, 3, none⟩) (by simp) (.int .i64 x)) (fun k hk hS => by omega))
        generalize hF : World.setCell _ _ _ = wF at hch hrd ⊢
        have kf : Blk wF w.heap.size 75 #[.int .i64 a.kind, .int .i64 a.src, .int .i64 a.dst, .int .i64 x] := by rw [← hF]; exact unhide hkf
        clear hkf hF
        have c0 : wF.cell? ⟨w.heap.size, 0, none⟩ = some (.int .i64 a.kind) := kf.cell 0
        have c1 : wF.cell? ⟨w.heap.size, 1, none⟩ = some (.int .i64 a.src) := kf.cell 1
        have c2 : wF.cell? ⟨w.heap.size, 2, none⟩ = some (.int .i64 a.dst) := kf.cell 2
        have c3 : wF.cell? ⟨w.heap.size, 3, none⟩ = some (.int .i64 x) := kf.cell 3
        refine bodyPost_ret (v := .agg #[.int .i64 a.kind, .int .i64 a.src, .int .i64 a.dst, .int .i64 x]) (by simp [results, Try.results115, go_sem, c0, c1, c2, c3]) rfl ?_
        exact ⟨⟨a.kind, a.src, a.dst, x⟩, ⟨⟨a00, a01⟩, ⟨a10, a11⟩, ⟨a20, a21⟩, ⟨x0, x1⟩⟩, rfl, hrd.more (by omega), hch⟩
      · have z0 : w6.cell? ⟨w4.heap.size, 0, none⟩ = some (.int .i64 a.kind) := kb6.cell 0
        have z1 : w6.cell? ⟨w4.heap.size, 1, none⟩ = some (.int .i64 a.src) := kb6.cell 1
        have z2 : w6.cell? ⟨w4.heap.size, 2, none⟩ = some (.int .i64 a.dst) := kb6.cell 2
        have z3 : w6.cell? ⟨w4.heap.size, 3, none⟩ = some (.int .i64 a.amt) := kb6.cell 3
        have t0 : w6.frozen? ⟨w4.heap.size, 0, none⟩ = false := kb6.frozen 0
        have t1 : w6.frozen? ⟨w4.heap.size, 1, none⟩ = false := kb6.frozen 1
        have t2 : w6.frozen? ⟨w4.heap.size, 2, none⟩ = false := kb6.frozen 2
        have t3 : w6.frozen? ⟨w4.heap.size, 3, none⟩ = false := kb6.frozen 3
        have y0 : w6.cell? ⟨w.heap.size, 0, none⟩ = some (.int .i64 0) := k6.cell 0
        have y1 : w6.cell? ⟨w.heap.size, 1, none⟩ = some (.int .i64 0) := k6.cell 1
        have y2 : w6.cell? ⟨w.heap.size, 2, none⟩ = some (.int .i64 0) := k6.cell 2
        have y3 : w6.cell? ⟨w.heap.size, 3, none⟩ = some (.int .i64 0) := k6.cell 3
        have p0 : w6.frozen? ⟨w.heap.size, 0, none⟩ = false := k6.frozen 0
        have p1 : w6.frozen? ⟨w.heap.size, 1, none⟩ = false := k6.frozen 1
        have p2 : w6.frozen? ⟨w.heap.size, 2, none⟩ = false := k6.frozen 2
        have p3 : w6.frozen? ⟨w.heap.size, 3, none⟩ = false := k6.frozen 3
        have K7 := hide k6
        have s7 : w4.heap.size ≠ w.heap.size := by omega
        clear kb6 k6
        go_wp2
        have hkf := hide (Blk.set_ (Blk.set_ (Blk.set_ (Blk.set_ (Blk.far_ (Blk.far_ (Blk.far_ (Blk.far_ (unhide K7) (p := ⟨w4.heap.size, 0, none⟩) (by simp only []; omega) (.int .i64 1)) (p := ⟨w4.heap.size, 1, none⟩) (by simp only []; omega) (.int .i64 0)) (p := ⟨w4.heap.size, 2, none⟩) (by simp only []; omega) (.int .i64 1)) (p := ⟨w4.heap.size, 3, none⟩) (by simp only []; omega) (.int .i64 0)) 0 (.int .i64 1)) 1 (.int .i64 0)) 2 (.int .i64 1)) 3 (.int .i64 0))
        have hch := (Chg.setCell (Chg.setCell (Chg.setCell (Chg.setCell (Chg.setCell (Chg.setCell (Chg.setCell (Chg.setCell q6 (p := ⟨w4.heap.size, 0, none⟩) (.inr (by simp only []; omega)) (.int .i64 1)) (p := ⟨w4.heap.size, 1, none⟩) (.inr (by simp only []; omega)) (.int .i64 0)) (p := ⟨w4.heap.size, 2, none⟩) (.inr (by simp only []; omega)) (.int .i64 1)) (p := ⟨w4.heap.size, 3, none⟩) (.inr (by simp only []; omega)) (.int .i64 0)) (p := ⟨w.heap.size, 0, none⟩) (.inr (Nat.le_refl _)) (.int .i64 1)) (p := ⟨w.heap.size, 1, none⟩) (.inr (Nat.le_refl _)) (.int .i64 0)) (p := ⟨w.heap.size, 2, none⟩) (.inr (Nat.le_refl _)) (.int .i64 1)) (p := ⟨w.heap.size, 3, none⟩) (.inr (Nat.le_refl _)) (.int .i64 0))
        have hrd := (h6.chg (Chg.setCell (Chg.setCell (Chg.setCell (Chg.setCell (Chg.setCell (Chg.setCell (Chg.setCell (Chg.setCell (Chg.refl (fun k => k = w.heap.size ∨ k = w4.heap.size) _) (p := ⟨w4.heap.size, 0, none⟩) (by simp) (.int .i64 1)) (p := ⟨w4.heap.size, 1, none⟩) (by simp) (.int .i64 0)) (p := ⟨w4.heap.size, 2, none⟩) (by simp) (.int .i64 1)) (p := ⟨w4.heap.size, 3, none⟩) (by simp) (.int .i64 0)) (p := ⟨w.heap.size, 0, none⟩) (by simp) (.int .i64 1)) (p := ⟨w.heap.size, 1, none⟩) (by simp) (.int .i64 0)) (p := ⟨w.heap.size, 2, none⟩) (by simp) (.int .i64 1)) (p := ⟨w.heap.size, 3, none⟩) (by simp) (.int .i64 0)) (fun k hk hS => by omega))
        generalize hF : World.setCell _ _ _ = wF at hch hrd ⊢
        have kf : Blk wF w.heap.size 75 #[.int .i64 1, .int .i64 0, .int .i64 1, .int .i64 0] := by rw [← hF]; exact unhide hkf
        clear hkf hF
        have c0 : wF.cell? ⟨w.heap.size, 0, none⟩ = some (.int .i64 1) := kf.cell 0
        have c1 : wF.cell? ⟨w.heap.size, 1, none⟩ = some (.int .i64 0) := kf.cell 1
        have c2 : wF.cell? ⟨w.heap.size, 2, none⟩ = some (.int .i64 1) := kf.cell 2
        have c3 : wF.cell? ⟨w.heap.size, 3, none⟩ = some (.int .i64 0) := kf.cell 3
        refine bodyPost_ret (v := .agg #[.int .i64 1, .int .i64 0, .int .i64 1, .int .i64 0]) (by simp [results, Try.results115, go_sem, c0, c1, c2, c3]) rfl ?_
        exact ⟨⟨1, 0, 1, 0⟩, ⟨by simp only []; omega, by simp only []; omega, by simp only []; omega, by simp only []; omega⟩, rfl, hrd.more (by omega), hch⟩
end Go.Proofs.Ytiaodcjocogkkaa
