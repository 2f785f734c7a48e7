/- Effect by value, in the laws: to, sz, eq. Printed by gen_val.py. -/
import Derived.Test.YtiaodcjocogkkaaBlk
namespace Go.Proofs.Ytiaodcjocogkkaa
open Go.RowKit
set_option linter.unusedVariables false
set_option linter.unusedSimpArgs false

theorem info_valEffect : (Try.prog.info? 71).map (·.size) = some 3 := by kernel_rfl
set_option maxRecDepth 100000 in
set_option maxHeartbeats 1000000 in
theorem toEffect_any (x : Eff) (A1 : Option Addr) (c1 : Nat) (A2 : Option Addr) (c2 : Nat) (w : World) (h1 : Rd w A1 (x.reads.flatMap encE)) (hb1 : x.reads.length ≤ 1048576) (h2 : Rd w A2 (x.writes.flatMap encE)) (hb2 : x.writes.length ≤ 1048576) :
    Calls Try.prog 54 #[.agg #[.bool x.done, .slice A1 x.reads.length c1, .slice A2 x.writes.length c2]] w fun e w' => ∃ B1 d1 B2 d2, e = .returned (.agg #[.bool x.done, .slice B1 x.reads.length d1, .slice B2 x.writes.length d2]) ∧ w'.ownsRow w.heap.size 80 2 (.slice B1 x.reads.length d1) x.reads.length (x.reads.flatMap encE) ∧ w'.ownsRow w.heap.size 80 2 (.slice B2 x.writes.length d2) x.writes.length (x.writes.flatMap encE) ∧ (∀ p q, B1 = some ⟨p, 0, none⟩ → B2 = some ⟨q, 0, none⟩ → p < q) ∧ Below w.heap.size w w' := by
  have k0 := ((Blk.new w 78 #[.bool x.done, .slice A1 x.reads.length c1, .slice A2 x.writes.length c2]).alloc (.cells #[.bool false, .slice none 0 0, .slice none 0 0] 71)).alloc (.cells #[.bool x.done, .slice none 0 0, .slice none 0 0] 71)
  have k1 := (Blk.new (w.alloc (.cells #[.bool x.done, .slice A1 x.reads.length c1, .slice A2 x.writes.length c2] 78)) 71 #[.bool false, .slice none 0 0, .slice none 0 0]).alloc (.cells #[.bool x.done, .slice none 0 0, .slice none 0 0] 71)
  have k2 := Blk.new ((w.alloc (.cells #[.bool x.done, .slice A1 x.reads.length c1, .slice A2 x.writes.length c2] 78)).alloc (.cells #[.bool false, .slice none 0 0, .slice none 0 0] 71)) 71 #[.bool x.done, .slice none 0 0, .slice none 0 0]
  have hB : Below w.heap.size w (((w.alloc (.cells #[.bool x.done, .slice A1 x.reads.length c1, .slice A2 x.writes.length c2] 78)).alloc (.cells #[.bool false, .slice none 0 0, .slice none 0 0] 71)).alloc (.cells #[.bool x.done, .slice none 0 0, .slice none 0 0] 71)) := (((Below.refl _ _).alloc (Nat.le_refl _) _).alloc (by simp) _).alloc (by simp; omega) _
  have hN := hB.size
  simp only [World.size_alloc] at k1 k2
  go_enter Try.func54, Try.ntmps54
  go_wp2_with fail
  refine (toEntryS_any A1 c1 x.reads _ hb1 (h1.new hB)).mono ?_
  rintro e v1 ⟨B1, d1, rfl, o1, b1⟩
  have hs1 := b1.size
  have HL1 := hide (own_rng o1)
  replace o1 := own_base o1 hB.size
  replace hB := bthen hB b1
  replace k0 := k0.new_ b1
  replace k1 := k1.new_ b1
  replace k2 := k2.new_ b1
  have hn1 := k2.lt
  have z0 : v1.cell? ⟨w.heap.size, 0, none⟩ = some _ := k0.cell 0
  have z1 : v1.cell? ⟨w.heap.size, 1, none⟩ = some _ := k0.cell 1
  have z2 : v1.cell? ⟨w.heap.size, 2, none⟩ = some _ := k0.cell 2
  have v0_ : v1.cell? ⟨w.heap.size + 1 + 1, 0, none⟩ = some _ := k2.cell 0
  have q0 : v1.frozen? ⟨w.heap.size + 1 + 1, 0, none⟩ = false := k2.frozen 0
  have v1_ : v1.cell? ⟨w.heap.size + 1 + 1, 1, none⟩ = some _ := k2.cell 1
  have q1 : v1.frozen? ⟨w.heap.size + 1 + 1, 1, none⟩ = false := k2.frozen 1
  have v2_ : v1.cell? ⟨w.heap.size + 1 + 1, 2, none⟩ = some _ := k2.cell 2
  have q2 : v1.frozen? ⟨w.heap.size + 1 + 1, 2, none⟩ = false := k2.frozen 2
  have hc := (Chg.refl (fun k => k = w.heap.size + 1 + 1) v1).setCell (S := fun k => k = w.heap.size + 1 + 1) (p := ⟨w.heap.size + 1 + 1, 1, none⟩) (.inl rfl) (.slice B1 x.reads.length d1)
  replace k0 := k0.chg hc (by omega)
  replace k1 := k1.chg hc (by omega)
  replace k2 := (k2).set_ 1 (.slice B1 x.reads.length d1)
  replace o1 := own_chg o1 hc (fun g hA hg => by have := unhide HL1 g hA; simp at this; omega)
  replace hB := hB.trans (hc.below (fun k hk e => by omega) hB.size)
  clear hc
  go_wp2_with fail
  clear z0 v0_ q0 z1 v1_ q1 z2 v2_ q2
  refine (toEntryS_any A2 c2 x.writes _ hb2 (h2.new hB)).mono ?_
  rintro e v2 ⟨B2, d2, rfl, o2, b2⟩
  have hs2 := b2.size
  have HL2 := hide (own_rng o2)
  replace o2 := own_base o2 hB.size
  replace o1 := own_new o1 b2
  replace hB := bthen hB b2
  replace k0 := k0.new_ b2
  replace k1 := k1.new_ b2
  replace k2 := k2.new_ b2
  have hn2 := k2.lt
  have z0 : v2.cell? ⟨w.heap.size, 0, none⟩ = some _ := k0.cell 0
  have z1 : v2.cell? ⟨w.heap.size, 1, none⟩ = some _ := k0.cell 1
  have z2 : v2.cell? ⟨w.heap.size, 2, none⟩ = some _ := k0.cell 2
  have v0_ : v2.cell? ⟨w.heap.size + 1 + 1, 0, none⟩ = some _ := k2.cell 0
  have q0 : v2.frozen? ⟨w.heap.size + 1 + 1, 0, none⟩ = false := k2.frozen 0
  have v1_ : v2.cell? ⟨w.heap.size + 1 + 1, 1, none⟩ = some _ := k2.cell 1
  have q1 : v2.frozen? ⟨w.heap.size + 1 + 1, 1, none⟩ = false := k2.frozen 1
  have v2_ : v2.cell? ⟨w.heap.size + 1 + 1, 2, none⟩ = some _ := k2.cell 2
  have q2 : v2.frozen? ⟨w.heap.size + 1 + 1, 2, none⟩ = false := k2.frozen 2
  have y0 : v2.cell? ⟨w.heap.size + 1, 0, none⟩ = some _ := k1.cell 0
  have p0 : v2.frozen? ⟨w.heap.size + 1, 0, none⟩ = false := k1.frozen 0
  have y1 : v2.cell? ⟨w.heap.size + 1, 1, none⟩ = some _ := k1.cell 1
  have p1 : v2.frozen? ⟨w.heap.size + 1, 1, none⟩ = false := k1.frozen 1
  have y2 : v2.cell? ⟨w.heap.size + 1, 2, none⟩ = some _ := k1.cell 2
  have p2 : v2.frozen? ⟨w.heap.size + 1, 2, none⟩ = false := k1.frozen 2
  clear k0 k2
  have K1 := hide k1
  clear k1
  go_wp2
  have kb := Blk.set_ (Blk.set_ (Blk.set_ (Blk.far_ (unhide K1) (p := ⟨w.heap.size + 1 + 1, 2, none⟩) (by simp only []; omega) (.slice B2 x.writes.length d2)) 0 (.bool x.done)) 1 (.slice B1 x.reads.length d1)) 2 (.slice B2 x.writes.length d2)
  refine bodyPost_ret (v := .agg #[.bool x.done, .slice B1 x.reads.length d1, .slice B2 x.writes.length d2]) (results_cell_row rfl _ _ (w.heap.size + 1) 71 #[.bool x.done, .slice B1 x.reads.length d1, .slice B2 x.writes.length d2] (0, 0) _ rfl kb Try.underlying71 rfl info_valEffect) rfl ⟨B1, d1, B2, d2, rfl, ?_⟩
  have hc := ((((Chg.refl (fun k => k = w.heap.size + 1 + 1 ∨ k = w.heap.size + 1) v2).setCell (S := fun k => k = w.heap.size + 1 + 1 ∨ k = w.heap.size + 1) (p := ⟨w.heap.size + 1 + 1, 2, none⟩) (by simp) (.slice B2 x.writes.length d2)).setCell (S := fun k => k = w.heap.size + 1 + 1 ∨ k = w.heap.size + 1) (p := ⟨w.heap.size + 1, 0, none⟩) (by simp) (.bool x.done)).setCell (S := fun k => k = w.heap.size + 1 + 1 ∨ k = w.heap.size + 1) (p := ⟨w.heap.size + 1, 1, none⟩) (by simp) (.slice B1 x.reads.length d1)).setCell (S := fun k => k = w.heap.size + 1 + 1 ∨ k = w.heap.size + 1) (p := ⟨w.heap.size + 1, 2, none⟩) (by simp) (.slice B2 x.writes.length d2)
  exact ⟨own_chg o1 hc (fun g hA hg => by have := unhide HL1 g hA; simp at this; omega), own_chg o2 hc (fun g hA hg => by have := unhide HL2 g hA; simp at this; omega), fun p q e1 e2 => by have h1 := unhide HL1 p e1; have h2 := unhide HL2 q e2; simp at h1 h2; omega, hB.trans (hc.below (fun k hk e => by omega) hB.size)⟩
set_option maxHeartbeats 1000000 in
theorem szEffect_any (x : Eff) (A1 : Option Addr) (c1 : Nat) (A2 : Option Addr) (c2 : Nat) (l : Int) (w : World) (hn1 : x.reads.length ≤ 9223372036854775807) (hn2 : x.writes.length ≤ 9223372036854775807) (h0 : 0 ≤ l) (h1 : l ≤ 1048576) :
    Calls Try.prog 48 #[.agg #[.bool x.done, .slice A1 x.reads.length c1, .slice A2 x.writes.length c2], .int .i64 l] w fun e w' => e = .returned (.int .i64 (if (x.reads.length : Int) + (x.writes.length : Int) ≤ l then l - ((x.reads.length : Int) + (x.writes.length : Int)) else -1)) ∧ Below w.heap.size w w' := by
  by_cases g1 : (x.reads.length : Int) ≤ l
  rotate_left
  · skip
    go_enter Try.func48, Try.ntmps48
    go_wp2_with fail
    refine (szEntryS_any A1 x.reads.length c1 (l) _ hn1 (by omega) (by omega)).mono ?_
    rintro e w' ⟨rfl, rfl⟩
    rw [if_neg (by omega)]
    go_wp2
    go_ret
    exact ⟨by first | rfl | exact reti (by omega) | exact reti (by rw [if_neg (by omega)]; omega) | exact reti (by rw [if_neg (by omega)]), (Below.refl _ _).alloc (Nat.le_refl _) _⟩
  by_cases g2 : (x.writes.length : Int) ≤ l - (x.reads.length : Int)
  rotate_left
  · skip
    go_enter Try.func48, Try.ntmps48
    go_wp2_with fail
    refine (szEntryS_any A1 x.reads.length c1 (l) _ hn1 (by omega) (by omega)).mono ?_
    rintro e w' ⟨rfl, rfl⟩
    rw [if_pos (by omega)]
    have hh0 : ¬ (l - (x.reads.length : Int)) < 0 := by omega
    go_wp2_with fail
    refine (szEntryS_any A2 x.writes.length c2 (l - (x.reads.length : Int)) _ hn2 (by omega) (by omega)).mono ?_
    rintro e w' ⟨rfl, rfl⟩
    rw [if_neg (by omega)]
    go_wp2
    go_ret
    exact ⟨by first | rfl | exact reti (by omega) | exact reti (by rw [if_neg (by omega)]; omega) | exact reti (by rw [if_neg (by omega)]), (Below.refl _ _).alloc (Nat.le_refl _) _⟩
  go_enter Try.func48, Try.ntmps48
  go_wp2_with fail
  refine (szEntryS_any A1 x.reads.length c1 (l) _ hn1 (by omega) (by omega)).mono ?_
  rintro e w' ⟨rfl, rfl⟩
  rw [if_pos (by omega)]
  have hh0 : ¬ (l - (x.reads.length : Int)) < 0 := by omega
  go_wp2_with fail
  refine (szEntryS_any A2 x.writes.length c2 (l - (x.reads.length : Int)) _ hn2 (by omega) (by omega)).mono ?_
  rintro e w' ⟨rfl, rfl⟩
  rw [if_pos (by omega)]
  have hh1 : ¬ (l - (x.reads.length : Int) - (x.writes.length : Int)) < 0 := by omega
  go_wp2
  go_ret
  exact ⟨by first | rfl | exact reti (by omega) | exact reti (by rw [if_pos (by omega)]; omega) | exact reti (by rw [if_pos (by omega)]), (Below.refl _ _).alloc (Nat.le_refl _) _⟩
set_option maxHeartbeats 1000000 in
theorem eqEffect_any (x y : Eff) (A1 : Option Addr) (c1 : Nat) (B1 : Option Addr) (d1 : Nat) (A2 : Option Addr) (c2 : Nat) (B2 : Option Addr) (d2 : Nat) (w : World) (h1 : Rd w A1 (x.reads.flatMap encE)) (k1 : Rd w B1 (y.reads.flatMap encE)) (hb1 : x.reads.length ≤ 4611686018427387904) (h2 : Rd w A2 (x.writes.flatMap encE)) (k2 : Rd w B2 (y.writes.flatMap encE)) (hb2 : x.writes.length ≤ 4611686018427387904) :
    Calls Try.prog 59 #[.agg #[.bool x.done, .slice A1 x.reads.length c1, .slice A2 x.writes.length c2], .agg #[.bool y.done, .slice B1 y.reads.length d1, .slice B2 y.writes.length d2]] w fun e w' => e = .returned (.bool (decide (x = y))) ∧ Below w.heap.size w w' := by
  have hB : Below w.heap.size w ((w.alloc (.cells #[.bool x.done, .slice A1 x.reads.length c1, .slice A2 x.writes.length c2] 71)).alloc (.cells #[.bool y.done, .slice B1 y.reads.length d1, .slice B2 y.writes.length d2] 71)) := ((Below.refl _ _).alloc (Nat.le_refl _) _).alloc (by simp) _
  have K0 := (Blk.new w 71 #[.bool x.done, .slice A1 x.reads.length c1, .slice A2 x.writes.length c2]).alloc (.cells #[.bool y.done, .slice B1 y.reads.length d1, .slice B2 y.writes.length d2] 71)
  have K1 := Blk.new (w.alloc (.cells #[.bool x.done, .slice A1 x.reads.length c1, .slice A2 x.writes.length c2] 71)) 71 #[.bool y.done, .slice B1 y.reads.length d1, .slice B2 y.writes.length d2]
  simp only [World.size_alloc] at K1
  obtain ⟨x_done, x_reads, x_writes⟩ := x
  obtain ⟨y_done, y_reads, y_writes⟩ := y
  simp only at *
  cases x_done <;> cases y_done
  case false.false =>
    by_cases e1 : x_reads = y_reads
    rotate_left
    · have HE := hide (show ¬ (⟨false, x_reads, x_writes⟩ : Eff) = ⟨false, y_reads, y_writes⟩ from fun h => e1 (by injection h))
      have H1 := hide e1
      clear e1
      go_enter Try.func59, Try.ntmps59
      go_wp2_with fail
      refine (eqEntryS_any A1 B1 c1 d1 _ _ _ (h1.new hB) (k1.new hB) hb1).mono ?_
      rintro e u1 ⟨rfl, b1⟩
      replace hB := bthen hB b1
      replace K0 := K0.new_ b1
      replace K1 := K1.new_ b1
      rw [decide_eq_false (unhide H1)]
      go_wp2
      go_ret
      exact ⟨retb (by rw [decide_eq_false (unhide HE)]), hB⟩
    have H1 := hide e1
    clear e1
    by_cases e2 : x_writes = y_writes
    rotate_left
    · have HE := hide (show ¬ (⟨false, x_reads, x_writes⟩ : Eff) = ⟨false, y_reads, y_writes⟩ from fun h => e2 (by injection h))
      have H2 := hide e2
      clear e2
      go_enter Try.func59, Try.ntmps59
      go_wp2_with fail
      refine (eqEntryS_any A1 B1 c1 d1 _ _ _ (h1.new hB) (k1.new hB) hb1).mono ?_
      rintro e u1 ⟨rfl, b1⟩
      replace hB := bthen hB b1
      replace K0 := K0.new_ b1
      replace K1 := K1.new_ b1
      rw [decide_eq_true (unhide H1)]
      have y1_2 : u1.cell? ⟨w.heap.size, 2, none⟩ = some _ := K0.cell 2
      have x1_2 : u1.cell? ⟨w.heap.size + 1, 2, none⟩ = some _ := K1.cell 2
      go_wp2_with fail
      refine (eqEntryS_any A2 B2 c2 d2 _ _ _ (h2.new hB) (k2.new hB) hb2).mono ?_
      rintro e u2 ⟨rfl, b2⟩
      replace hB := bthen hB b2
      replace K0 := K0.new_ b2
      replace K1 := K1.new_ b2
      rw [decide_eq_false (unhide H2)]
      go_wp2
      go_ret
      exact ⟨retb (by rw [decide_eq_false (unhide HE)]), hB⟩
    have H2 := hide e2
    clear e2
    have HE := hide (show (⟨false, x_reads, x_writes⟩ : Eff) = ⟨false, y_reads, y_writes⟩ by have e1 := unhide H1; have e2 := unhide H2; simp_all)
    go_enter Try.func59, Try.ntmps59
    go_wp2_with fail
    refine (eqEntryS_any A1 B1 c1 d1 _ _ _ (h1.new hB) (k1.new hB) hb1).mono ?_
    rintro e u1 ⟨rfl, b1⟩
    replace hB := bthen hB b1
    replace K0 := K0.new_ b1
    replace K1 := K1.new_ b1
    rw [decide_eq_true (unhide H1)]
    have y1_2 : u1.cell? ⟨w.heap.size, 2, none⟩ = some _ := K0.cell 2
    have x1_2 : u1.cell? ⟨w.heap.size + 1, 2, none⟩ = some _ := K1.cell 2
    go_wp2_with fail
    refine (eqEntryS_any A2 B2 c2 d2 _ _ _ (h2.new hB) (k2.new hB) hb2).mono ?_
    rintro e u2 ⟨rfl, b2⟩
    replace hB := bthen hB b2
    replace K0 := K0.new_ b2
    replace K1 := K1.new_ b2
    rw [decide_eq_true (unhide H2)]
    go_wp2
    go_ret
    exact ⟨retb (by rw [decide_eq_true (unhide HE)]), hB⟩
  case false.true =>
    go_enter Try.func59, Try.ntmps59
    go_wp2
    go_ret
    exact ⟨retb (by simp), hB⟩
  case true.false =>
    go_enter Try.func59, Try.ntmps59
    go_wp2
    go_ret
    exact ⟨retb (by simp), hB⟩
  case true.true =>
    by_cases e1 : x_reads = y_reads
    rotate_left
    · have HE := hide (show ¬ (⟨true, x_reads, x_writes⟩ : Eff) = ⟨true, y_reads, y_writes⟩ from fun h => e1 (by injection h))
      have H1 := hide e1
      clear e1
      go_enter Try.func59, Try.ntmps59
      go_wp2_with fail
      refine (eqEntryS_any A1 B1 c1 d1 _ _ _ (h1.new hB) (k1.new hB) hb1).mono ?_
      rintro e u1 ⟨rfl, b1⟩
      replace hB := bthen hB b1
      replace K0 := K0.new_ b1
      replace K1 := K1.new_ b1
      rw [decide_eq_false (unhide H1)]
      go_wp2
      go_ret
      exact ⟨retb (by rw [decide_eq_false (unhide HE)]), hB⟩
    have H1 := hide e1
    clear e1
    by_cases e2 : x_writes = y_writes
    rotate_left
    · have HE := hide (show ¬ (⟨true, x_reads, x_writes⟩ : Eff) = ⟨true, y_reads, y_writes⟩ from fun h => e2 (by injection h))
      have H2 := hide e2
      clear e2
      go_enter Try.func59, Try.ntmps59
      go_wp2_with fail
      refine (eqEntryS_any A1 B1 c1 d1 _ _ _ (h1.new hB) (k1.new hB) hb1).mono ?_
      rintro e u1 ⟨rfl, b1⟩
      replace hB := bthen hB b1
      replace K0 := K0.new_ b1
      replace K1 := K1.new_ b1
      rw [decide_eq_true (unhide H1)]
      have y1_2 : u1.cell? ⟨w.heap.size, 2, none⟩ = some _ := K0.cell 2
      have x1_2 : u1.cell? ⟨w.heap.size + 1, 2, none⟩ = some _ := K1.cell 2
      go_wp2_with fail
      refine (eqEntryS_any A2 B2 c2 d2 _ _ _ (h2.new hB) (k2.new hB) hb2).mono ?_
      rintro e u2 ⟨rfl, b2⟩
      replace hB := bthen hB b2
      replace K0 := K0.new_ b2
      replace K1 := K1.new_ b2
      rw [decide_eq_false (unhide H2)]
      go_wp2
      go_ret
      exact ⟨retb (by rw [decide_eq_false (unhide HE)]), hB⟩
    have H2 := hide e2
    clear e2
    have HE := hide (show (⟨true, x_reads, x_writes⟩ : Eff) = ⟨true, y_reads, y_writes⟩ by have e1 := unhide H1; have e2 := unhide H2; simp_all)
    go_enter Try.func59, Try.ntmps59
    go_wp2_with fail
    refine (eqEntryS_any A1 B1 c1 d1 _ _ _ (h1.new hB) (k1.new hB) hb1).mono ?_
    rintro e u1 ⟨rfl, b1⟩
    replace hB := bthen hB b1
    replace K0 := K0.new_ b1
    replace K1 := K1.new_ b1
    rw [decide_eq_true (unhide H1)]
    have y1_2 : u1.cell? ⟨w.heap.size, 2, none⟩ = some _ := K0.cell 2
    have x1_2 : u1.cell? ⟨w.heap.size + 1, 2, none⟩ = some _ := K1.cell 2
    go_wp2_with fail
    refine (eqEntryS_any A2 B2 c2 d2 _ _ _ (h2.new hB) (k2.new hB) hb2).mono ?_
    rintro e u2 ⟨rfl, b2⟩
    replace hB := bthen hB b2
    replace K0 := K0.new_ b2
    replace K1 := K1.new_ b2
    rw [decide_eq_true (unhide H2)]
    go_wp2
    go_ret
    exact ⟨retb (by rw [decide_eq_true (unhide HE)]), hB⟩
end Go.Proofs.Ytiaodcjocogkkaa
