/- Effects that are drawn. Printed by gen_drawe.py. -/
import Derived.Test.YtiaodcjocogkkaaRunSer
import Derived.Test.YtiaodcjocogkkaaDrawAct
import Derived.Test.YtiaodcjocogkkaaDrawS
import Derived.Test.YtiaodcjocogkkaaLocR
import Derived.Deep.Cut
namespace Go.Proofs.Ytiaodcjocogkkaa
open Go.RowKit
set_option linter.unusedVariables false
set_option linter.unusedSimpArgs false
attribute [local go_sem ↓] Go.wp_at_zero Go.wp_at_succ

set_option maxRecDepth 100000 in
set_option maxHeartbeats 2000000 in
theorem runAction_any (A : Option Addr) (ca : Nat) (s : List Ent) (a : Act) (w : World) (ha : Rd w A (s.flatMap encE)) (hla : s.length ≤ 4611686018427387904) :
    Calls Try.prog 85 #[.slice A s.length ca, .agg #[.int .i64 a.kind, .int .i64 a.src, .int .i64 a.dst, .int .i64 a.amt]] w fun e w' => ∃ E : Eff, E.reads.length ≤ 2 ∧ E.writes.length ≤ 2 ∧ L6End w E e w' := by
  by_cases hv : storeB s = true ∧ actB a = true
  · exact (runAction_spec A ca s a w ha hla hv.1 hv.2).mono fun e w' h => ⟨_, (runV_len _ a).1, (runV_len _ a).2, h⟩
  have hW : ∃ W : World, W = ((w.alloc (.cells #[.int .i64 a.kind, .int .i64 a.src, .int .i64 a.dst, .int .i64 a.amt] 75)).alloc (.cells #[.bool false, .slice none 0 0, .slice none 0 0] 71)) ∧ Blk W w.heap.size 75 #[.int .i64 a.kind, .int .i64 a.src, .int .i64 a.dst, .int .i64 a.amt] ∧ Blk W (w.heap.size + 1) 71 #[.bool false, .slice none 0 0, .slice none 0 0] ∧ Below w.heap.size w W := by
    refine ⟨_, rfl, (Blk.new _ _ _).alloc _, ?_, ((Below.refl _ _).alloc (Nat.le_refl _) _).alloc (by simp) _⟩
    have := Blk.new (w.alloc (.cells #[.int .i64 a.kind, .int .i64 a.src, .int .i64 a.dst, .int .i64 a.amt] 75)) 71 #[.bool false, .slice none 0 0, .slice none 0 0]
    simpa using this
  obtain ⟨W, hWe, kA, kR, hB⟩ := hW
  have HE := hide (fun (w2 : World) (kR : Blk w2 (w.heap.size + 1) 71 #[.bool false, .slice none 0 0, .slice none 0 0]) (hB : Below w.heap.size w w2) => show ∃ E : Eff, E.reads.length ≤ 2 ∧ E.writes.length ≤ 2 ∧ L6End w E (.returned (.agg #[.bool false, .slice none 0 0, .slice none 0 0])) (((w2.setCell ⟨w.heap.size + 1, 0, none⟩ (.bool false)).setCell ⟨w.heap.size + 1, 1, none⟩ (.slice none 0 0)).setCell ⟨w.heap.size + 1, 2, none⟩ (.slice none 0 0)) by
    have hc := (((Chg.refl (fun q => q = w.heap.size + 1) w2).setCell (p := ⟨w.heap.size + 1, 0, none⟩) (.inl rfl) (.bool false)).setCell (p := ⟨w.heap.size + 1, 1, none⟩) (.inl rfl) (.slice none 0 0)).setCell (p := ⟨w.heap.size + 1, 2, none⟩) (.inl rfl) (.slice none 0 0)
    exact ⟨⟨false, [], []⟩, by simp, by simp, none, 0, none, 0, rfl, own_nil _ _ _ _, own_nil _ _ _ _, (fun _ h => nomatch h), hB.trans (hc.below (fun q hq e => by omega) hB.size)⟩)
  cases hsa : storeB s
  · clear hv
    go_enter Try.func85, Try.ntmps85
    go_wp2_with fail
    rw [← hWe]
    clear hWe
    refine (storeB_store_spec A ca s W (ha.new hB) hla).mono ?_
    rintro e w1 ⟨rfl, m1, rfl⟩
    rw [hsa]
    have b1 : Below W.heap.size W (W.drewN m1) := below_drewN (Below.refl _ _) m1
    replace kA := kA.new_ b1
    replace kR := kR.new_ b1
    replace hB := bthen hB b1
    clear b1
    generalize W.drewN m1 = w1 at *
    have hl := kR.lt
    have f0 : w1.frozen? ⟨w.heap.size + 1, 0, none⟩ = false := kR.frozen 0
    have f1 : w1.frozen? ⟨w.heap.size + 1, 1, none⟩ = false := kR.frozen 1
    have f2 : w1.frozen? ⟨w.heap.size + 1, 2, none⟩ = false := kR.frozen 2
    have e0 : w1.cell? ⟨w.heap.size + 1, 0, none⟩ = some (.bool false) := kR.cell 0
    have e1 : w1.cell? ⟨w.heap.size + 1, 1, none⟩ = some (.slice none 0 0) := kR.cell 1
    have e2 : w1.cell? ⟨w.heap.size + 1, 2, none⟩ = some (.slice none 0 0) := kR.cell 2
    go_wp2
    have kb := ((kR.set_ 0 (.bool false)).set_ 1 (.slice none 0 0)).set_ 2 (.slice none 0 0)
    refine bodyPost_ret (v := .agg #[.bool false, .slice none 0 0, .slice none 0 0]) (results_cell_row rfl _ _ (w.heap.size + 1) 71 #[.bool false, .slice none 0 0, .slice none 0 0] (0, 0) _ rfl kb Try.underlying71 rfl info_valEffect) rfl ?_
    exact unhide HE _ kR hB
  have hab : actB a = false := by simpa [hsa] using hv
  clear hv
  go_enter Try.func85, Try.ntmps85
  go_wp2_with fail
  rw [← hWe]
  clear hWe
  refine (storeB_store_spec A ca s W (ha.new hB) hla).mono ?_
  rintro e w1 ⟨rfl, m1, rfl⟩
  rw [hsa]
  have b1 : Below W.heap.size W (W.drewN m1) := below_drewN (Below.refl _ _) m1
  replace kA := kA.new_ b1
  replace kR := kR.new_ b1
  replace hB := bthen hB b1
  clear b1
  generalize W.drewN m1 = w1 at *
  have x0 : w1.cell? ⟨w.heap.size, 0, none⟩ = some (.int .i64 a.kind) := kA.cell 0
  have x1 : w1.cell? ⟨w.heap.size, 1, none⟩ = some (.int .i64 a.src) := kA.cell 1
  have x2 : w1.cell? ⟨w.heap.size, 2, none⟩ = some (.int .i64 a.dst) := kA.cell 2
  have x3 : w1.cell? ⟨w.heap.size, 3, none⟩ = some (.int .i64 a.amt) := kA.cell 3
  go_wp2_with fail
  refine (actionValid_spec a _).mono ?_
  rintro e w2 ⟨rfl, b2⟩
  rw [hab]
  clear x0 x1 x2 x3 kA
  replace kR := kR.new_ b2
  replace hB := bthen hB b2
  clear b2
  have hl := kR.lt
  have f0 : w2.frozen? ⟨w.heap.size + 1, 0, none⟩ = false := kR.frozen 0
  have f1 : w2.frozen? ⟨w.heap.size + 1, 1, none⟩ = false := kR.frozen 1
  have f2 : w2.frozen? ⟨w.heap.size + 1, 2, none⟩ = false := kR.frozen 2
  have e0 : w2.cell? ⟨w.heap.size + 1, 0, none⟩ = some (.bool false) := kR.cell 0
  have e1 : w2.cell? ⟨w.heap.size + 1, 1, none⟩ = some (.slice none 0 0) := kR.cell 1
  have e2 : w2.cell? ⟨w.heap.size + 1, 2, none⟩ = some (.slice none 0 0) := kR.cell 2
  go_wp2
  have kb := ((kR.set_ 0 (.bool false)).set_ 1 (.slice none 0 0)).set_ 2 (.slice none 0 0)
  refine bodyPost_ret (v := .agg #[.bool false, .slice none 0 0, .slice none 0 0]) (results_cell_row rfl _ _ (w.heap.size + 1) 71 #[.bool false, .slice none 0 0, .slice none 0 0] (0, 0) _ rfl kb Try.underlying71 rfl info_valEffect) rfl ?_
  exact unhide HE _ kR hB
def kPair (v : Value) (_ : World) : Prop := ∃ x y : Int, v = .agg #[.int .i64 x, .int .i64 y]
def kEntF (g : Nat) (v : Value) (w : World) : Prop := ∃ (q : Nat) (x y : Int), v = .slice (some ⟨q, 0, none⟩) 1 1 ∧ q ≠ g ∧ Blk w q 80 #[.int .i64 x, .int .i64 y]
theorem st_Pair {g : Nat} : StG g kPair := fun _ _ _ _ h => h
theorem st_EntF {g : Nat} : StG g (kEntF g) := fun _ _ _ hc ⟨q, x, y, h1, h2, h3⟩ => ⟨q, x, y, h1, h2, h3.chg hc h2⟩
/-- what a drawn effect is -/
def EffD (w : World) (g N : Nat) (e : Ending) (w' : World) : Prop := ∃ (ed : Bool) (er ew : List Ent) (A1 : Option Addr) (c1 : Nat) (A2 : Option Addr) (c2 : Nat), er.length ≤ 3 ∧ ew.length ≤ 3 ∧ e = .returned (.agg #[.bool ed, .slice A1 er.length c1, .slice A2 ew.length c2]) ∧ w'.ownsRow w.heap.size 80 2 (.slice A1 er.length c1) er.length (er.flatMap encE) ∧ w'.ownsRow w.heap.size 80 2 (.slice A2 ew.length c2) ew.length (ew.flatMap encE) ∧ (∀ q, A1 = some ⟨q, 0, none⟩ → A2 ≠ some ⟨q, 0, none⟩) ∧ Rdr w' g N ∧ Chg (fun k => k = g) w w'
theorem eff_last {w W : World} {g N : Nat} {ed : Bool} {er ew : List Ent} {A1 A2 : Option Addr} {c1 c2 : Nat} (hg : g < w.heap.size) (h1 : er.length ≤ 3) (h2 : ew.length ≤ 3) (or : W.ownsRow (w.heap.size + 1) 80 2 (.slice A1 er.length c1) er.length (er.flatMap encE)) (ow : W.ownsRow (w.heap.size + 1) 80 2 (.slice A2 ew.length c2) ew.length (ew.flatMap encE)) (hap : ∀ q, A1 = some ⟨q, 0, none⟩ → A2 ≠ some ⟨q, 0, none⟩) (hrd : Rdr W g N) (hch : Chg (fun k => k = g) w W) :
    EffD w g N (.returned (.agg #[.bool ed, .slice A1 er.length c1, .slice A2 ew.length c2])) (((W.setCell ⟨w.heap.size, 0, none⟩ (.bool ed)).setCell ⟨w.heap.size, 1, none⟩ (.slice A1 er.length c1)).setCell ⟨w.heap.size, 2, none⟩ (.slice A2 ew.length c2)) := by
  have hc := (((Chg.refl (fun q => q = w.heap.size) W).setCell (p := ⟨w.heap.size, 0, none⟩) (.inl rfl) (.bool ed)).setCell (p := ⟨w.heap.size, 1, none⟩) (.inl rfl) (.slice A1 er.length c1)).setCell (p := ⟨w.heap.size, 2, none⟩) (.inl rfl) (.slice A2 ew.length c2)
  have hc2 := ((hch.setCell (p := ⟨w.heap.size, 0, none⟩) (.inr (Nat.le_refl _)) (.bool ed)).setCell (p := ⟨w.heap.size, 1, none⟩) (.inr (Nat.le_refl _)) (.slice A1 er.length c1)).setCell (p := ⟨w.heap.size, 2, none⟩) (.inr (Nat.le_refl _)) (.slice A2 ew.length c2)
  exact ⟨ed, er, ew, A1, c1, A2, c2, h1, h2, rfl, own_base (own_chg or hc fun q hA e => by have := own_rng or q hA; omega) (by omega), own_base (own_chg ow hc fun q hA e => by have := own_rng ow q hA; omega) (by omega), hap, hrd.chg hc (fun k hk e => by omega), hc2⟩
set_option maxRecDepth 100000 in
set_option maxHeartbeats 8000000 in
theorem l20Effect_any (g N : Nat) (n : Int) (w : World) (h : Rdr w g N) (hN : N ≤ 900000) (hn : 0 ≤ n) (hn2 : n ≤ 1000000) :
    Calls Try.prog 97 #[.pointer (some ⟨g, 0, none⟩), .int .i64 n] w fun e w' => EffD w g (N + 99) e w' := by
  have hg := h.lt
  have kr := Blk.new w 71 #[.bool false, .slice none 0 0, .slice none 0 0]
  go_enter Try.func97, Try.ntmps97
  go_wp2_with fail
  refine (l20Store_any g N 0 _ (h.alloc _) (by omega) (by omega) (by omega)).mono ?_
  rintro e w1 ⟨A, c, xs, hxl, rfl, o1, h1, ch1⟩
  have k1 := kr.chg ch1 (by omega)
  have q1 := ((Chg.refl (fun k => k = g) w).alloc (.cells #[.bool false, .slice none 0 0, .slice none 0 0] 71)).trans ch1
  have hs1 : w.heap.size < w1.heap.size := k1.lt
  replace o1 := own_base o1 (show w.heap.size + 1 ≤ _ by simp)
  clear kr ch1 h
  go_wp2_with fail
  refine (l20Action_any g _ 0 w1 h1 (by omega) (by omega) (by omega)).mono ?_
  rintro e w2 ⟨a, -, rfl, h2, ch2⟩
  have o2 := own_chg o1 ch2 (fun q hA e => by have := own_rng o1 q hA; omega)
  have k2 := k1.chg ch2 (by omega)
  have q2 := q1.trans ch2
  have hs2 := ch2.size
  clear o1 k1 q1 h1 ch2
  go_wp2_with fail
  refine (runAction_any A c xs a w2 (own_rd o2) (by omega)).mono ?_
  rintro e w3 ⟨⟨ed, er, ew⟩, hE1, hE2, A1, c1, A2, c2, rfl, or, ow, hap, b3⟩
  simp only at hE1 hE2 or ow
  have k3 := k2.new_ b3
  have h3 := h2.new b3
  have q3 := q2.trans (Chg.of_new (S := fun k => k = g) b3)
  have hs3 := b3.size
  replace or := own_base or (show w.heap.size + 1 ≤ w2.heap.size by omega)
  replace ow := own_base ow (show w.heap.size + 1 ≤ w2.heap.size by omega)
  have HR := hide (own_rng or)
  have HW := hide (own_rng ow)
  have HAP := hide hap
  clear o2 k2 q2 h2 b3 hap
  have kx := Blk.new w3 71 #[.bool ed, .slice A1 er.length c1, .slice A2 ew.length c2]
  have hgx : ∃ gx, gx = w3.heap.size := ⟨_, rfl⟩
  obtain ⟨gx, hgx⟩ := hgx
  go_wp2_with fail
  refine (odd_any g _ n _ (h3.alloc _) (by omega) hn hn2).mono ?_
  rintro e w5 ⟨b, rfl, -, h5, ch5⟩
  have kx5 := kx.chg ch5 (by omega)
  have k5 := (k3.alloc (.cells #[.bool ed, .slice A1 er.length c1, .slice A2 ew.length c2] 71)).chg ch5 (by omega)
  have q5 := (q3.alloc (.cells #[.bool ed, .slice A1 er.length c1, .slice A2 ew.length c2] 71)).trans ch5
  replace or := own_chg (own_alloc or (.cells #[.bool ed, .slice A1 er.length c1, .slice A2 ew.length c2] 71)) ch5 (fun q hA e => by have := unhide HR q hA; omega)
  replace ow := own_chg (own_alloc ow (.cells #[.bool ed, .slice A1 er.length c1, .slice A2 ew.length c2] 71)) ch5 (fun q hA e => by have := unhide HW q hA; omega)
  have HGX := hide hgx
  have hgxw : w.heap.size < gx := by omega
  have hgxg : g ≠ gx := by omega
  have HRX := hide (fun q hA => show q < gx by have := unhide HR q hA; omega)
  have HWX := hide (fun q hA => show q < gx by have := unhide HW q hA; omega)
  rw [← hgx] at kx5
  rw [← hgx]
  clear hgx kx k3 q3 h3 ch5 hs1 hs2 hs3 HR HW
  cases b
  · have kT := k5
    have xT := kx5
    have rT := or
    have wT := ow
    have apT := unhide HAP
    have hT := h5.more (M := N + 99) (by omega)
    have qT := q5
    clear k5 kx5 or ow h5 q5
    go_upto_region 9 with fail
    refine at_world (C := fun w => Code.wp _ _ _ _ w) (F := fun W => Blk W w.heap.size 71 #[.bool false, .slice none 0 0, .slice none 0 0] ∧ Blk W gx 71 #[.bool ed, .slice A1 (er).length c1, .slice A2 (ew).length c2] ∧ W.ownsRow (w.heap.size + 1) 80 2 (.slice A1 (er).length c1) (er).length ((er).flatMap encE) ∧ W.ownsRow (w.heap.size + 1) 80 2 (.slice A2 (ew).length c2) (ew).length ((ew).flatMap encE) ∧ Rdr W g (N + 99) ∧ Chg (fun k => k = g) w W) ⟨kT, xT, rT, wT, hT, qT⟩ ?_
    clear kT xT rT wT hT qT
    rintro W ⟨kT, xT, rT, wT, hT, qT⟩
    have APT := hide apT
    clear apT
    have l1 := kT.lt
    have l2 := xT.lt
    have c0x : W.cell? ⟨gx, 0, none⟩ = some (.bool ed) := xT.cell 0
    have c1x : W.cell? ⟨gx, 1, none⟩ = some (.slice A1 (er).length c1) := xT.cell 1
    have c2x : W.cell? ⟨gx, 2, none⟩ = some (.slice A2 (ew).length c2) := xT.cell 2
    have y0 : W.cell? ⟨w.heap.size, 0, none⟩ = some (.bool false) := kT.cell 0
    have p0 : W.frozen? ⟨w.heap.size, 0, none⟩ = false := kT.frozen 0
    have y1 : W.cell? ⟨w.heap.size, 1, none⟩ = some (.slice none 0 0) := kT.cell 1
    have p1 : W.frozen? ⟨w.heap.size, 1, none⟩ = false := kT.frozen 1
    have y2 : W.cell? ⟨w.heap.size, 2, none⟩ = some (.slice none 0 0) := kT.cell 2
    have p2 : W.frozen? ⟨w.heap.size, 2, none⟩ = false := kT.frozen 2
    have HF := hide (eff_last (ed := ed) hg (by omega) (by omega) rT wT (unhide APT) hT qT)
    clear rT wT
    go_wp2
    have kb := ((kT.set_ 0 (.bool ed)).set_ 1 (.slice A1 (er).length c1)).set_ 2 (.slice A2 (ew).length c2)
    refine bodyPost_ret (v := .agg #[.bool ed, .slice A1 (er).length c1, .slice A2 (ew).length c2]) (results_cell_row rfl _ _ w.heap.size 71 #[.bool ed, .slice A1 (er).length c1, .slice A2 (ew).length c2] (0, 0) _ rfl kb Try.underlying71 rfl info_valEffect) rfl (unhide HF)
  · go_wp2_with fail
    refine (pick_any g _ 3 w5 h5 (by omega) (by omega) (by omega)).mono ?_
    rintro e w6 ⟨v6, hv6, rfl, h6, ch6⟩
    have k6 := k5.chg ch6 (by omega)
    have kx6 := kx5.chg ch6 (by omega)
    have q6 := q5.trans ch6
    have or6 := own_chg or ch6 (fun q hA e => by have := own_rng or q hA; omega)
    have ow6 := own_chg ow ch6 (fun q hA e => by have := own_rng ow q hA; omega)
    clear k5 kx5 q5 or ow h5 ch6
    have hlx := kx6.lt
    have hlg := h6.lt
    have hv : v6 = 0 ∨ v6 = 1 ∨ v6 = 2 := by omega
    clear hv6
    rcases hv with rfl | rfl | rfl
    · have z0 : w6.cell? ⟨gx, 0, none⟩ = some (.bool ed) := kx6.cell 0
      have f0 : w6.frozen? ⟨gx, 0, none⟩ = false := kx6.frozen 0
      go_upto_region 9 with fail
      have kT := k6.far_ (p := ⟨gx, 0, none⟩) (by simp only []; omega) (.bool !ed)
      have xT := kx6.set_ 0 (.bool !ed)
      have hc0 := (Chg.refl (fun q => q = gx) w6).setCell (p := ⟨gx, 0, none⟩) (.inl rfl) (.bool !ed)
      have rT := own_chg or6 hc0 (fun q hA e => by have := unhide HRX q hA; omega)
      have wT := own_chg ow6 hc0 (fun q hA e => by have := unhide HWX q hA; omega)
      have apT := unhide HAP
      have hT := (h6.chg hc0 (fun k hk e => by omega)).more (M := N + 99) (by omega)
      have qT := q6.setCell (p := ⟨gx, 0, none⟩) (.inr (by simp only []; omega)) (.bool !ed)
      clear z0 f0 k6 kx6 or6 ow6 h6 q6 hc0
      refine at_world (C := fun w => Code.wp _ _ _ _ w) (F := fun W => Blk W w.heap.size 71 #[.bool false, .slice none 0 0, .slice none 0 0] ∧ Blk W gx 71 #[.bool (!ed), .slice A1 (er).length c1, .slice A2 (ew).length c2] ∧ W.ownsRow (w.heap.size + 1) 80 2 (.slice A1 (er).length c1) (er).length ((er).flatMap encE) ∧ W.ownsRow (w.heap.size + 1) 80 2 (.slice A2 (ew).length c2) (ew).length ((ew).flatMap encE) ∧ Rdr W g (N + 99) ∧ Chg (fun k => k = g) w W) ⟨kT, xT, rT, wT, hT, qT⟩ ?_
      clear kT xT rT wT hT qT
      rintro W ⟨kT, xT, rT, wT, hT, qT⟩
      have APT := hide apT
      clear apT
      have l1 := kT.lt
      have l2 := xT.lt
      have c0x : W.cell? ⟨gx, 0, none⟩ = some (.bool (!ed)) := xT.cell 0
      have c1x : W.cell? ⟨gx, 1, none⟩ = some (.slice A1 (er).length c1) := xT.cell 1
      have c2x : W.cell? ⟨gx, 2, none⟩ = some (.slice A2 (ew).length c2) := xT.cell 2
      have y0 : W.cell? ⟨w.heap.size, 0, none⟩ = some (.bool false) := kT.cell 0
      have p0 : W.frozen? ⟨w.heap.size, 0, none⟩ = false := kT.frozen 0
      have y1 : W.cell? ⟨w.heap.size, 1, none⟩ = some (.slice none 0 0) := kT.cell 1
      have p1 : W.frozen? ⟨w.heap.size, 1, none⟩ = false := kT.frozen 1
      have y2 : W.cell? ⟨w.heap.size, 2, none⟩ = some (.slice none 0 0) := kT.cell 2
      have p2 : W.frozen? ⟨w.heap.size, 2, none⟩ = false := kT.frozen 2
      have HF := hide (eff_last (ed := (!ed)) hg (by omega) (by omega) rT wT (unhide APT) hT qT)
      clear rT wT
      go_wp2
      have kb := ((kT.set_ 0 (.bool (!ed))).set_ 1 (.slice A1 (er).length c1)).set_ 2 (.slice A2 (ew).length c2)
      refine bodyPost_ret (v := .agg #[.bool (!ed), .slice A1 (er).length c1, .slice A2 (ew).length c2]) (results_cell_row rfl _ _ w.heap.size 71 #[.bool (!ed), .slice A1 (er).length c1, .slice A2 (ew).length c2] (0, 0) _ rfl kb Try.underlying71 rfl info_valEffect) rfl (unhide HF)
    · have zc : w6.cell? ⟨gx, 2, none⟩ = some (.slice A2 ew.length c2) := kx6.cell 2
      go_wp2
      refine wp_region_loc (by kernel_rfl) [(0, some 35), (1, some 36), (2, some 37), (3, some 38), (4, some 39), (5, some 40), (6, some 41), (7, some 42), (8, some 43)] [[], [(0, some 35)], [], [], [(3, some 38)], [(2, some 37), (4, some 39)], [(5, some 40)], [(6, some 41)], [(7, some 42)]] (by kernel_rfl)
        (locF [kV (.pointer (some ⟨gx, 2, none⟩)), kV (.slice A2 ew.length c2), kRow g 3 3 (-1) (32), kV (.pointer (some ⟨g, 0, none⟩)), kInt 0 2, kPtr g (-1) (32), kInt (-1) (32), kPair, kEntF g]) (Chg fun k => k = g) (rdrR g (N + 90 + 1)) [0, 0, 0, 0, 1, 0, 0, 0, 0] 1 (by kernel_rfl) (Chg.refl _) (fun _ _ _ => Chg.trans) (fun i v a b h1 h2 hc => locF_st (stl_cons (st_V _) (stl_cons (st_V _) (stl_cons (st_Row _ _ _ _) (stl_cons (st_V _) (stl_cons (st_Int _ _) (stl_cons (st_Ptr _ _) (stl_cons (st_Int _ _) (stl_cons (st_Pair) (stl_cons (st_EntF) (stl_nil)))))))))) i v a b 9 h1 h2 hc) ⟨_, by omega, h6.drew⟩ ?_ ?_
      · refine steps_cons ?s0 (steps_cons ?s1 (steps_cons ?s2 (steps_cons ?s3 (steps_cons ?s4 (steps_cons ?s5 (steps_cons ?s6 (steps_cons ?s7 (steps_cons ?s8 (steps_nil)))))))))
        case s0 =>
          intro w1 m hE hR Q hQ
          go_wp2
          exact hQ _ _ _ rfl rfl (Chg.refl _ _) hR
        case s1 =>
          intro w1 m hE hR
          rintro _ rfl Q hQ
          have z := (chg_undrew hE).cell (p := ⟨gx, 2, none⟩) zc (by simp only []; omega)
          go_wp2
          exact hQ _ _ _ rfl rfl (Chg.refl _ _) hR
        case s2 =>
          intro w1 m hE hR Q hQ
          go_wp2
          exact hQ _ _ _ rfl (kRow_new [(-1), 32, 2] 3 (-1) (32) hlg hE (by intro i hi; simp at hi; rcases i with _ | _ | _ | i <;> simp <;> omega)) ((Chg.refl _ _).alloc _) (rdrR_alloc hR _)
        case s3 =>
          intro w1 m hE hR Q hQ
          go_wp2
          exact hQ _ _ _ rfl rfl (Chg.refl _ _) hR
        case s4 =>
          intro w1 m hE hR
          rintro _ rfl Q hQ
          obtain ⟨N1, hN1, hr1⟩ := rdrR_use hR
          simp only [List.getD_cons_succ, List.getD_cons_zero] at hN1
          go_wp2_with fail
          refine (pick_any g N1 3 _ hr1 (by omega) (by omega) (by omega)).mono ?_
          rintro e w2 ⟨x, hx, rfl, h2, ch2⟩
          go_wp2
          exact hQ _ _ _ rfl ⟨_, rfl, by omega, by omega⟩ ch2 ⟨N1 + 1, by omega, h2⟩
        case s5 =>
          intro w1 m hE hR
          rintro _ ⟨q0, zs0, rfl, a0, b0, c0, d0⟩ _ ⟨x1, rfl, l1, h1⟩
          intro Q hQ
          obtain ⟨i, z, e1, e2, e3, e4, e5, e6⟩ := kRow_cell (g := g) b0 c0 d0 (x := x1) (by omega) (by omega)
          subst e1
          have i1 : (i : Int) < 3 := by omega
          go_wp2
          exact hQ _ _ _ rfl ⟨q0, i, z, by first | rfl | simp, a0, e3, e4, e5, e6⟩ (Chg.refl _ _) hR
        case s6 =>
          intro w1 m hE hR
          rintro _ ⟨q0, i0, z0, rfl, a0, b0, c0, d0, e0⟩
          intro Q hQ
          go_wp2
          exact hQ _ _ _ rfl ⟨_, rfl, by omega, by omega⟩ (Chg.refl _ _) hR
        case s7 =>
          intro w1 m hE hR
          rintro _ ⟨x, rfl, l1, l2⟩
          intro Q hQ
          go_wp2
          exact hQ _ _ _ rfl ⟨_, _, rfl⟩ (Chg.refl _ _) hR
        case s8 =>
          intro w1 m hE hR
          rintro _ ⟨x, y, rfl⟩
          intro Q hQ
          go_wp2
          exact hQ _ _ _ rfl ⟨_, x, y, rfl, by have := (chg_undrew hE).size; omega, Blk.new _ _ _⟩ ((Chg.refl _ _).alloc _) (rdrR_alloc hR _)
      · intro w7 hE hR
        rintro v0 h0 v1 h1 v2 - v3 - v4 - v5 - v6 - v7 - v8 ⟨q, x, y, rfl, hq, hk⟩
        obtain rfl : v0 = _ := h0
        obtain rfl : v1 = _ := h1
        obtain ⟨N1, hN1, hr1⟩ := hR
        have cE := chg_undrew hE
        have k7 := k6.chg cE (by omega)
        have kx7 := kx6.chg cE (by omega)
        have q7 := q6.trans cE
        have or7 := own_chg or6 cE (fun q hA e => by have := own_rng or6 q hA; omega)
        have ow7 := own_chg ow6 cE (fun q hA e => by have := own_rng ow6 q hA; omega)
        have hs7 := cE.size
        clear k6 kx6 q6 or6 ow6 h6 hE cE zc
        change wpList _ _ _ [_, _, _] _ _
        simp only [Go.Act.put, List.setIfInBounds_toArray, List.set_cons_succ, List.set_cons_zero]
        have hlx7 := kx7.lt
        have hlw : (ew : List Ent).length ≤ 2 := by assumption
        go_upto_region 9 with (at_builtin; refine wpList_app rfl (.tmp 36) (.tmp 43) 27 rfl el_ent rfl ow7 rfl (rd_blk hk) rfl (one_ents [⟨x, y⟩]) (by simp only [maxLen]; omega) (by omega) (by omega) ?_; intro A8 c8 w8 o8 ch8 d8 _; rw [snoc_ents] at o8; have zE : w8.frozen? ⟨gx, 2, none⟩ = false := (kx7.chg ch8 (fun e => by have := unhide HWX _ e; omega)).frozen 2; have zC : w8.cell? ⟨gx, 2, none⟩ = some (.slice A2 ew.length c2) := (kx7.chg ch8 (fun e => by have := unhide HWX _ e; omega)).cell 2)
        have hAl : ∀ q, A2 = some ⟨q, 0, none⟩ → q < gx := unhide HWX
        have kx8 := kx7.chg ch8 (fun e => by have := hAl _ e; omega)
        have k8 := k7.chg ch8 (fun e => by have := own_rng ow7 _ e; omega)
        have oth8 := own_chg or7 ch8 (fun q hA e => unhide HAP q hA e)
        have hr8 := hr1.chg ch8 (fun k hk hA => by have := own_rng ow7 k hA; omega)
        have q8 := chg_app q7 ch8 (fun q e => .inr (by have := own_rng ow7 q e; omega))
        have hs8 := ch8.size
        have kT := k8.far_ (p := ⟨gx, 2, none⟩) (by simp only []; omega) (.slice A8 (ew.length + 1) c8)
        have xT := kx8.set_ 2 (.slice A8 (ew.length + 1) c8)
        have hc0 := (Chg.refl (fun q => q = gx) w8).setCell (p := ⟨gx, 2, none⟩) (.inl rfl) (.slice A8 (ew.length + 1) c8)
        have hA8 : ∀ q, A8 = some ⟨q, 0, none⟩ → A2 = some ⟨q, 0, none⟩ ∨ w7.heap.size ≤ q := fun q e => by
          rcases d8 with rfl | ⟨rfl, _⟩
          · exact .inl e
          · injection e with e; injection e with e; exact .inr (by omega)
        have aT := own_chg o8 hc0 (fun q hA e => by rcases hA8 q hA with h | h; have := hAl q h; omega; omega)
        have bT := own_chg oth8 hc0 (fun q hA e => by have := unhide HRX q hA; omega)
        have apT : ∀ q, A1 = some ⟨q, 0, none⟩ → A8 ≠ some ⟨q, 0, none⟩ := fun q e1 e2 => by
          rcases hA8 q e2 with h | h; exact unhide HAP q e1 h; have := unhide HRX q e1; omega
        have hT := (hr8.chg hc0 (fun k hk e => by omega)).more (M := N + 99) (by omega)
        have qT := q8.setCell (p := ⟨gx, 2, none⟩) (.inr (by simp only []; omega)) (.slice A8 (ew.length + 1) c8)
        have hl1 : (ew ++ [⟨x, y⟩] : List Ent).length = ew.length + 1 := by simp
        rw [← hl1] at kT xT aT bT qT hT
        have wT := aT
        have rT := bT
        rw [← hl1]
        have hl3 : (ew ++ [(⟨x, y⟩ : Ent)]).length ≤ 3 := by simp; omega
        clear hl1 aT bT o8
        generalize ew ++ [(⟨x, y⟩ : Ent)] = L at kT xT rT wT hT qT hl3 ⊢
        refine at_world (C := fun w => Code.wp _ _ _ _ w) (F := fun W => Blk W w.heap.size 71 #[.bool false, .slice none 0 0, .slice none 0 0] ∧ Blk W gx 71 #[.bool ed, .slice A1 (er).length c1, .slice A8 (L).length c8] ∧ W.ownsRow (w.heap.size + 1) 80 2 (.slice A1 (er).length c1) (er).length ((er).flatMap encE) ∧ W.ownsRow (w.heap.size + 1) 80 2 (.slice A8 (L).length c8) (L).length ((L).flatMap encE) ∧ Rdr W g (N + 99) ∧ Chg (fun k => k = g) w W) ⟨kT, xT, rT, wT, hT, qT⟩ ?_
        clear kT xT rT wT hT qT
        rintro W ⟨kT, xT, rT, wT, hT, qT⟩
        have APT := hide apT
        clear apT
        have l1 := kT.lt
        have l2 := xT.lt
        have c0x : W.cell? ⟨gx, 0, none⟩ = some (.bool ed) := xT.cell 0
        have c1x : W.cell? ⟨gx, 1, none⟩ = some (.slice A1 (er).length c1) := xT.cell 1
        have c2x : W.cell? ⟨gx, 2, none⟩ = some (.slice A8 (L).length c8) := xT.cell 2
        have y0 : W.cell? ⟨w.heap.size, 0, none⟩ = some (.bool false) := kT.cell 0
        have p0 : W.frozen? ⟨w.heap.size, 0, none⟩ = false := kT.frozen 0
        have y1 : W.cell? ⟨w.heap.size, 1, none⟩ = some (.slice none 0 0) := kT.cell 1
        have p1 : W.frozen? ⟨w.heap.size, 1, none⟩ = false := kT.frozen 1
        have y2 : W.cell? ⟨w.heap.size, 2, none⟩ = some (.slice none 0 0) := kT.cell 2
        have p2 : W.frozen? ⟨w.heap.size, 2, none⟩ = false := kT.frozen 2
        have HF := hide (eff_last (ed := ed) hg (by omega) hl3 rT wT (unhide APT) hT qT)
        clear rT wT
        go_wp2
        have kb := ((kT.set_ 0 (.bool ed)).set_ 1 (.slice A1 (er).length c1)).set_ 2 (.slice A8 (L).length c8)
        refine bodyPost_ret (v := .agg #[.bool ed, .slice A1 (er).length c1, .slice A8 (L).length c8]) (results_cell_row rfl _ _ w.heap.size 71 #[.bool ed, .slice A1 (er).length c1, .slice A8 (L).length c8] (0, 0) _ rfl kb Try.underlying71 rfl info_valEffect) rfl (unhide HF)
    · have zc : w6.cell? ⟨gx, 1, none⟩ = some (.slice A1 er.length c1) := kx6.cell 1
      go_wp2
      refine wp_region_loc (by kernel_rfl) [(0, some 16), (1, some 17), (2, some 18), (3, some 19), (4, some 20), (5, some 21), (6, some 22), (7, some 23), (8, some 24)] [[], [(0, some 16)], [], [], [(3, some 19)], [(2, some 18), (4, some 20)], [(5, some 21)], [(6, some 22)], [(7, some 23)]] (by kernel_rfl)
        (locF [kV (.pointer (some ⟨gx, 1, none⟩)), kV (.slice A1 er.length c1), kRow g 3 2 (-1) (2000001), kV (.pointer (some ⟨g, 0, none⟩)), kInt 0 1, kPtr g (-1) (2000001), kInt (-1) (2000001), kPair, kEntF g]) (Chg fun k => k = g) (rdrR g (N + 90 + 1)) [0, 0, 0, 0, 1, 0, 0, 0, 0] 1 (by kernel_rfl) (Chg.refl _) (fun _ _ _ => Chg.trans) (fun i v a b h1 h2 hc => locF_st (stl_cons (st_V _) (stl_cons (st_V _) (stl_cons (st_Row _ _ _ _) (stl_cons (st_V _) (stl_cons (st_Int _ _) (stl_cons (st_Ptr _ _) (stl_cons (st_Int _ _) (stl_cons (st_Pair) (stl_cons (st_EntF) (stl_nil)))))))))) i v a b 9 h1 h2 hc) ⟨_, by omega, h6.drew⟩ ?_ ?_
      · refine steps_cons ?s0 (steps_cons ?s1 (steps_cons ?s2 (steps_cons ?s3 (steps_cons ?s4 (steps_cons ?s5 (steps_cons ?s6 (steps_cons ?s7 (steps_cons ?s8 (steps_nil)))))))))
        case s0 =>
          intro w1 m hE hR Q hQ
          go_wp2
          exact hQ _ _ _ rfl rfl (Chg.refl _ _) hR
        case s1 =>
          intro w1 m hE hR
          rintro _ rfl Q hQ
          have z := (chg_undrew hE).cell (p := ⟨gx, 1, none⟩) zc (by simp only []; omega)
          go_wp2
          exact hQ _ _ _ rfl rfl (Chg.refl _ _) hR
        case s2 =>
          intro w1 m hE hR Q hQ
          go_wp2
          exact hQ _ _ _ rfl (kRow_new [(-1), 2000001] 3 (-1) (2000001) hlg hE (by intro i hi; simp at hi; rcases i with _ | _ | i <;> simp <;> omega)) ((Chg.refl _ _).alloc _) (rdrR_alloc hR _)
        case s3 =>
          intro w1 m hE hR Q hQ
          go_wp2
          exact hQ _ _ _ rfl rfl (Chg.refl _ _) hR
        case s4 =>
          intro w1 m hE hR
          rintro _ rfl Q hQ
          obtain ⟨N1, hN1, hr1⟩ := rdrR_use hR
          simp only [List.getD_cons_succ, List.getD_cons_zero] at hN1
          go_wp2_with fail
          refine (pick_any g N1 2 _ hr1 (by omega) (by omega) (by omega)).mono ?_
          rintro e w2 ⟨x, hx, rfl, h2, ch2⟩
          go_wp2
          exact hQ _ _ _ rfl ⟨_, rfl, by omega, by omega⟩ ch2 ⟨N1 + 1, by omega, h2⟩
        case s5 =>
          intro w1 m hE hR
          rintro _ ⟨q0, zs0, rfl, a0, b0, c0, d0⟩ _ ⟨x1, rfl, l1, h1⟩
          intro Q hQ
          obtain ⟨i, z, e1, e2, e3, e4, e5, e6⟩ := kRow_cell (g := g) b0 c0 d0 (x := x1) (by omega) (by omega)
          subst e1
          have i1 : (i : Int) < 2 := by omega
          go_wp2
          exact hQ _ _ _ rfl ⟨q0, i, z, by first | rfl | simp, a0, e3, e4, e5, e6⟩ (Chg.refl _ _) hR
        case s6 =>
          intro w1 m hE hR
          rintro _ ⟨q0, i0, z0, rfl, a0, b0, c0, d0, e0⟩
          intro Q hQ
          go_wp2
          exact hQ _ _ _ rfl ⟨_, rfl, by omega, by omega⟩ (Chg.refl _ _) hR
        case s7 =>
          intro w1 m hE hR
          rintro _ ⟨x, rfl, l1, l2⟩
          intro Q hQ
          go_wp2
          exact hQ _ _ _ rfl ⟨_, _, rfl⟩ (Chg.refl _ _) hR
        case s8 =>
          intro w1 m hE hR
          rintro _ ⟨x, y, rfl⟩
          intro Q hQ
          go_wp2
          exact hQ _ _ _ rfl ⟨_, x, y, rfl, by have := (chg_undrew hE).size; omega, Blk.new _ _ _⟩ ((Chg.refl _ _).alloc _) (rdrR_alloc hR _)
      · intro w7 hE hR
        rintro v0 h0 v1 h1 v2 - v3 - v4 - v5 - v6 - v7 - v8 ⟨q, x, y, rfl, hq, hk⟩
        obtain rfl : v0 = _ := h0
        obtain rfl : v1 = _ := h1
        obtain ⟨N1, hN1, hr1⟩ := hR
        have cE := chg_undrew hE
        have k7 := k6.chg cE (by omega)
        have kx7 := kx6.chg cE (by omega)
        have q7 := q6.trans cE
        have or7 := own_chg or6 cE (fun q hA e => by have := own_rng or6 q hA; omega)
        have ow7 := own_chg ow6 cE (fun q hA e => by have := own_rng ow6 q hA; omega)
        have hs7 := cE.size
        clear k6 kx6 q6 or6 ow6 h6 hE cE zc
        change wpList _ _ _ [_, _, _] _ _
        simp only [Go.Act.put, List.setIfInBounds_toArray, List.set_cons_succ, List.set_cons_zero]
        have hlx7 := kx7.lt
        have hlw : (er : List Ent).length ≤ 2 := by assumption
        go_upto_region 9 with (at_builtin; refine wpList_app rfl (.tmp 17) (.tmp 24) 27 rfl el_ent rfl or7 rfl (rd_blk hk) rfl (one_ents [⟨x, y⟩]) (by simp only [maxLen]; omega) (by omega) (by omega) ?_; intro A8 c8 w8 o8 ch8 d8 _; rw [snoc_ents] at o8; have zE : w8.frozen? ⟨gx, 1, none⟩ = false := (kx7.chg ch8 (fun e => by have := unhide HRX _ e; omega)).frozen 1; have zC : w8.cell? ⟨gx, 1, none⟩ = some (.slice A1 er.length c1) := (kx7.chg ch8 (fun e => by have := unhide HRX _ e; omega)).cell 1)
        have hAl : ∀ q, A1 = some ⟨q, 0, none⟩ → q < gx := unhide HRX
        have kx8 := kx7.chg ch8 (fun e => by have := hAl _ e; omega)
        have k8 := k7.chg ch8 (fun e => by have := own_rng or7 _ e; omega)
        have oth8 := own_chg ow7 ch8 (fun q hA e => unhide HAP q e hA)
        have hr8 := hr1.chg ch8 (fun k hk hA => by have := own_rng or7 k hA; omega)
        have q8 := chg_app q7 ch8 (fun q e => .inr (by have := own_rng or7 q e; omega))
        have hs8 := ch8.size
        have kT := k8.far_ (p := ⟨gx, 1, none⟩) (by simp only []; omega) (.slice A8 (er.length + 1) c8)
        have xT := kx8.set_ 1 (.slice A8 (er.length + 1) c8)
        have hc0 := (Chg.refl (fun q => q = gx) w8).setCell (p := ⟨gx, 1, none⟩) (.inl rfl) (.slice A8 (er.length + 1) c8)
        have hA8 : ∀ q, A8 = some ⟨q, 0, none⟩ → A1 = some ⟨q, 0, none⟩ ∨ w7.heap.size ≤ q := fun q e => by
          rcases d8 with rfl | ⟨rfl, _⟩
          · exact .inl e
          · injection e with e; injection e with e; exact .inr (by omega)
        have aT := own_chg o8 hc0 (fun q hA e => by rcases hA8 q hA with h | h; have := hAl q h; omega; omega)
        have bT := own_chg oth8 hc0 (fun q hA e => by have := unhide HWX q hA; omega)
        have apT : ∀ q, A8 = some ⟨q, 0, none⟩ → A2 ≠ some ⟨q, 0, none⟩ := fun q e1 e2 => by
          rcases hA8 q e1 with h | h; exact unhide HAP q h e2; have := unhide HWX q e2; omega
        have hT := (hr8.chg hc0 (fun k hk e => by omega)).more (M := N + 99) (by omega)
        have qT := q8.setCell (p := ⟨gx, 1, none⟩) (.inr (by simp only []; omega)) (.slice A8 (er.length + 1) c8)
        have hl1 : (er ++ [⟨x, y⟩] : List Ent).length = er.length + 1 := by simp
        rw [← hl1] at kT xT aT bT qT hT
        have rT := aT
        have wT := bT
        rw [← hl1]
        have hl3 : (er ++ [(⟨x, y⟩ : Ent)]).length ≤ 3 := by simp; omega
        clear hl1 aT bT o8
        generalize er ++ [(⟨x, y⟩ : Ent)] = L at kT xT rT wT hT qT hl3 ⊢
        refine at_world (C := fun w => Code.wp _ _ _ _ w) (F := fun W => Blk W w.heap.size 71 #[.bool false, .slice none 0 0, .slice none 0 0] ∧ Blk W gx 71 #[.bool ed, .slice A8 (L).length c8, .slice A2 (ew).length c2] ∧ W.ownsRow (w.heap.size + 1) 80 2 (.slice A8 (L).length c8) (L).length ((L).flatMap encE) ∧ W.ownsRow (w.heap.size + 1) 80 2 (.slice A2 (ew).length c2) (ew).length ((ew).flatMap encE) ∧ Rdr W g (N + 99) ∧ Chg (fun k => k = g) w W) ⟨kT, xT, rT, wT, hT, qT⟩ ?_
        clear kT xT rT wT hT qT
        rintro W ⟨kT, xT, rT, wT, hT, qT⟩
        have APT := hide apT
        clear apT
        have l1 := kT.lt
        have l2 := xT.lt
        have c0x : W.cell? ⟨gx, 0, none⟩ = some (.bool ed) := xT.cell 0
        have c1x : W.cell? ⟨gx, 1, none⟩ = some (.slice A8 (L).length c8) := xT.cell 1
        have c2x : W.cell? ⟨gx, 2, none⟩ = some (.slice A2 (ew).length c2) := xT.cell 2
        have y0 : W.cell? ⟨w.heap.size, 0, none⟩ = some (.bool false) := kT.cell 0
        have p0 : W.frozen? ⟨w.heap.size, 0, none⟩ = false := kT.frozen 0
        have y1 : W.cell? ⟨w.heap.size, 1, none⟩ = some (.slice none 0 0) := kT.cell 1
        have p1 : W.frozen? ⟨w.heap.size, 1, none⟩ = false := kT.frozen 1
        have y2 : W.cell? ⟨w.heap.size, 2, none⟩ = some (.slice none 0 0) := kT.cell 2
        have p2 : W.frozen? ⟨w.heap.size, 2, none⟩ = false := kT.frozen 2
        have HF := hide (eff_last (ed := ed) hg hl3 (by omega) rT wT (unhide APT) hT qT)
        clear rT wT
        go_wp2
        have kb := ((kT.set_ 0 (.bool ed)).set_ 1 (.slice A8 (L).length c8)).set_ 2 (.slice A2 (ew).length c2)
        refine bodyPost_ret (v := .agg #[.bool ed, .slice A8 (L).length c8, .slice A2 (ew).length c2]) (results_cell_row rfl _ _ w.heap.size 71 #[.bool ed, .slice A8 (L).length c8, .slice A2 (ew).length c2] (0, 0) _ rfl kb Try.underlying71 rfl info_valEffect) rfl (unhide HF)
end Go.Proofs.Ytiaodcjocogkkaa
