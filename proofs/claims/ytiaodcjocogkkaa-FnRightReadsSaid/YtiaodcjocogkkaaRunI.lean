/- impl.RunAction at any input. -/
import Derived.Test.YtiaodcjocogkkaaRunSpec
import Derived.Test.YtiaodcjocogkkaaSerial
import Derived.Test.YtiaodcjocogkkaaArr
import Derived.Test.YtiaodcjocogkkaaActS
import Derived.Deep.Cut
import Derived.Test.YtiaodcjocogkkaaLocB
namespace Go.Proofs.Ytiaodcjocogkkaa
open Go.RowKit
set_option linter.unusedVariables false
set_option linter.unusedSimpArgs false

/-- what RunAction gives -/
def ownE (s : List Ent) (a : Act) : Eff := if storeB s = true ∧ actB a = true then runV (valsL s) a else ⟨false, [], []⟩
theorem ownE_yes {s : List Ent} {a : Act} (hs : storeB s = true) (ha : actB a = true) : ownE s a = runV (valsL s) a := by unfold ownE; rw [if_pos ⟨hs, ha⟩]
theorem ownE_no {s : List Ent} {a : Act} (h : ¬ (storeB s = true ∧ actB a = true)) : ownE s a = ⟨false, [], []⟩ := by unfold ownE; rw [if_neg h]
theorem ownE_len (s : List Ent) (a : Act) : (ownE s a).reads.length ≤ 2 ∧ (ownE s a).writes.length ≤ 2 := by
  unfold ownE
  split
  · exact runV_len _ _
  · simp
def EndE (w : World) (E : Eff) (e : Ending) (w' : World) : Prop := ∃ A1 c1 A2 c2, e = .returned (.agg #[.bool E.done, .slice A1 E.reads.length c1, .slice A2 E.writes.length c2]) ∧ effR (fun k => w.heap.size ≤ k) E w' (effV E A1 c1 A2 c2) ∧ Below w.heap.size w w'
set_option maxRecDepth 100000 in
set_option maxHeartbeats 2000000 in
theorem runAction_impl (A : Option Addr) (ca : Nat) (s : List Ent) (a : Act) (w : World) (ha : Rd w A (s.flatMap encE)) (hla : s.length ≤ 4611686018427387904) :
    Calls Try.prog 46 #[.slice A s.length ca, .agg #[.int .i64 a.kind, .int .i64 a.src, .int .i64 a.dst, .int .i64 a.amt]] w fun e w' => EndE w (ownE s a) e w' := by
  have hW : ∃ W : World, W = ((w.alloc (.cells #[.int .i64 a.kind, .int .i64 a.src, .int .i64 a.dst, .int .i64 a.amt] 75)).alloc (.cells #[.bool false, .slice none 0 0, .slice none 0 0] 71)) ∧ Blk W w.heap.size 75 #[.int .i64 a.kind, .int .i64 a.src, .int .i64 a.dst, .int .i64 a.amt] ∧ Blk W (w.heap.size + 1) 71 #[.bool false, .slice none 0 0, .slice none 0 0] ∧ Below w.heap.size w W ∧ W.heap.size = w.heap.size + 2 := by
    refine ⟨_, rfl, (Blk.new _ _ _).alloc _, ?_, ((Below.refl _ _).alloc (Nat.le_refl _) _).alloc (by simp) _, by simp⟩
    have := Blk.new (w.alloc (.cells #[.int .i64 a.kind, .int .i64 a.src, .int .i64 a.dst, .int .i64 a.amt] 75)) 71 #[.bool false, .slice none 0 0, .slice none 0 0]
    simpa using this
  obtain ⟨W, hWe, kA, kR, hB, hWs⟩ := hW
  have HE := hide (fun (w2 : World) (kR : Blk w2 (w.heap.size + 1) 71 #[.bool false, .slice none 0 0, .slice none 0 0]) (hB : Below w.heap.size w w2) => show EndE w ⟨false, [], []⟩ (.returned (.agg #[.bool false, .slice none 0 0, .slice none 0 0])) (((w2.setCell ⟨w.heap.size + 1, 0, none⟩ (.bool false)).setCell ⟨w.heap.size + 1, 1, none⟩ (.slice none 0 0)).setCell ⟨w.heap.size + 1, 2, none⟩ (.slice none 0 0)) by
    have hc := (((Chg.refl (fun q => q = w.heap.size + 1) w2).setCell (p := ⟨w.heap.size + 1, 0, none⟩) (.inl rfl) (.bool false)).setCell (p := ⟨w.heap.size + 1, 1, none⟩) (.inl rfl) (.slice none 0 0)).setCell (p := ⟨w.heap.size + 1, 2, none⟩) (.inl rfl) (.slice none 0 0)
    exact ⟨none, 0, none, 0, rfl, ⟨none, 0, none, 0, rfl, by simp [maxLen], by simp [maxLen], RdP.nil _ _ _, RdP.nil _ _ _⟩, hB.trans (hc.below (fun q hq e => by omega) hB.size)⟩)
  have HF := hide (fun (E : Eff) (w4 w5 : World) (A1 : Option Addr) (c1 : Nat) (A2 : Option Addr) (c2 : Nat) (hB : Below w.heap.size w w4) (hs : w.heap.size + 2 ≤ w4.heap.size) (r : effR (fun k => w4.heap.size ≤ k) E w5 (effV E A1 c1 A2 c2)) (b5 : Below w4.heap.size w4 w5) => show EndE w E (.returned (.agg #[.bool E.done, .slice A1 E.reads.length c1, .slice A2 E.writes.length c2])) (((w5.setCell ⟨w.heap.size + 1, 0, none⟩ (.bool E.done)).setCell ⟨w.heap.size + 1, 1, none⟩ (.slice A1 E.reads.length c1)).setCell ⟨w.heap.size + 1, 2, none⟩ (.slice A2 E.writes.length c2)) by
    have hc := (((Chg.refl (fun q => q = w.heap.size + 1) w5).setCell (p := ⟨w.heap.size + 1, 0, none⟩) (.inl rfl) (.bool E.done)).setCell (p := ⟨w.heap.size + 1, 1, none⟩) (.inl rfl) (.slice A1 E.reads.length c1)).setCell (p := ⟨w.heap.size + 1, 2, none⟩) (.inl rfl) (.slice A2 E.writes.length c2)
    have hB5 := bthen hB b5
    exact ⟨A1, c1, A2, c2, rfl, eff_good.mono (eff_good.keep r (Kp.chg hc fun q hq e => by omega)) (fun q hq _ => by omega), hB5.trans (hc.below (fun q hq e => by omega) hB5.size)⟩)
  cases hsa : storeB s
  · have HN := hide (ownE_no (s := s) (a := a) (by simp [hsa]))
    go_enter Try.func46, Try.ntmps46
    go_wp2_with fail
    rw [← hWe]
    clear hWe
    refine (storeB_impl A ca s W (ha.new hB) hla).mono ?_
    rintro e w1 ⟨rfl, b1⟩
    rw [hsa]
    replace kR := kR.new_ b1
    replace hB := bthen hB b1
    clear b1
    have hl := kR.lt
    have f0 : w1.frozen? ⟨w.heap.size + 1, 0, none⟩ = false := kR.frozen 0
    have f1 : w1.frozen? ⟨w.heap.size + 1, 1, none⟩ = false := kR.frozen 1
    have f2 : w1.frozen? ⟨w.heap.size + 1, 2, none⟩ = false := kR.frozen 2
    have e0 : w1.cell? ⟨w.heap.size + 1, 0, none⟩ = some (.bool false) := kR.cell 0
    have e1 : w1.cell? ⟨w.heap.size + 1, 1, none⟩ = some (.slice none 0 0) := kR.cell 1
    have e2 : w1.cell? ⟨w.heap.size + 1, 2, none⟩ = some (.slice none 0 0) := kR.cell 2
    go_wp2
    have kb := ((kR.set_ 0 (.bool false)).set_ 1 (.slice none 0 0)).set_ 2 (.slice none 0 0)
    refine bodyPost_ret (v := .agg #[.bool false, .slice none 0 0, .slice none 0 0]) (results_cell_row rfl _ _ (w.heap.size + 1) 71 #[.bool false, .slice none 0 0, .slice none 0 0] (0, 0) _ rfl kb Try.underlying71 rfl info_valEffect) rfl ?_
    rw [unhide HN]
    exact unhide HE _ kR hB
  cases hab : actB a
  · have HN := hide (ownE_no (s := s) (a := a) (by simp [hab]))
    go_enter Try.func46, Try.ntmps46
    go_wp2_with fail
    rw [← hWe]
    clear hWe
    refine (storeB_impl A ca s W (ha.new hB) hla).mono ?_
    rintro e w1 ⟨rfl, b1⟩
    rw [hsa]
    replace kA := kA.new_ b1
    replace kR := kR.new_ b1
    replace hB := bthen hB b1
    clear b1
    have x0 : w1.cell? ⟨w.heap.size, 0, none⟩ = some (.int .i64 a.kind) := kA.cell 0
    have x1 : w1.cell? ⟨w.heap.size, 1, none⟩ = some (.int .i64 a.src) := kA.cell 1
    have x2 : w1.cell? ⟨w.heap.size, 2, none⟩ = some (.int .i64 a.dst) := kA.cell 2
    have x3 : w1.cell? ⟨w.heap.size, 3, none⟩ = some (.int .i64 a.amt) := kA.cell 3
    go_wp2_with fail
    refine (actionValid_impl a _).mono ?_
    rintro e w2 ⟨rfl, b2⟩
    rw [hab]
    clear x0 x1 x2 x3 kA
    replace kR := kR.new_ b2
    replace hB := bthen hB b2
    clear b2
    have hl := kR.lt
    have f0 : w2.frozen? ⟨w.heap.size + 1, 0, none⟩ = false := kR.frozen 0
    have f1 : w2.frozen? ⟨w.heap.size + 1, 1, none⟩ = false := kR.frozen 1
    have f2 : w2.frozen? ⟨w.heap.size + 1, 2, none⟩ = false := kR.frozen 2
    have e0 : w2.cell? ⟨w.heap.size + 1, 0, none⟩ = some (.bool false) := kR.cell 0
    have e1 : w2.cell? ⟨w.heap.size + 1, 1, none⟩ = some (.slice none 0 0) := kR.cell 1
    have e2 : w2.cell? ⟨w.heap.size + 1, 2, none⟩ = some (.slice none 0 0) := kR.cell 2
    go_wp2
    have kb := ((kR.set_ 0 (.bool false)).set_ 1 (.slice none 0 0)).set_ 2 (.slice none 0 0)
    refine bodyPost_ret (v := .agg #[.bool false, .slice none 0 0, .slice none 0 0]) (results_cell_row rfl _ _ (w.heap.size + 1) 71 #[.bool false, .slice none 0 0, .slice none 0 0] (0, 0) _ rfl kb Try.underlying71 rfl info_valEffect) rfl ?_
    rw [unhide HN]
    exact unhide HE _ kR hB
  have HY := hide (ownE_yes hsa hab)
  have HV := hide (show valOk (valsL s) from valOk_vals (show evOk 1 (-1) s = true from hsa) (by omega))
  have HKS := hide (store_keys hsa)
  have HAB := hide hab
  go_enter Try.func46, Try.ntmps46
  go_wp2_with fail
  rw [← hWe]
  clear hWe
  refine (storeB_impl A ca s W (ha.new hB) hla).mono ?_
  rintro e w1 ⟨rfl, b1⟩
  rw [hsa]
  replace kA := kA.new_ b1
  replace kR := kR.new_ b1
  have hWs1 := b1.size
  replace hB := bthen hB b1
  clear b1
  have x0 : w1.cell? ⟨w.heap.size, 0, none⟩ = some (.int .i64 a.kind) := kA.cell 0
  have x1 : w1.cell? ⟨w.heap.size, 1, none⟩ = some (.int .i64 a.src) := kA.cell 1
  have x2 : w1.cell? ⟨w.heap.size, 2, none⟩ = some (.int .i64 a.dst) := kA.cell 2
  have x3 : w1.cell? ⟨w.heap.size, 3, none⟩ = some (.int .i64 a.amt) := kA.cell 3
  go_wp2_with fail
  refine (actionValid_impl a _).mono ?_
  rintro e w2 ⟨rfl, b2⟩
  rw [hab]
  clear x0 x1 x2 x3 hab hsa
  replace kA := kA.new_ b2
  replace kR := kR.new_ b2
  have hWs2 := b2.size
  replace hB := bthen hB b2
  clear b2
  have ha2 := ha.new hB
  have XA := hide (fun w' (hb : Below w2.heap.size w2 w') => (⟨(kA.new_ hb).cell 0, (kA.new_ hb).cell 1, (kA.new_ hb).cell 2, (kA.new_ hb).cell 3⟩ : w'.cell? ⟨w.heap.size, 0, none⟩ = some (.int .i64 a.kind) ∧ w'.cell? ⟨w.heap.size, 1, none⟩ = some (.int .i64 a.src) ∧ w'.cell? ⟨w.heap.size, 2, none⟩ = some (.int .i64 a.dst) ∧ w'.cell? ⟨w.heap.size, 3, none⟩ = some (.int .i64 a.amt)))
  clear kA
  generalize hv : valsL s = v at *
  have HVE := hide hv
  clear hv
  have hF : StBL [bV (.agg #[.int .i64 a.kind, .int .i64 a.src, .int .i64 a.dst, .int .i64 a.amt]), bV (.slice A s.length ca), bV (.agg (vA v))] :=
    ⟨sb_V _, sb_V _, sb_V _, trivial⟩
  go_upto_region 3 with fail
  refine wp_region_loc (by kernel_rfl) [(0, some 14), (1, some 15), (2, some 16)] [[], [], [(1, some 15)]] (by kernel_rfl)
    (locB _) (fun a b => Below a.heap.size a b) noR [0, 0, 0] 0 (by kernel_rfl) (fun _ => Below.refl _ _) (fun _ _ _ => bthen) (locB_st hF _) trivial ?_ ?_
  · refine steps_cons ?s0 (steps_cons ?s1 (steps_cons ?s2 steps_nil))
    case s0 =>
      intro w' m hE hR Q hQ
      obtain ⟨x0, x1, x2, x3⟩ := unhide XA w' (below_undrew hE)
      go_wp2
      exact hQ _ _ _ rfl rfl (Below.refl _ _) trivial
    case s1 =>
      intro w' m hE hR Q hQ
      go_wp2
      exact hQ _ _ _ rfl rfl (Below.refl _ _) trivial
    case s2 =>
      intro w' m hE hR
      rintro _ rfl Q hQ
      have K := valuesOf_any A ca s w' (ha2.new (below_undrew hE)) (by omega) (unhide HKS)
      rw [unhide HVE] at K
      go_wp2_with fail
      refine K.mono ?_
      rintro e w1 ⟨rfl, b1⟩
      go_wp2
      exact hQ _ _ _ rfl rfl b1 trivial
  intro w4 hE _
  rintro v0 hv0 v1 - v2 hv2
  obtain rfl : v0 = _ := hv0
  obtain rfl : v2 = _ := hv2
  have b4 := below_undrew hE
  have hWs4 := b4.size
  replace kR := kR.new_ b4
  replace hB := bthen hB b4
  clear b4 hE XA hF
  change wpList _ _ _ [_, _] _ _
  simp only [Act.put, List.setIfInBounds_toArray, List.set_cons_succ, List.set_cons_zero]
  go_wp2_with fail
  refine (run_any a v w4 (unhide HAB) (unhide HV)).mono ?_
  rintro e w5 ⟨A1, c1, A2, c2, rfl, r5, b5⟩
  have KF := hide (unhide HF _ w4 w5 A1 c1 A2 c2 hB (by omega) r5 b5)
  replace kR := kR.new_ b5
  clear r5 b5
  have hl := kR.lt
  have f0 : w5.frozen? ⟨w.heap.size + 1, 0, none⟩ = false := kR.frozen 0
  have f1 : w5.frozen? ⟨w.heap.size + 1, 1, none⟩ = false := kR.frozen 1
  have f2 : w5.frozen? ⟨w.heap.size + 1, 2, none⟩ = false := kR.frozen 2
  have e0 : w5.cell? ⟨w.heap.size + 1, 0, none⟩ = some (.bool false) := kR.cell 0
  have e1 : w5.cell? ⟨w.heap.size + 1, 1, none⟩ = some (.slice none 0 0) := kR.cell 1
  have e2 : w5.cell? ⟨w.heap.size + 1, 2, none⟩ = some (.slice none 0 0) := kR.cell 2
  have HYV := HY
  generalize runV v a = E at *
  go_wp2
  have kb := ((kR.set_ 0 (.bool E.done)).set_ 1 (.slice A1 E.reads.length c1)).set_ 2 (.slice A2 E.writes.length c2)
  refine bodyPost_ret (v := .agg #[.bool E.done, .slice A1 E.reads.length c1, .slice A2 E.writes.length c2]) (results_cell_row rfl _ _ (w.heap.size + 1) 71 #[.bool E.done, .slice A1 E.reads.length c1, .slice A2 E.writes.length c2] (0, 0) _ rfl kb Try.underlying71 rfl info_valEffect) rfl ?_
  rw [unhide HYV]
  exact unhide KF
end Go.Proofs.Ytiaodcjocogkkaa
