/- Actions that are run ahead of their order, of the program (printed by gen_in.py from xahead.in). -/
import Derived.Test.YtihlhejencninaaGreatEngFin
import Derived.Test.YtihlhejencninaaGreatEngRes
namespace Go.Proofs.YtihlhejencninaaGreat
open Go.RowKit
set_option linter.unusedVariables false
set_option linter.unusedSimpArgs false

theorem engF_done {s : List Ent} {al : List Act} {ms : List Int} (hs : storeB s = true) (ha : actsB al = true) (hm : ms.length ≤ 200) : ∀ x ∈ (engF s al ms).slots, x.stage = 2 := fun x hx => by
 obtain ⟨n, hn, rfl⟩ := slot_at hx
 exact (engF_ok hs ha hm).bef n (by rw [← (engF_keep s al ms).2.2]; exact hn)
theorem ahead_no {s : List Ent} {al : List Act} {ms : List Int} (h : aheadOk s al ms = false) : aheadS s al ms = [] ∧ aheadE s al ms = [] ∧ aheadT s al ms = -1 := by
 unfold aheadS aheadE aheadT
 rw [h]
 simp
theorem ahead_yes {s : List Ent} {al : List Act} {ms : List Int} (hs : storeB s = true) (ha : actsB al = true) (hm : ms.length ≤ 200) : aheadS s al ms = storeL (nowV (engF s al ms).base (engF s al ms).vers 10) ∧ aheadE s al ms = (engF s al ms).slots.map (·.res) ∧ aheadT s al ms = trsF (engF s al ms) := by
 have h : aheadOk s al ms = true := by unfold aheadOk; rw [hs, ha, decide_eq_true hm]; rfl
 obtain ⟨h1, h2⟩ := ahead_serial hs ha hm
 unfold aheadS aheadE aheadT
 rw [if_pos h, if_pos h, if_pos h, (engF_keep s al ms).1, h1, h2]
 exact ⟨rfl, rfl, rfl⟩
set_option maxRecDepth 100000 in
set_option maxHeartbeats 4000000 in
theorem runAhead_impl (A : Option Addr) (c : Nat) (s : List Ent) (B : Option Addr) (cb : Nat) (al : List Act) (M : Option Addr) (cm : Nat) (ms : List Int) (w : World) (ha : Rd w A (s.flatMap encE)) (hla : s.length ≤ 4611686018427387904) (hb : Rd w B (al.flatMap encA)) (hlb : al.length ≤ 4611686018427387904) (hm : Rd w M (ms.map (.int .i64))) (hlm : ms.length ≤ 4611686018427387904) :
   Calls Tryz.prog 31 #[.slice A s.length c, .slice B al.length cb, .slice M ms.length cm] w fun x w' => ∃ A' c' B' d' fp, x = .returned (.tuple #[.slice A' (aheadS s al ms).length c', .slice B' (aheadE s al ms).length d', .int .i64 (aheadT s al ms)]) ∧ w'.ownsRow w.heap.size 79 2 (.slice A' (aheadS s al ms).length c') (aheadS s al ms).length ((aheadS s al ms).flatMap encE) ∧ OwnD effO 107 3 w' B' d' (aheadE s al ms) fp ∧ (∀ k ∈ fp, w.heap.size ≤ k) ∧ (∀ q, A' = some ⟨q, 0, none⟩ → q ∉ fp) ∧ Below w.heap.size w w' := by
 have KS := storeB_impl A c s w ha hla
 have HKA := hide (fun (w' : World) (hb' : Below w.heap.size w w') => actionsValid_impl B cb al w' (hb.new hb') hlb)
 have HA := hide ha
 have HB := hide hb
 have HM := hide hm
 clear ha hb hm
 cases hs : storeB s
 · have HN := hide (ahead_no (s := s) (al := al) (ms := ms) (by simp [aheadOk, hs]))
   rw [hs] at KS
   go_enter Tryz.func31, Tryz.ntmps31
   go_wp2_with fail
   refine KS.mono ?_
   rintro x w1 ⟨rfl, b1⟩
   go_wp2
   go_ret3
   obtain ⟨n1, n2, n3⟩ := unhide HN
   rw [n1, n2, n3]
   exact ⟨none, 0, none, 0, [], rfl, own_nil _ _ _ _, ownD_nil _ _ _ _, by simp, by simp, b1⟩
 rw [hs] at KS
 have HS := hide hs
 cases hal : actsB al
 · have HN := hide (ahead_no (s := s) (al := al) (ms := ms) (by simp [aheadOk, hal]))
   have HAL := hide hal
   clear hs hal
   go_enter Tryz.func31, Tryz.ntmps31
   go_wp2_with fail
   refine KS.mono ?_
   rintro x w1 ⟨rfl, b1⟩
   go_wp2_with fail
   refine (unhide HKA w1 b1).mono ?_
   rintro x w2 ⟨rfl, b2⟩
   rw [unhide HAL]
   go_wp2
   go_ret3
   obtain ⟨n1, n2, n3⟩ := unhide HN
   rw [n1, n2, n3]
   exact ⟨none, 0, none, 0, [], rfl, own_nil _ _ _ _, ownD_nil _ _ _ _, by simp, by simp, bthen b1 b2⟩
 have HAL := hide hal
 clear hs hal
 by_cases hl : ms.length ≤ 200
 rotate_left
 · have HN := hide (ahead_no (s := s) (al := al) (ms := ms) (by unfold aheadOk; rw [decide_eq_false hl]; simp))
   have i1 : (200 : Int) < (ms.length : Int) := by omega
   go_enter Tryz.func31, Tryz.ntmps31
   go_wp2_with fail
   refine KS.mono ?_
   rintro x w1 ⟨rfl, b1⟩
   go_wp2_with fail
   refine (unhide HKA w1 b1).mono ?_
   rintro x w2 ⟨rfl, b2⟩
   rw [unhide HAL]
   go_wp2
   go_ret3
   obtain ⟨n1, n2, n3⟩ := unhide HN
   rw [n1, n2, n3]
   exact ⟨none, 0, none, 0, [], rfl, own_nil _ _ _ _, ownD_nil _ _ _ _, by simp, by simp, bthen b1 b2⟩
 have i1 : ¬ (200 : Int) < (ms.length : Int) := by omega
 have HY := hide (ahead_yes (unhide HS) (unhide HAL) hl)
 have HDN := hide (engF_done (ms := ms) (unhide HS) (unhide HAL) hl)
 have HFO := hide (engF_ok (ms := ms) (unhide HS) (unhide HAL) hl).ok
 have HRF := hide (run_fin (ms := ms) (unhide HS) (unhide HAL) hl)
 have HE0 := hide (ok_eng0 (unhide HS) (unhide HAL))
 have HEF := hide (show finE (runE (eng0 s al) ms) (runE (eng0 s al) ms).slots.length = engF s al ms by rw [run_len]; rfl)
 have HTR := hide (trs_le (ms := ms) (unhide HS) (unhide HAL) hl)
 go_enter Tryz.func31, Tryz.ntmps31
 go_wp2_with fail
 refine KS.mono ?_
 rintro x w1 ⟨rfl, b1⟩
 clear KS
 go_wp2_with fail
 refine (unhide HKA w1 b1).mono ?_
 rintro x w2 ⟨rfl, b2⟩
 rw [unhide HAL]
 have b12 := bthen b1 b2
 clear b1 b2
 go_wp2_with fail
 refine (engineOf_impl A c s B cb al w2 ((unhide HA).new b12) ((unhide HB).new b12) (unhide HS) (unhide HAL)).mono ?_
 rintro x w3 ⟨B1, d1, B2, d2, B3, d3, B4, d4, rfl, rd3, b3⟩
 have b13 := bthen b12 b3
 go_wp2_with fail
 refine (engineRun_impl (eng0 s al) B1 d1 B2 d2 B3 d3 B4 d4 M cm ms w3 rd3 (unhide HE0) ((unhide HM).new b13) hl).mono ?_
 rintro x w4 ⟨C1, f1, C2, f2, C3, f3, C4, f4, z, rfl, rd4, b4⟩
 have b14 := bthen b13 b4
 simp only [engA]
 clear rd3 b3 b12 b4
 generalize runE (eng0 s al) ms = E at *
 obtain ⟨W, hW⟩ : ∃ W : World, W = w4.alloc (.cells (engA E C1 f1 C2 f2 C3 f3 C4 f4) 96) := ⟨_, rfl⟩
 have b4W : Below w4.heap.size w4 W := by rw [hW]; exact (Below.refl _ _).alloc (Nat.le_refl _) _
 have K0 : Blk W w4.heap.size 96 (engA E C1 f1 C2 f2 C3 f3 C4 f4) := by rw [hW]; exact Blk.new _ _ _
 have KF := engineFinish_impl E C1 f1 C2 f2 C3 f3 C4 f4 W (rd4.new b4W) (unhide HRF)
 rw [unhide HEF] at KF
 have b1W := bthen b14 b4W
 have hlW := K0.lt
 have HK0 := hide (fun (w' : World) (hb : Below W.heap.size W w') => K0.new_ hb)
 have hw4 := b14.size
 obtain ⟨g, hg⟩ : ∃ g, g = w4.heap.size := ⟨_, rfl⟩
 rw [← hg] at HK0 hlW hw4
 clear rd4 K0 b14 b13
 simp only [engA] at hW KF HK0
 go_wp2_with fail
 rw [← hW, ← hg]
 clear hW hg
 refine KF.mono ?_
 rintro x w5 ⟨D1, g1, D2, g2, D3, g3, D4, g4, z2, rfl, rd5, b5⟩
 clear KF
 have k5 := unhide HK0 w5 b5
 have hl5 := b5.size
 have b15 := bthen b1W b5
 generalize engF s al ms = F at *
 have r2 := rd5.keep (w' := w5.setRow g #[.slice D1 F.base.length g1, .slice D2 F.list.length g2, .slice D3 F.vers.length g3, .slice D4 F.slots.length g4]) ⟨by rw [size_setRow]; exact Nat.le_refl _, fun q hq _ => setRow_other w5 g q _ (by omega)⟩ (fun q hq _ => setRow_other w5 g q _ (by have := (rd5.rng q hq).1; omega))
 have k2 := blk_setRow (ds := #[.slice D1 F.base.length g1, .slice D2 F.list.length g2, .slice D3 F.vers.length g3, .slice D4 F.slots.length g4]) k5
 have b2 := below_setRow b15 hw4 #[.slice D1 F.base.length g1, .slice D2 F.list.length g2, .slice D3 F.vers.length g3, .slice D4 F.slots.length g4]
 have rd2 := r2.rd
 clear r2 rd5
 simp only [engA]
 go_wp2_with (refine wpList_store_row rfl 96 (.tmp 9) (.tmp 38) rfl g #[.slice D1 F.base.length g1, .slice D2 F.list.length g2, .slice D3 F.vers.length g3, .slice D4 F.slots.length g4] rfl rfl 96 #[.slice C1 E.base.length f1, .slice C2 E.list.length f2, .slice C3 E.vers.length f3, .slice C4 E.slots.length f4] k5 info_eng4 rfl (sl4_one _ _ _ _ _ _ _ _ _ _ _ _) ?_; refine at_world (C := fun W => wpList _ _ _ _ _ W) (F := fun W2 => Blk W2 g 96 #[.slice D1 F.base.length g1, .slice D2 F.list.length g2, .slice D3 F.vers.length g3, .slice D4 F.slots.length g4] ∧ Below w.heap.size w W2 ∧ EngRd W2 F D1 D2 D3 D4) ⟨k2, b2, rd2⟩ ?_; clear k2 b2 rd2; rintro W2 ⟨k2, b2, rd2⟩; have HK2 := hide (fun (w' : World) (hb : Below W2.heap.size W2 w') => k2.new_ hb); obtain ⟨y0, y1, y2, y3⟩ : W2.cell? ⟨g, 0, none⟩ = some (.slice D1 F.base.length g1) ∧ W2.cell? ⟨g, 1, none⟩ = some (.slice D2 F.list.length g2) ∧ W2.cell? ⟨g, 2, none⟩ = some (.slice D3 F.vers.length g3) ∧ W2.cell? ⟨g, 3, none⟩ = some (.slice D4 F.slots.length g4) := ⟨k2.cell 0, k2.cell 1, k2.cell 2, k2.cell 3⟩; have hW2l := b2.size; have hg2 := k2.lt)
 have KR := engineResult_impl F D1 g1 D2 g2 D3 g3 D4 g4 W2 rd2 (unhide HFO) (unhide HDN)
 simp only [engA] at KR
 refine KR.mono ?_
 rintro x w6 ⟨P1, p1, P2, p2, fp, rfl, o1, o2, hfp, hap, b6⟩
 clear KR y0 y1 y2 y3
 have k6 := unhide HK2 w6 b6
 obtain ⟨y0, y1, y2, y3⟩ : w6.cell? ⟨g, 0, none⟩ = some (.slice D1 F.base.length g1) ∧ w6.cell? ⟨g, 1, none⟩ = some (.slice D2 F.list.length g2) ∧ w6.cell? ⟨g, 2, none⟩ = some (.slice D3 F.vers.length g3) ∧ w6.cell? ⟨g, 3, none⟩ = some (.slice D4 F.slots.length g4) := ⟨k6.cell 0, k6.cell 1, k6.cell 2, k6.cell 3⟩
 have KT := tries_impl F D1 g1 D2 g2 D3 g3 D4 g4 w6 (rd2.slots.new slt_good b6) (unhide HFO)
 simp only [engA] at KT
 have HAP := hide hap
 have HFP := hide hfp
 clear hap hfp
 go_wp2_with fail
 refine KT.mono ?_
 rintro x w7 ⟨rfl, b7⟩
 go_wp2
 go_ret3
 obtain ⟨n1, n2, n3⟩ := unhide HY
 rw [n1, n2, n3]
 exact ⟨P1, p1, P2, p2, fp, by rw [List.length_map]; rfl, own_base (own_new o1 b7) hW2l, o2.new effO_good b7, fun q hq => by have := unhide HFP q hq; omega, unhide HAP, bthen b2 (bthen b6 b7)⟩
end Go.Proofs.YtihlhejencninaaGreat
