/- Engines that run, of the program (printed by gen_in.py from xengrun.in). -/
import Derived.Test.YtihlhejencninaaGreatStepI
import Derived.Test.YtihlhejencninaaGreatEClone
import Derived.Test.YtihlhejencninaaGreatEngT
namespace Go.Proofs.YtihlhejencninaaGreat
open Go.RowKit
set_option linter.unusedVariables false
set_option linter.unusedSimpArgs false

theorem make_slt (n : Nat) (hn : n ≤ 1048576) (w : World) : (Instr.makeSlice 94 (.int .i64 (n : Int)) (.int .i64 (n : Int))).run Tryz.prog w = .ok (.slice (some ⟨w.heap.size, 0, none⟩) n n) (w.alloc (.cells (List.replicate n [Value.int .i64 0, .int .i64 0, .slice none 0 0, .bool false, .slice none 0 0, .slice none 0 0]).flatten.toArray 141)) := by
 obtain ⟨i0, hi0, hz0, hz1, hz2⟩ := info_parts info_slt
 rw [run_make_rowN 94 141 i0 _ Tryz.underlying94 hi0 hz0 _ _ n n (Nat.le_refl _) (by rw [hz2]; omega) (by omega), hz1]
 simp only [Value.cells]
 rw [← zeroes_flat [Value.int .i64 0, .int .i64 0, .slice none 0 0, .bool false, .slice none 0 0, .slice none 0 0] 6 n rfl (by omega)]
theorem zSlt_rd (P : Nat → Prop) (w : World) : sltR P zSlt w [.int .i64 0, .int .i64 0, .slice none 0 0, .bool false, .slice none 0 0, .slice none 0 0] := ⟨none, 0, none, 0, none, 0, rfl, RdP.nil _ _ _, RdP.nil _ _ _, RdP.nil _ _ _⟩
theorem zSlts_all {β : Type} (P : Nat → Prop) (w : World) : ∀ (al : List β), AllR sltR P w (al.map fun _ => zSlt) (List.replicate al.length [.int .i64 0, .int .i64 0, .slice none 0 0, .bool false, .slice none 0 0, .slice none 0 0])
 | [] => trivial
 | _ :: al => ⟨zSlt_rd P w, zSlts_all P w al⟩
theorem zSlts_rd {β : Type} (w : World) (al : List β) (t : TypeId) : RdD sltR (fun _ => True) (w.alloc (.cells (List.replicate al.length [Value.int .i64 0, .int .i64 0, .slice none 0 0, .bool false, .slice none 0 0, .slice none 0 0]).flatten.toArray t)) (some ⟨w.heap.size, 0, none⟩) (al.map fun _ => zSlt) :=
 ⟨_, zSlts_all _ _ al, RdP.of_rd (rd_lit w _ t) fun _ _ _ => trivial⟩
set_option maxRecDepth 100000 in
set_option maxHeartbeats 4000000 in
theorem engineOf_impl (A : Option Addr) (c : Nat) (s : List Ent) (B : Option Addr) (cb : Nat) (al : List Act) (w : World) (ha : Rd w A (s.flatMap encE)) (hb : Rd w B (al.flatMap encA)) (hs : storeB s = true) (hal : actsB al = true) :
   Calls Tryz.prog 73 #[.slice A s.length c, .slice B al.length cb] w fun x w' => ∃ B1 d1 B2 d2 B3 d3 B4 d4, x = .returned (.agg (engA (eng0 s al) B1 d1 B2 d2 B3 d3 B4 d4)) ∧ EngRd w' (eng0 s al) B1 B2 B3 B4 ∧ Below w.heap.size w w' := by
 have hsl := store_len hs
 have hll := (actsB_yes hal).1
 obtain ⟨W, hW⟩ : ∃ W : World, W = w.alloc (.cells #[.slice none 0 0, .slice none 0 0, .slice none 0 0, .slice none 0 0] 96) := ⟨_, rfl⟩
 have hb0 : Below w.heap.size w W := by rw [hW]; exact (Below.refl _ _).alloc (Nat.le_refl _) _
 have K0 : Blk W w.heap.size 96 #[.slice none 0 0, .slice none 0 0, .slice none 0 0, .slice none 0 0] := by rw [hW]; exact Blk.new _ _ _
 have hW1 := K0.lt
 have KS := storeB_impl A c s W (ha.new hb0) (by omega)
 have HKA := hide (fun (w' : World) (hb' : Below w.heap.size w w') => actionsValid_impl B cb al w' (hb.new hb') (by omega))
 have HAL := hide hal
 rw [hs] at KS
 have HMK := fun w' => make_slt al.length (by omega) w'
 have HK0 := hide (fun (w' : World) (hb' : Below W.heap.size W w') => K0.new_ hb')
 have HA := hide ha
 have HB := hide hb
 have HOK := hide (ok_eng0 hs hal)
 clear K0 ha hb hs hal
 go_enter Tryz.func73, Tryz.ntmps73
 go_wp2_with fail
 rw [← hW]
 clear hW
 refine KS.mono ?_
 rintro x w3 ⟨rfl, b3⟩
 clear KS
 go_wp2_with fail
 refine (unhide HKA w3 (bthen hb0 b3)).mono ?_
 rintro x w4 ⟨rfl, b4⟩
 rw [unhide HAL]
 have b04 := bthen hb0 (bthen b3 b4)
 go_wp2_with fail
 have bm : Below w4.heap.size w4 (w4.alloc (.cells (List.replicate al.length [Value.int .i64 0, .int .i64 0, .slice none 0 0, .bool false, .slice none 0 0, .slice none 0 0]).flatten.toArray 141)) := (Below.refl _ _).alloc (Nat.le_refl _) _
 have hrd : EngRd (w4.alloc (.cells (List.replicate al.length [Value.int .i64 0, .int .i64 0, .slice none 0 0, .bool false, .slice none 0 0, .slice none 0 0]).flatten.toArray 141)) (eng0 s al) A B none (some ⟨w4.heap.size, 0, none⟩) := ⟨(unhide HA).new (bthen b04 bm), (unhide HB).new (bthen b04 bm), Rd.nil _ _, zSlts_rd w4 al _⟩
 have KC := eclone_impl (eng0 s al) A c B cb none 0 (some ⟨w4.heap.size, 0, none⟩) al.length _ hrd (unhide HOK)
 simp only [engA, eng0, List.length_map, List.length_nil] at KC
 refine KC.mono ?_
 rintro x w5 ⟨B1, d1, B2, d2, B3, d3, B4, d4, rfl, hown, b5⟩
 have hrd5 := hown.rd
 clear KC hrd
 have b45 := bthen bm b5
 have k5 := unhide HK0 w5 (bthen (bthen b3 b4) b45)
 have b05 := bthen b04 b45
 go_wp2_with (refine wpList_store_row rfl 96 (.tmp 4) (.tmp 20) rfl w.heap.size #[.slice B1 s.length d1, .slice B2 al.length d2, .slice B3 0 d3, .slice B4 al.length d4] rfl rfl 96 #[.slice none 0 0, .slice none 0 0, .slice none 0 0, .slice none 0 0] k5 info_eng4 rfl (sl4_one _ _ _ _ _ _ _ _ _ _ _ _) ?_)
 refine bodyPost_ret (v := .agg #[.slice B1 s.length d1, .slice B2 al.length d2, .slice B3 0 d3, .slice B4 al.length d4]) (results_cell_row (p := 4) (ty := 96) rfl _ _ w.heap.size 96 #[.slice B1 s.length d1, .slice B2 al.length d2, .slice B3 0 d3, .slice B4 al.length d4] (0, 0) _ rfl (blk_setRow k5) Tryz.underlying96 rfl info_eng4) rfl ?_
 have h45 := b45.size
 have h04 := b04.size
 have h3W := (bthen b3 b4).size
 have hown2 := hown.keep (w' := w5.setRow w.heap.size #[.slice B1 s.length d1, .slice B2 al.length d2, .slice B3 0 d3, .slice B4 al.length d4]) ⟨by rw [size_setRow]; exact Nat.le_refl _, fun q hq _ => setRow_other w5 w.heap.size q _ (by have := hq.1; simp at this; omega)⟩ (fun q hq _ => setRow_other w5 w.heap.size q _ (by have := (hown.rng q hq).1; simp at this; omega))
 refine ⟨B1, d1, B2, d2, B3, d3, B4, d4, ?_, hown2.rd, below_setRow b05 (Nat.le_refl _) _⟩
 simp only [engA, eng0, List.length_map, List.length_nil]
set_option maxRecDepth 100000 in
set_option maxHeartbeats 4000000 in
theorem engineRun_impl (e : Eng) (A1 : Option Addr) (c1 : Nat) (A2 : Option Addr) (c2 : Nat) (A3 : Option Addr) (c3 : Nat) (A4 : Option Addr) (c4 : Nat) (M : Option Addr) (cm : Nat) (ms : List Int) (w : World) (h : EngRd w e A1 A2 A3 A4) (hok : EngOk e) (hm : Rd w M (ms.map (.int .i64))) (hl : ms.length ≤ 200) :
   Calls Tryz.prog 72 #[.agg (engA e A1 c1 A2 c2 A3 c3 A4 c4), .slice M ms.length cm] w fun x w' => ∃ B1 d1 B2 d2 B3 d3 B4 d4 z, x = .returned (.tuple #[.agg (engA (runE e ms) B1 d1 B2 d2 B3 d3 B4 d4), .int .i64 z]) ∧ EngRd w' (runE e ms) B1 B2 B3 B4 ∧ Below w.heap.size w w' := by
 have i0 : ¬ (200 : Int) < (ms.length : Int) := by omega
 obtain ⟨W, hW⟩ : ∃ W : World, W = (w.alloc (.cells (engA e A1 c1 A2 c2 A3 c3 A4 c4) 96)).alloc (.cells #[.slice none 0 0, .slice none 0 0, .slice none 0 0, .slice none 0 0] 96) := ⟨_, rfl⟩
 have hb0 : Below w.heap.size w W := by rw [hW]; exact ((Below.refl _ _).alloc (Nat.le_refl _) _).alloc (by simp) _
 have K0 : Blk W w.heap.size 96 (engA e A1 c1 A2 c2 A3 c3 A4 c4) := by rw [hW]; exact (Blk.new _ _ _).alloc _
 have K1 : Blk W (w.heap.size + 1) 96 #[.slice none 0 0, .slice none 0 0, .slice none 0 0, .slice none 0 0] := by
   rw [hW]
   have := Blk.new (w.alloc (.cells (engA e A1 c1 A2 c2 A3 c3 A4 c4) 96)) 96 #[.slice none 0 0, .slice none 0 0, .slice none 0 0, .slice none 0 0]
   simpa using this
 have hW1 := K1.lt
 have KV := engineValid_impl e A1 c1 A2 c2 A3 c3 A4 c4 W (h.new hb0) hok
 have HKC := hide (fun (w' : World) (hb : Below W.heap.size W w') => eclone_impl e A1 c1 A2 c2 A3 c3 A4 c4 w' (h.new (bthen hb0 hb)) hok)
 have HK0 := hide (fun (w' : World) (hb : Below W.heap.size W w') => K0.new_ hb)
 have HK1 := hide (fun (w' : World) (hb : Below W.heap.size W w') => K1.new_ hb)
 have HM := hide (fun (w' : World) (hb : Below W.heap.size W w') => (Rd.new (Rd.new hm hb0) hb : Rd w' M (ms.map (.int .i64))))
 have HOK := hide hok
 have HLN := hide (run_keep e)
 simp only [engA] at hW KV HKC HK0 ⊢
 obtain ⟨y0, y1, y2, y3⟩ : W.cell? ⟨w.heap.size, 0, none⟩ = some (.slice A1 e.base.length c1) ∧ W.cell? ⟨w.heap.size, 1, none⟩ = some (.slice A2 e.list.length c2) ∧ W.cell? ⟨w.heap.size, 2, none⟩ = some (.slice A3 e.vers.length c3) ∧ W.cell? ⟨w.heap.size, 3, none⟩ = some (.slice A4 e.slots.length c4) := ⟨K0.cell 0, K0.cell 1, K0.cell 2, K0.cell 3⟩
 clear K0 K1 hm h hok
 go_enter Tryz.func72, Tryz.ntmps72
 go_wp2_with fail
 rw [← hW]
 clear hW
 refine KV.mono ?_
 rintro x w3 ⟨rfl, b3⟩
 have k3 := unhide HK0 w3 b3
 clear KV y0 y1 y2 y3
 obtain ⟨y0, y1, y2, y3⟩ : w3.cell? ⟨w.heap.size, 0, none⟩ = some (.slice A1 e.base.length c1) ∧ w3.cell? ⟨w.heap.size, 1, none⟩ = some (.slice A2 e.list.length c2) ∧ w3.cell? ⟨w.heap.size, 2, none⟩ = some (.slice A3 e.vers.length c3) ∧ w3.cell? ⟨w.heap.size, 3, none⟩ = some (.slice A4 e.slots.length c4) := ⟨k3.cell 0, k3.cell 1, k3.cell 2, k3.cell 3⟩
 go_wp2_with fail
 refine (unhide HKC w3 b3).mono ?_
 rintro x w4 ⟨B1, d1, B2, d2, B3, d3, B4, d4, rfl, hown, b4⟩
 have b34 := bthen b3 b4
 have hw3 := b3.size
 have hw4 := b34.size
 have hst0 : EngSt W.heap.size w4.heap.size (w4.alloc (.cells (engA e B1 d1 B2 d2 B3 d3 B4 d4) 96)) e B1 d1 B2 d2 B3 d3 B4 d4 :=
   EngSt.mk_ (hown.lower hw3) (fun k hk => ⟨by omega, hk.2⟩) ((Below.refl _ _).alloc (Nat.le_refl _) _) (Nat.le_refl _) hw4 (Blk.new _ _ _)
 have b5 : Below W.heap.size W (w4.alloc (.cells (engA e B1 d1 B2 d2 B3 d3 B4 d4) 96)) := b34.alloc hw4 _
 obtain ⟨g, hg⟩ : ∃ g, g = w4.heap.size := ⟨_, rfl⟩
 rw [← hg] at hst0
 simp only [engA] at hst0 b5
 clear hown y0 y1 y2 y3 k3
 go_wp2
 rw [← hg]
 clear hg
 go_loopw [7, 9, 23] (fun t _ i wr => ∃ (k : Nat) (z : Int), k ≤ ms.length ∧ i = .int .i64 k ∧ t = .int .i64 z ∧ (0 ≤ z ∧ z ≤ k) ∧ EngV W.heap.size g wr (runE e (ms.take k)) ∧ Below W.heap.size W wr) (fun _ _ i _ => ms.length - (intOf i).toNat)
 case atStart => exact ⟨0, 0, Nat.zero_le _, rfl, rfl, by omega, hst0.v, b5⟩
 case round =>
   clear hst0 b5
   obtain ⟨k, z, hk, rfl, rfl, hz, hst, hB⟩ := hrel
   by_cases hlt : k < ms.length
   · have i1 : (k : Int) < (ms.length : Int) := by omega
     obtain ⟨b, off, hM, hbb, m0⟩ := (unhide HM wr hB).int hlt
     have HR := hide (show runE e (ms.take (k + 1)) = (stepE (runE e (ms.take k)) ms[k]).1 by rw [List.take_succ_eq_append_getElem hlt, runE_snoc])
     have HOK2 := hide (ok_run (unhide HOK) (ms.take k))
     generalize ms[k] = m at *
     generalize runE e (ms.take k) = e' at *
     have HMM := hide hM
     clear hM
     rw [unhide HMM]
     go_wp2_with fail
     refine (step_impl e' W.heap.size g m wr hst (unhide HOK2)).mono ?_
     rintro x w6 ⟨rfl, hst6, b6⟩
     have hB6 := hB.trans b6
     cases hs : (stepE e' m).2
     · go_wp2
       go_roundw
       case rel => exact ⟨k + 1, z, by omega, by go_num, rfl, by omega, by rw [unhide HR]; exact hst6, hB6⟩
       case measure => simp [intOf]; omega
     · go_wp2
       go_roundw
       case rel => exact ⟨k + 1, z + 1, by omega, by go_num, rfl, by omega, by rw [unhide HR]; exact hst6, hB6⟩
       case measure => simp [intOf]; omega
   · obtain rfl : k = ms.length := by omega
     rw [List.take_length] at hst
     obtain ⟨D1, f1, D2, f2, D3, f3, D4, f4, hst⟩ := hst
     obtain ⟨y0, y1, y2, y3, -⟩ := hst.cells
     have hlg := hst.lt
     have kR := unhide HK1 wr hB
     have hwW := hB.size
     generalize hre : runE e ms = e' at *
     have HRE := hide hre
     clear hre
     go_wp2_with (refine wpList_store_row rfl 96 (.tmp 4) (.tmp 32) rfl (w.heap.size + 1) #[.slice D1 e'.base.length f1, .slice D2 e'.list.length f2, .slice D3 e'.vers.length f3, .slice D4 e'.slots.length f4] rfl rfl 96 #[.slice none 0 0, .slice none 0 0, .slice none 0 0, .slice none 0 0] kR info_eng4 rfl (sl4_one _ _ _ _ _ _ _ _ _ _ _ _) ?_)
     refine bodyPost_ret (v := .tuple #[.agg #[.slice D1 e'.base.length f1, .slice D2 e'.list.length f2, .slice D3 e'.vers.length f3, .slice D4 e'.slots.length f4], .int .i64 z]) (results_cell_tmp (p := 4) (q := 5) (ty := 96) rfl _ _ (w.heap.size + 1) 96 #[.slice D1 e'.base.length f1, .slice D2 e'.list.length f2, .slice D3 e'.vers.length f3, .slice D4 e'.slots.length f4] (0, 0) _ rfl (blk_setRow kR) Tryz.underlying96 rfl info_eng4) rfl ?_
     have hown2 := hst.own.keep (w' := wr.setRow (w.heap.size + 1) #[.slice D1 e'.base.length f1, .slice D2 e'.list.length f2, .slice D3 e'.vers.length f3, .slice D4 e'.slots.length f4]) ⟨by rw [size_setRow]; exact Nat.le_refl _, fun q hq _ => setRow_other wr (w.heap.size + 1) q _ (by have := hq.1; omega)⟩ (fun q hq _ => setRow_other wr (w.heap.size + 1) q _ (by have := (hst.own.rng q hq).1; omega))
     rw [unhide HRE]
     exact ⟨D1, f1, D2, f2, D3, f3, D4, f4, z, rfl, hown2.rd, below_setRow (bthen' hb0 hB) (by omega) _⟩
end Go.Proofs.YtihlhejencninaaGreat
