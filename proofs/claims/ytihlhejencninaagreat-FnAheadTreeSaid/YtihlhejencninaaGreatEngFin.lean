/- Engines that are brought to their end, of the program (printed by gen_in.py from xengfin.in). -/
import Derived.Test.YtihlhejencninaaGreatEngRun
import Derived.Test.YtihlhejencninaaGreatLastV
namespace Go.Proofs.YtihlhejencninaaGreat
open Go.RowKit
set_option linter.unusedVariables false
set_option linter.unusedSimpArgs false

theorem goK_stop {n : Nat} {e : Eng} : ∀ (i j : Nat), (slAt (goK n j e) n).stage = 2 → goK n (j + i) e = goK n j e
 | 0, j, _ => rfl
 | i + 1, j, h => by
   rw [← Nat.add_assoc, goK, goK_stop i j h, go1, if_pos h]
set_option maxRecDepth 100000 in
set_option maxHeartbeats 4000000 in
theorem engineFinish_impl (e : Eng) (A1 : Option Addr) (c1 : Nat) (A2 : Option Addr) (c2 : Nat) (A3 : Option Addr) (c3 : Nat) (A4 : Option Addr) (c4 : Nat) (w : World) (h : EngRd w e A1 A2 A3 A4) (hfo : FinOk e 0 200) :
   Calls Tryz.prog 74 #[.agg (engA e A1 c1 A2 c2 A3 c3 A4 c4)] w fun x w' => ∃ B1 d1 B2 d2 B3 d3 B4 d4 z, x = .returned (.tuple #[.agg (engA (finE e e.slots.length) B1 d1 B2 d2 B3 d3 B4 d4), .int .i64 z]) ∧ EngOwn (fun k => w.heap.size ≤ k) w.heap.size w' (finE e e.slots.length) B1 B2 B3 B4 d4 ∧ Below w.heap.size w w' := by
 have hok := hfo.ok
 have hn10 := hok.len10
 have HTR := hide (fun k => hfo.tries k)
 have HFIN := hide (finE_ok hfo (by omega))
 obtain ⟨W, hW⟩ : ∃ W : World, W = (w.alloc (.cells (engA e A1 c1 A2 c2 A3 c3 A4 c4) 96)).alloc (.cells #[.slice none 0 0, .slice none 0 0, .slice none 0 0, .slice none 0 0] 96) := ⟨_, rfl⟩
 have hb0 : Below w.heap.size w W := by rw [hW]; exact ((Below.refl _ _).alloc (Nat.le_refl _) _).alloc (by simp) _
 have K0 : Blk W w.heap.size 96 (engA e A1 c1 A2 c2 A3 c3 A4 c4) := by rw [hW]; exact (Blk.new _ _ _).alloc _
 have K1 : Blk W (w.heap.size + 1) 96 #[.slice none 0 0, .slice none 0 0, .slice none 0 0, .slice none 0 0] := by
   rw [hW]
   have := Blk.new (w.alloc (.cells (engA e A1 c1 A2 c2 A3 c3 A4 c4) 96)) 96 #[.slice none 0 0, .slice none 0 0, .slice none 0 0, .slice none 0 0]
   simpa using this
 have hW1 := K1.lt
 have KV := engineValid_impl e A1 c1 A2 c2 A3 c3 A4 c4 W (h.new hb0) hok
 have HKC := hide (fun (w' : World) (hb : Below W.heap.size W w') => eclone_impl e A1 c1 A2 c2 A3 c3 A4 c4 w' (h.new (bthen hb0 hb)) hok)
 have HK0 := hide (fun (w' : World) (hb : Below W.heap.size W w') => K0.new_ hb)
 have HK1 := hide (fun (w' : World) (hb : Below W.heap.size W w') => K1.new_ hb)
 have HR := hide (fun (w' : World) (hb : Below W.heap.size W w') => (h.new (bthen hb0 hb)).slots)
 simp only [engA] at hW KV HKC HK0 ⊢
 obtain ⟨y0, y1, y2, y3⟩ : W.cell? ⟨w.heap.size, 0, none⟩ = some (.slice A1 e.base.length c1) ∧ W.cell? ⟨w.heap.size, 1, none⟩ = some (.slice A2 e.list.length c2) ∧ W.cell? ⟨w.heap.size, 2, none⟩ = some (.slice A3 e.vers.length c3) ∧ W.cell? ⟨w.heap.size, 3, none⟩ = some (.slice A4 e.slots.length c4) := ⟨K0.cell 0, K0.cell 1, K0.cell 2, K0.cell 3⟩
 clear K0 K1 h hok hfo
 go_enter Tryz.func74, Tryz.ntmps74
 go_wp2_with fail
 rw [← hW]
 clear hW
 refine KV.mono ?_
 rintro x w3 ⟨rfl, b3⟩
 have k3 := unhide HK0 w3 b3
 clear KV y0 y1 y2 y3
 obtain ⟨y0, y1, y2, y3⟩ : w3.cell? ⟨w.heap.size, 0, none⟩ = some (.slice A1 e.base.length c1) ∧ w3.cell? ⟨w.heap.size, 1, none⟩ = some (.slice A2 e.list.length c2) ∧ w3.cell? ⟨w.heap.size, 2, none⟩ = some (.slice A3 e.vers.length c3) ∧ w3.cell? ⟨w.heap.size, 3, none⟩ = some (.slice A4 e.slots.length c4) := ⟨k3.cell 0, k3.cell 1, k3.cell 2, k3.cell 3⟩
 go_wp2
 clear y0 y1 y2 y3 k3
 go_loopw [16] (fun i wr => ∃ (k : Nat), k ≤ e.slots.length ∧ i = .int .i64 k ∧ Below W.heap.size W wr) (fun i _ => e.slots.length - (intOf i).toNat)
 case atStart => exact ⟨0, Nat.zero_le _, rfl, b3⟩
 case round =>
   clear b3
   obtain ⟨k, hk, rfl, hB⟩ := hrel
   by_cases hlt : k < e.slots.length
   · have i1 : (k : Int) < (e.slots.length : Int) := by omega
     obtain ⟨b, off, P0, d0, P1, d1, P2, d2, hA4, -, hbb, ⟨q0, q1, q2, q3, q4, q5⟩, r0, r1, r2⟩ := (unhide HR wr hB).slt hlt
     have ht := unhide HTR k
     rw [slAt_get e hlt] at ht
     clear r0 r1 r2
     generalize e.slots[k] = s at *
     have i2 : ¬ (900 : Int) < s.tries := by omega
     have HA4 := hide hA4
     clear hA4
     rw [unhide HA4]
     go_wp2
     go_roundw
     case rel => exact ⟨k + 1, by omega, by go_num, hB.alloc hB.size _⟩
     case measure => simp [intOf]; omega
   · obtain rfl : k = e.slots.length := by omega
     obtain ⟨w3, hw3⟩ : ∃ w3, w3 = wr := ⟨_, rfl⟩
     rw [← hw3] at hB ⊢
     clear hw3
     have k3 := unhide HK0 w3 hB
     obtain ⟨y0, y1, y2, y3⟩ : w3.cell? ⟨w.heap.size, 0, none⟩ = some (.slice A1 e.base.length c1) ∧ w3.cell? ⟨w.heap.size, 1, none⟩ = some (.slice A2 e.list.length c2) ∧ w3.cell? ⟨w.heap.size, 2, none⟩ = some (.slice A3 e.vers.length c3) ∧ w3.cell? ⟨w.heap.size, 3, none⟩ = some (.slice A4 e.slots.length c4) := ⟨k3.cell 0, k3.cell 1, k3.cell 2, k3.cell 3⟩
     go_wp2_with fail
     refine (unhide HKC w3 hB).mono ?_
     rintro x w4 ⟨B1, d1, B2, d2, B3, d3, B4, d4, rfl, hown, b4⟩
     have b34 := bthen hB b4
     have hw3 := hB.size
     have hw4 := b34.size
     have hst0 : EngSt W.heap.size w4.heap.size (w4.alloc (.cells (engA e B1 d1 B2 d2 B3 d3 B4 d4) 96)) e B1 d1 B2 d2 B3 d3 B4 d4 :=
       EngSt.mk_ (hown.lower hw3) (fun k hk => ⟨by omega, hk.2⟩) ((Below.refl _ _).alloc (Nat.le_refl _) _) (Nat.le_refl _) hw4 (Blk.new _ _ _)
     have b5 : Below W.heap.size W (w4.alloc (.cells (engA e B1 d1 B2 d2 B3 d3 B4 d4) 96)) := b34.alloc hw4 _
     obtain ⟨z0, z1, z2, z3, -⟩ := hst0.cells
     obtain ⟨g, hg⟩ : ∃ g, g = w4.heap.size := ⟨_, rfl⟩
     rw [← hg] at hst0
     simp only [engA] at hst0 b5 z0 z1 z2 z3
     clear hown y0 y1 y2 y3 k3
     go_wp2
     rw [← hg]
     clear hg z0 z1 z2 z3
     go_loopw [7, 8, 30] (fun t _ i wr => ∃ (k z : Nat), k ≤ e.slots.length ∧ i = .int .i64 k ∧ t = .int .i64 z ∧ z ≤ 3 * k ∧ EngV W.heap.size g wr (finE e k) ∧ Below W.heap.size W wr) (fun _ _ i _ => e.slots.length - (intOf i).toNat)
     case atStart => exact ⟨0, 0, Nat.zero_le _, rfl, rfl, by omega, hst0.v, b5⟩
     case round =>
       clear hst0 b5 b34 b4 hB
       obtain ⟨k, z, hk, rfl, rfl, hz, hst, hB⟩ := hrel
       by_cases hlt : k < e.slots.length
       · have i1 : (k : Int) < (e.slots.length : Int) := by omega
         obtain ⟨hf, hfl⟩ := unhide HFIN k hk
         have HFN := hide (show finE e (k + 1) = goK k 3 (finE e k) from rfl)
         have HGK := hide (fun (j : Nat) (hj : j ≤ 3) => goK_ok j hf (by omega) (by omega))
         have HLL := hide (left_le (finE e k) k)
         have HSTOP := hide (fun (j : Nat) (hj : j ≤ 3) (h : (slAt (goK k j (finE e k)) k).stage = 2) => show goK k 3 (finE e k) = goK k j (finE e k) from by
           have := goK_stop (3 - j) j h
           rwa [show j + (3 - j) = 3 by omega] at this)
         clear hf
         generalize finE e k = E at *
         obtain ⟨wo, hwo⟩ : ∃ wo, wo = wr := ⟨_, rfl⟩
         rw [← hwo] at hst hB ⊢
         clear hwo
         go_wp2
         go_loopw [7] (fun t wr => ∃ (j : Nat), j ≤ 3 ∧ t = .int .i64 ((z + j : Nat) : Int) ∧ EngV W.heap.size g wr (goK k j E) ∧ Below W.heap.size W wr) (fun t _ => z + 3 - (intOf t).toNat)
         case atStart => exact ⟨0, by omega, by simp, hst, hB⟩
         case round =>
           clear hst hB
           obtain ⟨j, hj, rfl, hst, hB⟩ := hrel
           obtain ⟨hf2, hl2, hlf⟩ := unhide HGK j hj
           have HST := hide hst
           obtain ⟨D1, f1, D2, f2, D3, f3, D4, f4, hst⟩ := hst
           obtain ⟨y0, y1, y2, y3, -⟩ := hst.cells
           have hlg := hst.lt
           have hk2 : k < (goK k j E).slots.length := by omega
           obtain ⟨gs, rfl, -, hgs⟩ := hst.row hk2
           obtain ⟨-, -, -, -, -, -, ⟨q0, -, -, -, -, -⟩, -, -⟩ := hst.at_ hk2
           have i3 : (k : Int) < ((goK k j E).slots.length : Int) := by omega
           by_cases hs : (slAt (goK k j E) k).stage = 2
           · have e1 : ((slAt (goK k j E) k).stage != 2) = false := by simp [hs]
             have HE := hide ((unhide HSTOP j hj hs).symm)
             clear hs hst
             go_wp2
             go_roundw
             case rel => exact ⟨k + 1, z + j, by omega, by go_num, rfl, by omega, by rw [unhide HFN, ← unhide HE]; exact unhide HST, hB⟩
             case measure => simp [intOf]; omega
           · have e1 : ((slAt (goK k j E) k).stage != 2) = true := by simpa using hs
             have hj3 : j < 3 := by
               have h0 := (left_zero hf2.ok hk2).1
               have h1 := unhide HLL
               by_cases g3 : j < 3
               · exact g3
               · exact absurd (h0 (by omega)) hs
             have HNX := hide (show goK k (j + 1) E = (stepE (goK k j E) (k : Int)).1 by
               rw [goK, go1, if_neg hs]
               unfold stepE
               rw [if_pos (inB_true.2 (by omega))]
               rfl)
             have KS := step_impl (goK k j E) W.heap.size g (k : Int) wr (unhide HST) hf2.ok
             clear hs hst hf2 hlf
             go_wp2_with fail
             refine KS.mono ?_
             rintro x w6 ⟨rfl, hst6, b6⟩
             have hB6 := hB.trans b6
             rw [← unhide HNX] at hst6
             go_wp2
             go_roundw
             case rel => exact ⟨j + 1, by omega, by go_num, hst6, hB6⟩
             case measure => simp [intOf]; omega
       · obtain rfl : k = e.slots.length := by omega
         obtain ⟨D1, f1, D2, f2, D3, f3, D4, f4, hst⟩ := hst
         obtain ⟨y0, y1, y2, y3, -⟩ := hst.cells
         have hlg := hst.lt
         have kR := unhide HK1 wr hB
         have hwW := hB.size
         generalize hre : finE e e.slots.length = e' at *
         have HRE := hide hre
         clear hre
         go_wp2_with (refine wpList_store_row rfl 96 (.tmp 2) (.tmp 45) rfl (w.heap.size + 1) #[.slice D1 e'.base.length f1, .slice D2 e'.list.length f2, .slice D3 e'.vers.length f3, .slice D4 e'.slots.length f4] rfl rfl 96 #[.slice none 0 0, .slice none 0 0, .slice none 0 0, .slice none 0 0] kR info_eng4 rfl (sl4_one _ _ _ _ _ _ _ _ _ _ _ _) ?_)
         refine bodyPost_ret (v := .tuple #[.agg #[.slice D1 e'.base.length f1, .slice D2 e'.list.length f2, .slice D3 e'.vers.length f3, .slice D4 e'.slots.length f4], .int .i64 (z : Int)]) (results_cell_tmp (p := 2) (q := 3) (ty := 96) rfl _ _ (w.heap.size + 1) 96 #[.slice D1 e'.base.length f1, .slice D2 e'.list.length f2, .slice D3 e'.vers.length f3, .slice D4 e'.slots.length f4] (0, 0) _ rfl (blk_setRow kR) Tryz.underlying96 rfl info_eng4) rfl ?_
         have hown2 := hst.own.keep (w' := wr.setRow (w.heap.size + 1) #[.slice D1 e'.base.length f1, .slice D2 e'.list.length f2, .slice D3 e'.vers.length f3, .slice D4 e'.slots.length f4]) ⟨by rw [size_setRow]; exact Nat.le_refl _, fun q hq _ => setRow_other wr (w.heap.size + 1) q _ (by have := hq.1; omega)⟩ (fun q hq _ => setRow_other wr (w.heap.size + 1) q _ (by have := (hst.own.rng q hq).1; omega))
         rw [unhide HRE]
         exact ⟨D1, f1, D2, f2, D3, f3, D4, f4, z, rfl, (hown2.mono fun k hk _ => by have := hk.1; omega).lower (by omega), below_setRow (bthen' hb0 hB) (by omega) _⟩
end Go.Proofs.YtihlhejencninaaGreat
