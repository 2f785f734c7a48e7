/- Engines, of the program: validity (printed by gen_in.py from xengv.in). -/
import Derived.Test.YtihlhejencninaaGreatSlotI
namespace Go.Proofs.YtihlhejencninaaGreat
open Go.RowKit
set_option linter.unusedVariables false
set_option linter.unusedSimpArgs false

/-- the versions that the first slots make -/
def allN (e : Eng) : Nat → List Ver
 | 0 => []
 | n + 1 => putW (allN e n) n (slAt e n).res.writes
theorem allN_mem (e : Eng) : ∀ (n : Nat) (x : Ver), x ∈ allN e n ↔ ∃ m : Nat, m < n ∧ x.n = m ∧ (⟨x.k, x.v⟩ : Ent) ∈ (slAt e m).res.writes
 | 0, x => by simp [allN]
 | n + 1, x => by
   rw [allN, putW_mem, allN_mem e n]
   constructor
   · rintro (⟨⟨m, h1, h2, h3⟩, _⟩ | ⟨y, h1, rfl⟩)
     · exact ⟨m, by omega, h2, h3⟩
     · exact ⟨n, by omega, rfl, h1⟩
   · rintro ⟨m, h1, h2, h3⟩
     by_cases h : m = n
     · subst h
       right
       exact ⟨_, h3, by cases x; simp only at h2; simp [h2]⟩
     · left
       exact ⟨⟨m, by omega, h2, h3⟩, by omega⟩
theorem allN_srt {e : Eng} (h : EngOk e) : ∀ n, n ≤ e.slots.length → srtV (allN e n)
 | 0, _ => List.Pairwise.nil
 | n + 1, hn => putW_srt (allN_srt h n (by omega)) (slot_evOk (h.slot n (by omega)) (h.act (by omega)))
theorem allN_len {e : Eng} (h : EngOk e) : ∀ n, n ≤ e.slots.length → (allN e n).length ≤ 2 * n
 | 0, _ => Nat.le_refl _
 | n + 1, hn => by
   have h1 := allN_len h n (by omega)
   have h2 := putW_len (allN e n) n (slAt e n).res.writes
   have h3 := (slot_len (h.slot n (by omega))).2.2
   rw [allN]
   omega
theorem allN_all {e : Eng} (h : EngOk e) : allN e e.slots.length = e.vers := srtV_ext (allN_srt h _ (Nat.le_refl _)) h.srt fun x => by rw [allN_mem, h.mem]
theorem allN_bd {e : Eng} (h : EngOk e) {n : Nat} (hn : n ≤ e.slots.length) : ∀ x ∈ allN e n, (0 ≤ x.k ∧ x.k ≤ 31) ∧ 0 ≤ x.n ∧ x.n ≤ 1000 := by
 intro x hx
 have hx2 : x ∈ e.vers := by
   rw [h.mem]
   obtain ⟨m, h1, h2⟩ := (allN_mem e n x).1 hx
   exact ⟨m, by omega, h2⟩
 have := h.bd hx2
 have := h.len10
 omega
set_option maxRecDepth 100000 in
set_option maxHeartbeats 4000000 in
theorem engineValid_impl (e : Eng) (A1 : Option Addr) (c1 : Nat) (A2 : Option Addr) (c2 : Nat) (A3 : Option Addr) (c3 : Nat) (A4 : Option Addr) (c4 : Nat) (w : World) (h : EngRd w e A1 A2 A3 A4) (hok : EngOk e) :
   Calls Tryz.prog 124 #[.agg (engA e A1 c1 A2 c2 A3 c3 A4 c4)] w fun x w' => x = .returned (.bool true) ∧ Below w.heap.size w w' := by
 have HOK := hide hok
 have hn10 := hok.len10
 have hbl := hok.base_len
 have hvl := hok.vlen
 have e2 : ((e.slots.length : Int) != (e.list.length : Int)) = false := by simp [hok.len]
 have hll : e.list.length ≤ 10 := by rw [← hok.len]; exact hn10
 have HR := hide (fun w' (hb : Below w.heap.size w w') => h.new hb)
 obtain ⟨W, hW⟩ : ∃ W : World, W = w.alloc (.cells (engA e A1 c1 A2 c2 A3 c3 A4 c4) 96) := ⟨_, rfl⟩
 have hb0 : Below w.heap.size w W := by rw [hW]; exact (Below.refl _ _).alloc (Nat.le_refl _) _
 have K0 : Blk W w.heap.size 96 (engA e A1 c1 A2 c2 A3 c3 A4 c4) := by rw [hW]; exact Blk.new _ _ _
 have BX := hide (fun w' (hb : Below W.heap.size W w') => show w'.cell? ⟨w.heap.size, 0, none⟩ = some (.slice A1 e.base.length c1) ∧ w'.cell? ⟨w.heap.size, 1, none⟩ = some (.slice A2 e.list.length c2) ∧ w'.cell? ⟨w.heap.size, 2, none⟩ = some (.slice A3 e.vers.length c3) ∧ w'.cell? ⟨w.heap.size, 3, none⟩ = some (.slice A4 e.slots.length c4) from ⟨(K0.new_ hb).cell 0, (K0.new_ hb).cell 1, (K0.new_ hb).cell 2, (K0.new_ hb).cell 3⟩)
 have hW1 := K0.lt
 obtain ⟨y0, y1, y2, y3⟩ := unhide BX W (Below.refl _ _)
 have KS := storeB_impl A1 c1 e.base W ((unhide HR W hb0).base) (by omega)
 rw [hok.base] at KS
 have HAB := hide (fun (w' : World) (hb : Below W.heap.size W w') => actionsValid_impl A2 c2 e.list w' ((unhide HR w' (bthen hb0 hb)).list) (by omega))
 have hab := hok.acts
 have HAC := hide hab
 simp only [engA] at K0 hW ⊢
 clear h hok K0 hab
 go_enter Tryz.func124, Tryz.ntmps124
 go_upto_region 1 with fail
 rw [← hW]
 clear hW
 go_wp2_with (first | (refine KS.mono ?_; rintro x w3 ⟨rfl, b3⟩; clear y0 y1 y2 y3 KS; obtain ⟨y0, y1, y2, y3⟩ := unhide BX w3 b3; have KA := unhide HAB w3 b3; rw [unhide HAC] at KA) | (refine KA.mono ?_; rintro x w4 ⟨rfl, b4⟩; have b34 := bthen b3 b4; clear y0 y1 y2 y3 KA; obtain ⟨y0, y1, y2, y3⟩ := unhide BX w4 b34))
 clear HAB HAC y0 y1 y2 y3 b3 b4
 go_loopw [3, 30] (fun r i wr => ∃ (k : Nat) (A' : Option Addr) (c' : Nat), k ≤ e.slots.length ∧ i = .int .i64 k ∧ r = .slice A' (allN e k).length c' ∧ Rd wr A' ((allN e k).flatMap encV) ∧ Below W.heap.size W wr) (fun _ i _ => e.slots.length - (intOf i).toNat)
 case atStart => exact ⟨0, none, 0, Nat.zero_le _, rfl, rfl, Rd.nil _ _, b34⟩
 case round =>
   clear b34
   obtain ⟨k, A', c', hk, rfl, rfl, hrd, hB⟩ := hrel
   by_cases hlt : k < e.slots.length
   · have i1 : (k : Int) < (e.slots.length : Int) := by omega
     have hbw := bthen hb0 hB
     obtain ⟨b, off, P0, d0, P1, d1, P2, d2, hA4, -, hbb, ⟨q0, q1, q2, q3, q4, q5⟩, r0, r1, r2⟩ := (unhide HR wr hbw).slots.slt hlt
     rw [← slAt_get e hlt] at q0 q1 q2 q3 q4 q5 r2
     clear r0 r1
     obtain ⟨y0, y1, y2, y3⟩ := unhide BX wr hB
     have HAL := hide (show allN e (k + 1) = putW (allN e k) k (slAt e k).res.writes from rfl)
     have hal := allN_len (unhide HOK) k (by omega)
     have hal2 := allN_len (unhide HOK) (k + 1) (by omega)
     have hwl := (slot_len ((unhide HOK).slot k hlt)).2.2
     have HWW := hide (fun (w' : World) (hb : Below wr.heap.size wr w') => withWrites_impl A' c' (allN e k) (k : Int) P2 d2 (slAt e k).res.writes w' (hrd.new hb) (by omega) (r2.rd.new hb) (by omega) (allN_srt (unhide HOK) k (by omega)) (allN_bd (unhide HOK) (by omega)) ⟨by omega, by omega⟩ (slot_evOk ((unhide HOK).slot k hlt) ((unhide HOK).act hlt)))
     have HKR := hide (fun (w' : World) (hb : Below wr.heap.size wr w') => slotRight_impl e A1 c1 A2 c2 A3 c3 A4 c4 k w' ((unhide HR wr hbw).new hb) (unhide HOK) hlt)
     have HA4 := hide hA4
     have HRR := hide hrd
     have HR2 := hide r2
     clear hA4 hrd r2
     have hgr : w.heap.size < wr.heap.size := by have := hB.size; omega
     generalize hs : slAt e k = s at *
     have HSS := hide hs
     clear hs
     rw [unhide HA4] at y3
     rw [unhide HA4]
     go_wp2_with (first | (refine wpList_store_row rfl 141 (.tmp 5) (.tmp 34) rfl wr.heap.size (sltV s P0 d0 P1 d1 P2 d2).toArray rfl rfl 141 zS (box_new wr 141 zS (sltV s P0 d0 P1 d1 P2 d2).toArray).1 info_slt6 rfl (slt_one6 _ _ _ _ _ _ _) ?_; refine at_world (C := fun W => wpList _ _ _ _ _ W) (F := fun w3 => Blk w3 wr.heap.size 141 (sltV s P0 d0 P1 d1 P2 d2).toArray ∧ Below wr.heap.size wr w3) ⟨(box_new wr 141 zS (sltV s P0 d0 P1 d1 P2 d2).toArray).2.1, (box_new wr 141 zS (sltV s P0 d0 P1 d1 P2 d2).toArray).2.2⟩ ?_; rintro w5 ⟨k5, b5⟩; clear y0 y1 y2 y3 q0 q1 q2 q3 q4 q5; obtain ⟨u0, u1, u2, u3, u4, u5⟩ := slt_cells k5; obtain ⟨y0, y1, y2, y3⟩ := unhide BX w5 (bthen hB b5); rw [unhide HA4] at y3; have KR := unhide HKR w5 b5; simp only [engA] at KR; rw [unhide HA4] at KR) | (refine KR.mono ?_; rintro x w6 ⟨rfl, b6⟩; clear KR u0 u1 u2 u3 u4; have u6 := (slt_cells (k5.new_ b6)).2.2.2.2.2; clear u5; have b56 := bthen b5 b6; have KW := unhide HWW w6 b56) | (refine KW.mono ?_; rintro x w7 ⟨A8, c8, rfl, o8, b8⟩))
     go_roundw
     case rel => exact ⟨k + 1, A8, c8, by omega, by go_num, by rw [unhide HAL], by rw [unhide HAL]; exact own_rd o8, bthen hB (bthen b56 b8)⟩
     case measure => simp [intOf]; omega
   · obtain rfl : k = e.slots.length := by omega
     obtain ⟨wo, rfl⟩ : ∃ wo, wo = wr := ⟨_, rfl⟩
     obtain ⟨y0, y1, y2, y3⟩ := unhide BX wo hB
     have hal := allN_len (unhide HOK) e.slots.length (Nat.le_refl _)
     go_wp2_with fail
     refine (equalV_any A' A3 c' c3 (allN e e.slots.length) e.vers wo hrd ((unhide HR wo (bthen hb0 hB)).vers) (by omega)).mono ?_
     rintro x w4 ⟨rfl, m, rfl⟩
     rw [decide_eq_true (allN_all (unhide HOK))]
     have hBm := below_drewN hB m
     clear y0 y1 y2 y3 hB hrd
     obtain ⟨y0, y1, y2, y3⟩ := unhide BX _ hBm
     generalize wo.drewN m = wm at *
     go_wp2
     clear y0 y1 y2 y3
     go_loopw [54] (fun i wr => ∃ (k : Nat), k ≤ e.slots.length ∧ i = .int .i64 k ∧ Below W.heap.size W wr) (fun i _ => e.slots.length - (intOf i).toNat)
     case atStart => exact ⟨0, Nat.zero_le _, rfl, hBm⟩
     case round =>
       clear hBm hal
       obtain ⟨k, hk, rfl, hB⟩ := hrel
       by_cases hlt : k < e.slots.length
       · have i1 : (k : Int) < (e.slots.length : Int) := by omega
         have hbw := bthen hb0 hB
         have HSL := hide (unhide HR wr hbw).slots
         obtain ⟨b, off, P0, d0, P1, d1, P2, d2, hA4, -, hbb, ⟨q0, q1, q2, q3, q4, q5⟩, r0, r1, r2⟩ := (unhide HSL).slt hlt
         rw [← slAt_get e hlt] at q0 q1 q2 q3 q4 q5
         clear r0 r1 r2
         obtain ⟨y0, y1, y2, y3⟩ := unhide BX wr hB
         have HKR := hide (fun (w' : World) (hb : Below wr.heap.size wr w') => current_impl e A1 c1 A2 c2 A3 c3 A4 c4 k w' ((unhide HR wr hbw).new hb) (unhide HOK) hlt)
         have HA4 := hide hA4
         have HCK := hide (fun hs => (unhide HOK).chk k hlt hs)
         clear hA4
         have hgr : w.heap.size < wr.heap.size := by have := hB.size; omega
         generalize hs : slAt e k = s at *
         have HSS := hide hs
         clear hs
         rw [unhide HA4] at y3
         rw [unhide HA4]
         by_cases hst : s.stage = 2
         · obtain ⟨hprev, hcur⟩ := unhide HCK hst
           have e3 : (s.stage == 2) = true := by simp [hst]
           have HCU := hide hcur
           have HPV := hide hprev
           clear hst hprev hcur
           by_cases hz : k = 0
           · have hz1 : decide (0 < k) = false := by simp [hz]
             clear hz
             have bA : Below wr.heap.size wr (wr.alloc (.cells (sltV s P0 d0 P1 d1 P2 d2).toArray 141)) := (Below.refl _ _).alloc (Nat.le_refl _) _
             have KR := unhide HKR _ bA
             simp only [engA, sltV] at KR
             rw [unhide HA4, unhide HCU] at KR
             go_wp2_with fail
             refine KR.mono ?_
             rintro x w6 ⟨rfl, b6⟩
             have b56 := bthen bA b6
             go_wp2
             go_roundw
             case rel => exact ⟨k + 1, by omega, by go_num, bthen hB b56⟩
             case measure => simp [intOf]; omega
           · have hz1 : decide (0 < k) = true := by simp; omega
             obtain ⟨p, rfl⟩ : ∃ p, k = p + 1 := ⟨k - 1, by omega⟩
             have hp : p < e.slots.length := by omega
             obtain ⟨b', off', P0', d0', P1', d1', P2', d2', hA4', -, hbb', ⟨p0, -, -, -, -, -⟩, -, -, -⟩ := (unhide HSL).slt hp
             rw [← slAt_get e hp] at p0
             rw [unhide HA4] at hA4'
             injection hA4' with hA4'
             injection hA4' with hA5 hA6
             subst hA5
             subst hA6
             rw [unhide HPV p (by omega)] at p0
             have i2 : (p : Int) < (e.slots.length : Int) := by omega
             clear hz hbb'
             have bA : Below wr.heap.size wr (wr.alloc (.cells (sltV s P0 d0 P1 d1 P2 d2).toArray 141)) := (Below.refl _ _).alloc (Nat.le_refl _) _
             have KR := unhide HKR _ bA
             simp only [engA, sltV] at KR
             rw [unhide HA4, unhide HCU] at KR
             go_wp2_with fail
             refine KR.mono ?_
             rintro x w6 ⟨rfl, b6⟩
             have b56 := bthen bA b6
             go_wp2
             go_roundw
             case rel => exact ⟨p + 1 + 1, by omega, by go_num, bthen hB b56⟩
             case measure => simp [intOf]; omega
         · have e3 : (s.stage == 2) = false := by simp [hst]
           clear hst
           go_wp2
           go_roundw
           case rel => exact ⟨k + 1, by omega, by go_num, hB.alloc hB.size _⟩
           case measure => simp [intOf]; omega
       · obtain rfl : k = e.slots.length := by omega
         go_wp2
         go_ret
         exact ⟨rfl, bthen hb0 hB⟩
end Go.Proofs.YtihlhejencninaaGreat
