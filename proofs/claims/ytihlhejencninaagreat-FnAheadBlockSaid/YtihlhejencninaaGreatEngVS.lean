/- Engines, of the reference: validity (printed by gen_in.py from xengvs.in). -/
import Derived.Test.YtihlhejencninaaGreatESameS
import Derived.Test.YtihlhejencninaaGreatESlotS
import Derived.Test.YtihlhejencninaaGreatEngV
import Derived.Test.YtihlhejencninaaGreatEqual
namespace Go.Proofs.YtihlhejencninaaGreat
open Go.RowKit
set_option linter.unusedVariables false
set_option linter.unusedSimpArgs false

set_option maxRecDepth 100000 in
set_option maxHeartbeats 4000000 in
theorem engineValid_spec (e : Eng) (A1 : Option Addr) (c1 : Nat) (A2 : Option Addr) (c2 : Nat) (A3 : Option Addr) (c3 : Nat) (A4 : Option Addr) (c4 : Nat) (w : World) (h : EngRd w e A1 A2 A3 A4) (hok : EngOk e) :
    Calls Tryz.prog 116 #[.agg (engA e A1 c1 A2 c2 A3 c3 A4 c4)] w fun x w' => x = .returned (.bool true) ∧ Below w.heap.size w w' := by
  have HOK := hide hok
  have hn10 := hok.len10
  have hbl := hok.base_len
  have hvl := hok.vlen
  have e2 : ((e.slots.length : Int) != (e.list.length : Int)) = false := by simp [hok.len]
  have hll : e.list.length ≤ 10 := by rw [← hok.len]; exact hn10
  have HR := hide (fun w' (hb : Below w.heap.size w w') => h.new hb)
  obtain ⟨W, hW⟩ : ∃ W : World, W = w.alloc (.cells (engA e A1 c1 A2 c2 A3 c3 A4 c4) 96) := ⟨_, rfl⟩
  have hb0 : Below w.heap.size w W := by rw [hW]; exact (Below.refl _ _).alloc (Nat.le_refl _) _
  have K0 : Blk W w.heap.size 96 (engA e A1 c1 A2 c2 A3 c3 A4 c4) := by rw [hW]; exact Blk.new _ _ _
  have BX := hide (fun w' (hb : Below W.heap.size W w') => show w'.cell? ⟨w.heap.size, 0, none⟩ = some (.slice A1 e.base.length c1) ∧ w'.cell? ⟨w.heap.size, 1, none⟩ = some (.slice A2 e.list.length c2) ∧ w'.cell? ⟨w.heap.size, 2, none⟩ = some (.slice A3 e.vers.length c3) ∧ w'.cell? ⟨w.heap.size, 3, none⟩ = some (.slice A4 e.slots.length c4) from ⟨(K0.new_ hb).cell 0, (K0.new_ hb).cell 1, (K0.new_ hb).cell 2, (K0.new_ hb).cell 3⟩)
  have hW1 := K0.lt
  obtain ⟨y0, y1, y2, y3⟩ := unhide BX W (Below.refl _ _)
  have KS := storeB_store_spec A1 c1 e.base W ((unhide HR W hb0).base) (by omega)
  rw [hok.base] at KS
  have HAB := hide (fun (w' : World) (hb : Below W.heap.size W w') => actionsValid_spec A2 c2 e.list w' ((unhide HR w' (bthen hb0 hb)).list) (by omega))
  have hab := hok.acts
  have HAC := hide hab
  simp only [engA] at K0 hW ⊢
  clear h hok K0 hab
  go_enter Tryz.func116, Tryz.ntmps116
  go_upto_region 1 with fail
  rw [← hW]
  clear hW
  go_wp2_with fail
  refine KS.mono ?_
  rintro x w3 ⟨rfl, m, hm⟩
  have b3 : Below W.heap.size W w3 := by rw [← hm]; exact below_drewN (Below.refl _ _) m
  clear hm y0 y1 y2 y3 KS
  obtain ⟨y0, y1, y2, y3⟩ := unhide BX w3 b3
  have KA := unhide HAB w3 b3
  rw [unhide HAC] at KA
  go_wp2_with fail
  refine KA.mono ?_
  rintro x w4 ⟨rfl, b4⟩
  have b34 := bthen b3 b4
  clear y0 y1 y2 y3 KA
  obtain ⟨y0, y1, y2, y3⟩ := unhide BX w4 b34
  have b5 : Below W.heap.size W (w4.alloc (.cells #[] 166)) := b34.alloc b34.size _
  go_wp2
  clear HAB HAC y0 y1 y2 y3 b3 b4
  go_loopw [3, 4] (fun r i wr => ∃ (k : Nat) (A' : Option Addr) (c' : Nat), k ≤ e.slots.length ∧ i = .int .i64 k ∧ r = .slice A' (allN e k).length c' ∧ Rd wr A' ((allN e k).flatMap encV) ∧ Below W.heap.size W wr) (fun _ i _ => e.slots.length - (intOf i).toNat)
  case atStart => exact ⟨0, _, 0, Nat.zero_le _, rfl, rfl, Rd.nil _ _, b5⟩
  case round =>
    clear b34 b5
    obtain ⟨k, A', c', hk, rfl, rfl, hrd, hB⟩ := hrel
    obtain ⟨wo, hwo⟩ : ∃ wo, wo = wr := ⟨_, rfl⟩
    rw [← hwo] at hrd hB ⊢
    clear hwo
    obtain ⟨y0, y1, y2, y3⟩ := unhide BX wo hB
    by_cases hlt : k < e.slots.length
    · have i1 : (k : Int) < (e.slots.length : Int) := by omega
      have hbw := bthen hb0 hB
      obtain ⟨b, off, P0, d0, P1, d1, P2, d2, hA4, -, hbb, ⟨q0, q1, q2, q3, q4, q5⟩, r0, r1, r2⟩ := (unhide HR wo hbw).slots.slt hlt
      rw [← slAt_get e hlt] at q0 q1 q2 q3 q4 q5 r2
      have HAL := hide (show allN e (k + 1) = putW (allN e k) k (slAt e k).res.writes from rfl)
      have hal := allN_len (unhide HOK) k (by omega)
      have hwl := (slot_len ((unhide HOK).slot k hlt)).2.2
      have HWW := hide (fun (w' : World) (hb : Below wo.heap.size wo w') => put1_spec A' c' (allN e k) (k : Int) P2 d2 (slAt e k).res.writes w' (hrd.new hb) (by omega) (r2.rd.new hb) (by omega))
      have KR := slot_spec e A1 c1 A2 c2 A3 c3 A4 c4 k wo (unhide HR wo hbw) (unhide HOK) hlt
      have HQ5 := hide (fun (w' : World) (hb : Below wo.heap.size wo w') => (hb.cell (p := ⟨b, off + k * 6 + 5, none⟩) hbb).trans q5)
      have HA4 := hide hA4
      simp only [engA] at KR
      rw [unhide HA4] at KR
      clear hA4 hrd r0 r1 r2 q0 q1 q2 q3 q4 q5
      have hgr : w.heap.size < wo.heap.size := by have := hB.size; omega
      generalize hs : slAt e k = s at *
      have HSS := hide hs
      clear hs
      rw [unhide HA4] at y3
      rw [unhide HA4]
      go_wp2_with fail
      refine KR.mono ?_
      rintro x w6 ⟨rfl, b6⟩
      clear KR y0 y1 y2 y3
      have q5 : w6.cell? ⟨b, off + k * 6 + 3 + 2, none⟩ = some (.slice P2 s.res.writes.length d2) := unhide HQ5 w6 b6
      obtain ⟨y0, y1, y2, y3⟩ := unhide BX w6 (bthen hB b6)
      rw [unhide HA4] at y3
      go_wp2_with fail
      refine (unhide HWW w6 b6).mono ?_
      rintro x w7 ⟨A8, c8, rfl, o8, b8⟩
      go_wp2
      go_roundw
      case rel => exact ⟨k + 1, A8, c8, by omega, by go_num, by rw [unhide HAL], by rw [unhide HAL]; exact own_rd o8, bthen hB (bthen b6 b8)⟩
      case measure => simp [intOf]; omega
    · obtain rfl : k = e.slots.length := by omega
      have hal := allN_all (unhide HOK)
      rw [hal] at hrd
      have hln : (allN e e.slots.length).length = e.vers.length := by rw [hal]
      have hrv := (unhide HR wo (bthen hb0 hB)).vers
      rw [hln]
      clear hal hln
      have t0 : ((e.vers.length : Int) != (e.vers.length : Int)) = false := by simp
      go_wp2
      go_loopw [5] (fun i wr => ∃ (j m : Nat), j ≤ e.vers.length ∧ i = .int .i64 j ∧ wr = wo.drewN m) (fun i _ => e.vers.length - (intOf i).toNat)
      case atStart => exact ⟨0, 0, Nat.zero_le _, rfl, rfl⟩
      case round =>
        obtain ⟨j, m, hj, rfl, rfl⟩ := hrel
        by_cases hjt : j < e.vers.length
        · have j1 : (j : Int) < (e.vers.length : Int) := by omega
          obtain ⟨b1, o1, hA', hb1, d0, d1, d2⟩ := hrd.ver hjt
          obtain ⟨b2, o2, hA3, hb2, f0, f1, f2⟩ := hrv.ver hjt
          generalize e.vers[j] = x at *
          have t1 := eqIn_ver x x
          rw [decide_eq_true rfl] at t1
          have t2 := hm_ver
          have HA' := hide hA'
          have HA3 := hide hA3
          rw [hA3] at y2
          clear hA' hA3
          rw [unhide HA', unhide HA3]
          go_wp2
          go_quiet (fail)
          go_wp2
          go_roundw
          case rel => exact ⟨j + 1, m + nq, by omega, by go_num, rfl⟩
          case measure => simp [intOf]; omega
        · obtain rfl : j = e.vers.length := by omega
          have hBm := below_drewN hB m
          clear y0 y1 y2 y3 hB hrd hrv t0
          obtain ⟨wm, hwm⟩ : ∃ wm, wm = wo.drewN m := ⟨_, rfl⟩
          rw [← hwm] at hBm ⊢
          clear hwm
          go_wp2
          go_loopw [6] (fun i wr => ∃ (k : Nat), k ≤ e.slots.length ∧ i = .int .i64 k ∧ Below W.heap.size W wr) (fun i _ => e.slots.length - (intOf i).toNat)
          case atStart => exact ⟨0, Nat.zero_le _, rfl, hBm⟩
          case round =>
            clear hBm
            obtain ⟨k, hk, rfl, hB⟩ := hrel
            obtain ⟨y0, y1, y2, y3⟩ := unhide BX wr hB
            have hgr : w.heap.size < wr.heap.size := by have := hB.size; omega
            by_cases hlt : k < e.slots.length
            · have i1 : (k : Int) < (e.slots.length : Int) := by omega
              have hbw := bthen hb0 hB
              have HSL := hide (unhide HR wr hbw).slots
              obtain ⟨b, off, P0, d0, P1, d1, P2, d2, hA4, -, hbb, ⟨q0, q1, q2, q3, q4, q5⟩, r0, r1, r2⟩ := (unhide HSL).slt hlt
              rw [← slAt_get e hlt] at q0
              clear q1 q2 q3 q4 q5 r0 r1 r2
              have HA4 := hide hA4
              have HCK := hide (fun hs => (unhide HOK).chk k hlt hs)
              have HKR := hide (fun hs => same_spec e A1 c1 A2 c2 A3 c3 A4 c4 k wr (unhide HR wr hbw) (unhide HOK) hlt hs)
              clear hA4
              rw [unhide HA4] at y3
              rw [unhide HA4]
              by_cases hst : (slAt e k).stage = 2
              · obtain ⟨hprev, hcur⟩ := unhide HCK hst
                have KR := unhide HKR (by omega)
                simp only [engA] at KR
                rw [unhide HA4, hcur] at KR
                have e3 : ((slAt e k).stage != 2) = false := by simp [hst]
                have HPV := hide hprev
                clear hst hprev hcur
                generalize slAt e k = s at *
                by_cases hz : k = 0
                · have hz1 : decide (0 < k) = false := by simp [hz]
                  clear hz
                  go_wp2_with fail
                  refine KR.mono ?_
                  rintro x w6 ⟨rfl, b6⟩
                  go_wp2
                  go_roundw
                  case rel => exact ⟨k + 1, by omega, by go_num, bthen hB b6⟩
                  case measure => simp [intOf]; omega
                · have hz1 : decide (0 < k) = true := by simp; omega
                  obtain ⟨p, rfl⟩ : ∃ p, k = p + 1 := ⟨k - 1, by omega⟩
                  rw [show ((p + 1 : Nat) : Int) = (p : Int) + 1 by omega] at i1
                  have hp : p < e.slots.length := by omega
                  obtain ⟨b', off', _, _, _, _, _, _, hA4', -, hbb', ⟨p0, -, -, -, -, -⟩, -, -, -⟩ := (unhide HSL).slt hp
                  rw [← slAt_get e hp] at p0
                  rw [unhide HA4] at hA4'
                  injection hA4' with hA4'
                  injection hA4' with hA5 hA6
                  subst hA5
                  subst hA6
                  rw [unhide HPV p (by omega)] at p0
                  have i2 : (p : Int) < (e.slots.length : Int) := by omega
                  clear hz hbb'
                  go_wp2_with fail
                  refine KR.mono ?_
                  rintro x w6 ⟨rfl, b6⟩
                  go_wp2
                  go_roundw
                  case rel => exact ⟨p + 1 + 1, by omega, by go_num, bthen hB b6⟩
                  case measure => simp [intOf]; omega
              · have e3 : ((slAt e k).stage != 2) = true := by simpa using hst
                clear hst
                generalize slAt e k = s at *
                go_wp2
                go_roundw
                case rel => exact ⟨k + 1, by omega, by go_num, hB⟩
                case measure => simp [intOf]; omega
            · obtain rfl : k = e.slots.length := by omega
              go_wp2
              go_ret
              exact ⟨rfl, bthen hb0 hB⟩
end Go.Proofs.YtihlhejencninaaGreat
