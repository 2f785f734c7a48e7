/- Engines that are brought to their end, of the reference (printed by gen_in.py from xengfins.in). -/
import Derived.Test.YtihlhejencninaaGreatEngRunS
import Derived.Test.YtihlhejencninaaGreatEngTS
import Derived.Test.YtihlhejencninaaGreatEngFin
namespace Go.Proofs.YtihlhejencninaaGreat
open Go.RowKit
set_option linter.unusedVariables false
set_option linter.unusedSimpArgs false

set_option maxRecDepth 100000 in
set_option maxHeartbeats 4000000 in
theorem engineFinish_spec (e : Eng) (A1 : Option Addr) (c1 : Nat) (A2 : Option Addr) (c2 : Nat) (A3 : Option Addr) (c3 : Nat) (A4 : Option Addr) (c4 : Nat) (w : World) (h : EngRd w e A1 A2 A3 A4) (hfo : FinOk e 0 200) :
    Calls Tryz.prog 68 #[.agg (engA e A1 c1 A2 c2 A3 c3 A4 c4)] w fun x w' => ∃ B1 d1 B2 d2 B3 d3 B4 d4 z, x = .returned (.tuple #[.agg (engA (finE e e.slots.length) B1 d1 B2 d2 B3 d3 B4 d4), .int .i64 z]) ∧ EngOwn (fun k => w.heap.size ≤ k) w.heap.size w' (finE e e.slots.length) B1 B2 B3 B4 d4 ∧ Below w.heap.size w w' := by
  have hok := hfo.ok
  have hn10 := hok.len10
  have HTR := hide (fun k => hfo.tries k)
  have HFIN := hide (finE_ok hfo (by omega))
  obtain ⟨W, hW⟩ : ∃ W : World, W = (w.alloc (.cells (engA e A1 c1 A2 c2 A3 c3 A4 c4) 96)).alloc (.cells #[.slice none 0 0, .slice none 0 0, .slice none 0 0, .slice none 0 0] 96) := ⟨_, rfl⟩
  have hb0 : Below w.heap.size w W := by rw [hW]; exact ((Below.refl _ _).alloc (Nat.le_refl _) _).alloc (by simp) _
  have K0 : Blk W w.heap.size 96 (engA e A1 c1 A2 c2 A3 c3 A4 c4) := by rw [hW]; exact (Blk.new _ _ _).alloc _
  have K1 : Blk W (w.heap.size + 1) 96 #[.slice none 0 0, .slice none 0 0, .slice none 0 0, .slice none 0 0] := by
    rw [hW]
    have := Blk.new (w.alloc (.cells (engA e A1 c1 A2 c2 A3 c3 A4 c4) 96)) 96 #[.slice none 0 0, .slice none 0 0, .slice none 0 0, .slice none 0 0]
    simpa using this
  have hW1 := K1.lt
  have KV := engineValid_spec e A1 c1 A2 c2 A3 c3 A4 c4 W (h.new hb0) hok
  have HKC := hide (fun (w' : World) (hb : Below W.heap.size W w') => ecopy_spec e A1 c1 A2 c2 A3 c3 A4 c4 w' (h.new (bthen hb0 hb)) hok)
  have HK0 := hide (fun (w' : World) (hb : Below W.heap.size W w') => K0.new_ hb)
  have HK1 := hide (fun (w' : World) (hb : Below W.heap.size W w') => K1.new_ hb)
  have HR := hide (fun (w' : World) (hb : Below W.heap.size W w') => (h.new (bthen hb0 hb)).slots)
  simp only [engA] at hW KV HKC HK0 ⊢
  obtain ⟨y0, y1, y2, y3⟩ : W.cell? ⟨w.heap.size, 0, none⟩ = some (.slice A1 e.base.length c1) ∧ W.cell? ⟨w.heap.size, 1, none⟩ = some (.slice A2 e.list.length c2) ∧ W.cell? ⟨w.heap.size, 2, none⟩ = some (.slice A3 e.vers.length c3) ∧ W.cell? ⟨w.heap.size, 3, none⟩ = some (.slice A4 e.slots.length c4) := ⟨K0.cell 0, K0.cell 1, K0.cell 2, K0.cell 3⟩
  clear K0 K1 h hok hfo
  go_enter Tryz.func68, Tryz.ntmps68
  go_upto_region 1 with fail
  rw [← hW]
  clear hW
  go_wp2_with fail
  refine KV.mono ?_
  rintro x w3 ⟨rfl, b3⟩
  clear KV y0 y1 y2 y3
  go_wp2
  go_loopw [4] (fun i wr => ∃ (k : Nat), k ≤ e.slots.length ∧ i = .int .i64 k ∧ Below W.heap.size W wr) (fun i _ => e.slots.length - (intOf i).toNat)
  case atStart => exact ⟨0, Nat.zero_le _, rfl, b3⟩
  case round =>
    clear b3
    obtain ⟨k, hk, rfl, hB⟩ := hrel
    have k3 := unhide HK0 wr hB
    obtain ⟨y0, y1, y2, y3⟩ : wr.cell? ⟨w.heap.size, 0, none⟩ = some (.slice A1 e.base.length c1) ∧ wr.cell? ⟨w.heap.size, 1, none⟩ = some (.slice A2 e.list.length c2) ∧ wr.cell? ⟨w.heap.size, 2, none⟩ = some (.slice A3 e.vers.length c3) ∧ wr.cell? ⟨w.heap.size, 3, none⟩ = some (.slice A4 e.slots.length c4) := ⟨k3.cell 0, k3.cell 1, k3.cell 2, k3.cell 3⟩
    by_cases hlt : k < e.slots.length
    · have i1 : (k : Int) < (e.slots.length : Int) := by omega
      obtain ⟨b, off, P0, d0, P1, d1, P2, d2, hA4, -, hbb, ⟨-, q1, -, -, -, -⟩, r0, r1, r2⟩ := (unhide HR wr hB).slt hlt
      have ht := unhide HTR k
      rw [slAt_get e hlt] at ht
      clear r0 r1 r2 k3
      generalize e.slots[k] = s at *
      have i2 : ¬ (900 : Int) < s.tries := by omega
      have HA4 := hide hA4
      rw [hA4] at y3
      clear hA4
      rw [unhide HA4]
      go_wp2
      go_roundw
      case rel => exact ⟨k + 1, by omega, by go_num, hB⟩
      case measure => simp [intOf]; omega
    · obtain rfl : k = e.slots.length := by omega
      obtain ⟨w3, hw3⟩ : ∃ w3, w3 = wr := ⟨_, rfl⟩
      rw [← hw3] at hB y0 y1 y2 y3 k3 ⊢
      clear hw3
      go_wp2_with fail
      refine (unhide HKC w3 hB).mono ?_
      rintro x w4 ⟨B1, d1, B2, d2, B3, d3, B4, d4, rfl, hown, b4⟩
      have b34 := bthen hB b4
      have hw3 := hB.size
      have hw4 := b34.size
      have hst0 : EngSt W.heap.size w4.heap.size (w4.alloc (.cells (engA e B1 d1 B2 d2 B3 d3 B4 d4) 96)) e B1 d1 B2 d2 B3 d3 B4 d4 :=
        EngSt.mk_ (hown.lower hw3) (fun k hk => ⟨by omega, hk.2⟩) ((Below.refl _ _).alloc (Nat.le_refl _) _) (Nat.le_refl _) hw4 (Blk.new _ _ _)
      have b5 : Below W.heap.size W (w4.alloc (.cells (engA e B1 d1 B2 d2 B3 d3 B4 d4) 96)) := b34.alloc hw4 _
      obtain ⟨g, hg⟩ : ∃ g, g = w4.heap.size := ⟨_, rfl⟩
      rw [← hg] at hst0
      simp only [engA] at hst0 b5
      clear hown y0 y1 y2 y3 k3
      go_wp2
      rw [← hg]
      clear hg
      go_loopw [6, 7, 8, 9] (fun t i _ _ wr => ∃ (k j z : Nat), k ≤ e.slots.length ∧ j ≤ 3 ∧ (k = e.slots.length → j = 0) ∧ i = .int .i64 k ∧ t = .int .i64 z ∧ z ≤ 3 * k + j ∧ EngW W.heap.size g wr (goK k j (finE e k)) ∧ Below W.heap.size W wr) (fun t i _ _ _ => (3 * e.slots.length - (intOf t).toNat) + (e.slots.length - (intOf i).toNat))
      case atStart => exact ⟨0, 0, 0, Nat.zero_le _, by omega, fun _ => rfl, rfl, rfl, by omega, hst0.q.v, b5⟩
      case round =>
        clear hst0 b5 b34 b4 hB
        obtain ⟨k, j, z, hk, hj, hj0, rfl, rfl, hz, hst, hB⟩ := hrel
        by_cases hlt : k < e.slots.length
        · obtain ⟨hf, hfl⟩ := unhide HFIN k hk
          have HFN := hide (show finE e (k + 1) = goK k 3 (finE e k) from rfl)
          have HLL := hide (left_le (finE e k) k)
          have HSTOP := hide (fun (h : (slAt (goK k j (finE e k)) k).stage = 2) => show goK k 3 (finE e k) = goK k j (finE e k) from by
            have := goK_stop (3 - j) j h
            rwa [show j + (3 - j) = 3 by omega] at this)
          obtain ⟨hf2, hl2, hlf⟩ := goK_ok j hf (by omega) (by omega)
          have hk2 : k < (goK k j (finE e k)).slots.length := by omega
          have i3 : (k : Int) < ((goK k j (finE e k)).slots.length : Int) := by omega
          have HF2 := hide hf2
          have HST3 := hide (fun (hs : (slAt (goK k j (finE e k)) k).stage ≠ 2) => show j < 3 from by
            have h0 := (left_zero hf2.ok hk2).1
            have h1 := unhide HLL
            by_cases g3 : j < 3
            · exact g3
            · exact absurd (h0 (by omega)) hs)
          clear hf hf2 hfl hl2 hlf
          have HNX := hide (fun (hs : (slAt (goK k j (finE e k)) k).stage ≠ 2) => show goK k (j + 1) (finE e k) = (stepE (goK k j (finE e k)) (k : Int)).1 from by
            rw [goK, go1, if_neg hs]
            unfold stepE
            rw [if_pos (inB_true.2 (by omega))]
            rfl)
          have HST := hide hst
          obtain ⟨D1, f1, D2, f2, D3, f3, D4, f4, hst⟩ := hst
          obtain ⟨y0, y1, y2, y3, -⟩ := hst.cells
          have hlg := hst.lt
          obtain ⟨gs, P0, a0, P1, a1, P2, a2, rfl, -, hgs, ⟨q0, -, -, -, -, -⟩, -, -, -, -⟩ := hst.own.at hk2
          by_cases hs : (slAt (goK k j (finE e k)) k).stage = 2
          · have e1 : ((slAt (goK k j (finE e k)) k).stage == 2) = true := by simp [hs]
            have HE := hide ((unhide HSTOP hs).symm)
            clear hs hst HST3 HNX
            go_wp2
            go_roundw
            case rel => exact ⟨k + 1, 0, z, by omega, by omega, fun _ => rfl, by go_num, rfl, by omega, by rw [goK, unhide HFN, ← unhide HE]; exact unhide HST, hB⟩
            case measure => simp [intOf]; omega
          · have e1 : ((slAt (goK k j (finE e k)) k).stage == 2) = false := by simpa using hs
            have hj3 := unhide HST3 hs
            have HN2 := hide (unhide HNX hs)
            have KS := step_spec (goK k j (finE e k)) D1 f1 D2 f2 D3 f3 (some ⟨gs, 0, none⟩) f4 (k : Int) wr hst.own.rd (unhide HF2).ok
            have hbx := hst.box
            have hle := hst.le
            clear hs hst HSTOP HST3 HNX HST HLL
            generalize goK k j (finE e k) = E at *
            simp only [engA] at KS
            have hWR := hB.size
            go_wp2_with fail
            refine KS.mono ?_
            rintro x w6 ⟨C1, z1, C2, z2, C3, z3, C4, z4, rfl, hown, b6⟩
            rw [← unhide HN2] at hown ⊢
            generalize hE2 : goK k (j + 1) (finE e k) = E2 at *
            have HE2 := hide hE2
            clear hE2
            simp only [engA]
            obtain ⟨X, hX⟩ : ∃ X : World, X = w6.alloc (.cells (engA E2 C1 z1 C2 z2 C3 z3 C4 z4) 96) := ⟨_, rfl⟩
            obtain ⟨q, hq⟩ : ∃ q, q = w6.heap.size := ⟨_, rfl⟩
            have bX : Below w6.heap.size w6 X := by rw [hX]; exact (Below.refl _ _).alloc (Nat.le_refl _) _
            have kq : Blk X q 96 (engA E2 C1 z1 C2 z2 C3 z3 C4 z4) := by rw [hX, hq]; exact Blk.new _ _ _
            have hrX : wr.heap.size ≤ X.heap.size := by have := b6.size; have := bX.size; omega
            have b7 := bthen b6 bX
            have hownX := hown.new bX
            simp only [engA] at hX
            have HX := hide hX
            have HQ := hide hq
            have HOWN := hide hownX
            clear hX hq hown hownX KS y0 y1 y2 y3 q0
            go_upto_region 15 with fail
            rw [← unhide HX, ← unhide HQ]
            obtain ⟨x0, x1, x2, x3⟩ : X.cell? ⟨q, 0, none⟩ = some (.slice C1 E2.base.length z1) ∧ X.cell? ⟨q, 1, none⟩ = some (.slice C2 E2.list.length z2) ∧ X.cell? ⟨q, 2, none⟩ = some (.slice C3 E2.vers.length z3) ∧ X.cell? ⟨q, 3, none⟩ = some (.slice C4 E2.slots.length z4) := ⟨kq.cell 0, kq.cell 1, kq.cell 2, kq.cell 3⟩
            have kg := hbx.new_ b7
            have hgX : g < X.heap.size := by omega
            go_wp2_with (refine wpList_store_row rfl 96 (.tmp 5) (.tmp 51) rfl g #[.slice C1 E2.base.length z1, .slice C2 E2.list.length z2, .slice C3 E2.vers.length z3, .slice C4 E2.slots.length z4] rfl rfl 96 _ kg info_eng4 rfl (sl4_one _ _ _ _ _ _ _ _ _ _ _ _) ?_)
            have hst6 : EngSq W.heap.size g (X.setRow g (engA E2 C1 z1 C2 z2 C3 z3 C4 z4)) E2 C1 z1 C2 z2 C3 z3 C4 z4 := EngSq.put (unhide HOWN) kg hle (by omega)
            have hB6 : Below W.heap.size W (X.setRow g (engA E2 C1 z1 C2 z2 C3 z3 C4 z4)) := below_setRow (bthen hB b7) (by omega) _
            simp only [engA] at hst6 hB6
            go_roundw
            case rel => exact ⟨k, j + 1, z + 1, by omega, by omega, fun h => by omega, rfl, by go_num, by omega, by rw [unhide HE2]; exact hst6.v, hB6⟩
            case measure => simp [intOf]; omega
        · obtain rfl : k = e.slots.length := by omega
          obtain rfl : j = 0 := hj0 rfl
          rw [goK] at hst
          obtain ⟨D1, f1, D2, f2, D3, f3, D4, f4, hst⟩ := hst
          obtain ⟨-, hfl⟩ := unhide HFIN e.slots.length hk
          obtain ⟨y0, y1, y2, y3, -⟩ := hst.cells
          have hlg := hst.lt
          have kR := unhide HK1 wr hB
          have hwW := hB.size
          generalize hre : finE e e.slots.length = e' at *
          have i3 : ¬ (e.slots.length : Int) < (e'.slots.length : Int) := by omega
          have HRE := hide hre
          clear hre hfl
          go_wp2_with (refine wpList_store_row rfl 96 (.tmp 2) (.tmp 54) rfl (w.heap.size + 1) #[.slice D1 e'.base.length f1, .slice D2 e'.list.length f2, .slice D3 e'.vers.length f3, .slice D4 e'.slots.length f4] rfl rfl 96 #[.slice none 0 0, .slice none 0 0, .slice none 0 0, .slice none 0 0] kR info_eng4 rfl (sl4_one _ _ _ _ _ _ _ _ _ _ _ _) ?_)
          refine bodyPost_ret (v := .tuple #[.agg #[.slice D1 e'.base.length f1, .slice D2 e'.list.length f2, .slice D3 e'.vers.length f3, .slice D4 e'.slots.length f4], .int .i64 (z : Int)]) (results_cell_tmp (p := 2) (q := 3) (ty := 96) rfl _ _ (w.heap.size + 1) 96 #[.slice D1 e'.base.length f1, .slice D2 e'.list.length f2, .slice D3 e'.vers.length f3, .slice D4 e'.slots.length f4] (0, 0) _ rfl (blk_setRow kR) Tryz.underlying96 rfl info_eng4) rfl ?_
          have hown2 := hst.own.keep (w' := wr.setRow (w.heap.size + 1) #[.slice D1 e'.base.length f1, .slice D2 e'.list.length f2, .slice D3 e'.vers.length f3, .slice D4 e'.slots.length f4]) ⟨by rw [size_setRow]; exact Nat.le_refl _, fun q hq _ => setRow_other wr (w.heap.size + 1) q _ (by have := hq.1; omega)⟩ (fun q hq _ => setRow_other wr (w.heap.size + 1) q _ (by have := (hst.own.rng q hq).1; omega))
          rw [unhide HRE]
          exact ⟨D1, f1, D2, f2, D3, f3, D4, f4, ⟨z, rfl⟩, (hown2.mono (Q := fun k => w.heap.size ≤ k) fun k hk _ => by have := hk.1; omega).lower (show w.heap.size ≤ W.heap.size by omega), below_setRow (bthen' hb0 hB) (by omega) _⟩
end Go.Proofs.YtihlhejencninaaGreat
