/- Slots, of the reference (printed by gen_in.py from xeslots.in). -/
import Derived.Test.YtihlhejencninaaGreatETryS
namespace Go.Proofs.YtihlhejencninaaGreat
open Go.RowKit
set_option linter.unusedVariables false
set_option linter.unusedSimpArgs false

/-- what is gathered of the values that were read -/
def selK (v : List Int) (ks : List Int) (k : Int) : Int := if k ∈ ks then atV v k else 0
theorem selK_hit {v ks : List Int} {k : Int} : selK v (ks ++ [k]) k = atV v k := by simp [selK]
theorem selK_miss {v ks : List Int} {k x : Int} (h : x ≠ k) : selK v (ks ++ [x]) k = selK v ks k := by
  unfold selK
  have : (k ∈ ks ++ [x]) ↔ k ∈ ks := by simp only [List.mem_append, List.mem_singleton]; exact ⟨fun g => g.resolve_right fun e => h e.symm, .inl⟩
  simp only [this]
theorem selK_run {v : List Int} {a : Act} (ha : actB a = true) (hv : valOk v) : (0 ≤ selK v (actReads a) a.src ∧ selK v (actReads a) a.src ≤ 1000000) ∧ (0 ≤ selK v (actReads a) a.dst ∧ selK v (actReads a) a.dst ≤ 1000000) ∧ actEff a (selK v (actReads a) a.src) (selK v (actReads a) a.dst) = runV v a := by
  obtain ⟨h1, h2⟩ := redV_ok ha hv
  obtain ⟨hs, hd, _⟩ := actB_bd ha
  have key : ∀ k : Int, 0 ≤ k ∧ k ≤ 31 → atV (setAll zeroV (runV v a).reads) k = selK v (actReads a) k := fun k hk => by
    rw [runV_reads]
    have := redV_fold v (actReads a) (fun k hk => reads_bd ha hk) zeroV (by simp [zeroV]) k hk
    rw [this]
    unfold selK
    split
    · rfl
    · obtain ⟨q, rfl⟩ := Int.eq_ofNat_of_zero_le hk.1
      rw [atV_nat, zeroV_get]
  have b : ∀ k : Int, 0 ≤ k ∧ k ≤ 31 → 0 ≤ selK v (actReads a) k ∧ selK v (actReads a) k ≤ 1000000 := fun k hk => by
    rw [← key k hk]
    obtain ⟨q, rfl⟩ := Int.eq_ofNat_of_zero_le hk.1
    rw [atV_nat]
    exact h1.2 q
  refine ⟨b _ hs, b _ hd, ?_⟩
  rw [← h2, ← key _ hs, ← key _ hd]
  rfl
set_option maxRecDepth 100000 in
set_option maxHeartbeats 4000000 in
theorem slot_spec (e : Eng) (A1 : Option Addr) (c1 : Nat) (A2 : Option Addr) (c2 : Nat) (A3 : Option Addr) (c3 : Nat) (A4 : Option Addr) (c4 : Nat) (n : Nat) (w : World) (h : EngRd w e A1 A2 A3 A4) (hok : EngOk e) (hn : n < e.slots.length) :
    Calls Tryz.prog 155 #[.agg (engA e A1 c1 A2 c2 A3 c3 A4 c4), .int .i64 (n : Int)] w fun x w' => x = .returned (.bool true) ∧ Below w.heap.size w w' := by
  have hso := hok.slot n hn
  have ha := hok.act hn
  obtain ⟨hl0, hl1, hl2⟩ := slot_len hso
  have hnl : n < e.list.length := by have := hok.len; omega
  have hla : acAt e n = e.list[n] := acAt_get e hnl
  have hn10 := hok.len10
  have hll : e.list.length ≤ 10 := by rw [← hok.len]; exact hn10
  have i0 : (n : Int) < (e.slots.length : Int) := by omega
  have i1 : (n : Int) < (e.list.length : Int) := by omega
  obtain ⟨W, hW⟩ : ∃ W : World, W = w.alloc (.cells (engA e A1 c1 A2 c2 A3 c3 A4 c4) 96) := ⟨_, rfl⟩
  have hb0 : Below w.heap.size w W := by rw [hW]; exact (Below.refl _ _).alloc (Nat.le_refl _) _
  have K0 : Blk W w.heap.size 96 (engA e A1 c1 A2 c2 A3 c3 A4 c4) := by rw [hW]; exact Blk.new _ _ _
  obtain ⟨b, off, P0, d0, P1, d1, P2, d2, hA4, -, hbb, ⟨q0, q1, q2, q3, q4, q5⟩, r0, r1, r2⟩ := (h.new hb0).slots.slt hn
  rw [← slAt_get e hn] at q0 q1 q2 q3 q4 q5 r0 r1 r2
  obtain ⟨bl, ol, hA2, hbl, l0, l1, l2, l3⟩ := (h.new hb0).list.act hnl
  rw [← hla] at l0 l1 l2 l3
  subst hA4
  subst hA2
  obtain ⟨V, hV⟩ : ∃ V : World, V = W.alloc (.cells (sltV (slAt e n) P0 d0 P1 d1 P2 d2).toArray 141) := ⟨_, rfl⟩
  have bV : Below W.heap.size W V := by rw [hV]; exact (Below.refl _ _).alloc (Nat.le_refl _) _
  have KS : Blk V W.heap.size 141 (sltV (slAt e n) P0 d0 P1 d1 P2 d2).toArray := by rw [hV]; exact Blk.new _ _ _
  have k0V := K0.new_ bV
  have hBV := bthen hb0 bV
  have hWV := bV.size
  have hW0 := K0.lt
  have hVl := KS.lt
  have HX := hide (fun (w' : World) (hb : Below V.heap.size V w') => show (w'.cell? ⟨w.heap.size, 1, none⟩ = some (.slice (some ⟨bl, ol, none⟩) e.list.length c2) ∧ w'.cell? ⟨w.heap.size, 3, none⟩ = some (.slice (some ⟨b, off, none⟩) e.slots.length c4)) ∧ (w'.cell? ⟨bl, ol + n * 4, none⟩ = some (.int .i64 (acAt e n).kind) ∧ w'.cell? ⟨bl, ol + n * 4 + 1, none⟩ = some (.int .i64 (acAt e n).src) ∧ w'.cell? ⟨bl, ol + n * 4 + 2, none⟩ = some (.int .i64 (acAt e n).dst) ∧ w'.cell? ⟨bl, ol + n * 4 + 3, none⟩ = some (.int .i64 (acAt e n).amt)) ∧ (Rd w' P0 ((slAt e n).frm.map (.int .i64)) ∧ Rd w' P1 ((slAt e n).res.reads.flatMap encE) ∧ Rd w' P2 ((slAt e n).res.writes.flatMap encE)) from by
    have hb2 := bthen bV hb
    exact ⟨⟨(k0V.new_ hb).cell 1, (k0V.new_ hb).cell 3⟩, ⟨(hb2.cell (p := ⟨bl, ol + n * 4, none⟩) hbl).trans l0, (hb2.cell (p := ⟨bl, ol + n * 4 + 1, none⟩) hbl).trans l1, (hb2.cell (p := ⟨bl, ol + n * 4 + 2, none⟩) hbl).trans l2, (hb2.cell (p := ⟨bl, ol + n * 4 + 3, none⟩) hbl).trans l3⟩, Rd.new r0.rd hb2, Rd.new r1.rd hb2, Rd.new r2.rd hb2⟩)
  have HKS := hide (fun (w' : World) (hb : Below V.heap.size V w') => slt_cells (KS.new_ hb))
  obtain ⟨z1, z3⟩ : W.cell? ⟨w.heap.size, 1, none⟩ = some (.slice (some ⟨bl, ol, none⟩) e.list.length c2) ∧ W.cell? ⟨w.heap.size, 3, none⟩ = some (.slice (some ⟨b, off, none⟩) e.slots.length c4) := ⟨K0.cell 1, K0.cell 3⟩
  simp only [engA] at hW ⊢
  simp only [sltV] at hV
  clear h hok K0 KS k0V r0 r1 r2 l0 l1 l2 l3 hla
  have HSO := hide hso
  have HA := hide ha
  clear hso ha
  generalize slAt e n = s at *
  generalize acAt e n = a at *
  obtain ⟨sc0, sc1, sc2, sc3, sc4, sc5⟩ := unhide HKS V (Below.refl _ _)
  go_enter Tryz.func155, Tryz.ntmps155
  go_upto_region 1 with fail
  rw [← hW]
  clear hW
  have HV := hide hV
  clear hV
  rcases unhide HSO with ⟨h0, ht, hf, hz⟩ | ⟨h0, ht, ⟨v, hv, hres⟩, hfl, hfb⟩
  · have e0 : (s.stage == 0) = true := by simp [h0]
    have e1 : decide (0 ≤ s.tries) = true := by simp; omega
    have e2 : decide (s.tries ≤ 1000) = true := by simp; omega
    have e3 : ((s.frm.length : Int) == 0) = true := by simp [hf]
    have e4 : s.res.done = false := by rw [hz]; rfl
    have e5 : ((s.res.reads.length : Int) == 0) = true := by rw [hz]; rfl
    have e6 : ((s.res.writes.length : Int) == 0) = true := by rw [hz]; rfl
    rw [e4] at q3 sc3
    rw [e4] at HV
    clear hf hz h0 ht e4
    go_wp2
    rw [← unhide HV]
    go_wp2
    go_ret
    exact ⟨rfl, hBV⟩
  · have e0 : (s.stage == 0) = false := by rcases h0 with h | h <;> simp [h]
    have e1 : inB s.tries 1 1000 = true := inB_true.2 ht
    have e2 : inB s.stage 1 2 = true := inB_true.2 (by omega)
    have hrl : s.res.reads.length = (actReads a).length := by rw [hres, runV_reads, List.length_map]
    have e3 : ((s.res.reads.length : Int) != ((actReads a).length : Int)) = false := by simp [hrl]
    have e4 : ((s.frm.length : Int) != ((actReads a).length : Int)) = false := by simp [hfl]
    have hrl2 := actReads_len a
    have HRL := hide hrl
    have HFL := hide hfl
    have HRK := hide (fun (j : Nat) (hj : j < s.res.reads.length) (hj2 : j < (actReads a).length) => show s.res.reads[j] = ⟨(actReads a)[j], atV v (actReads a)[j]⟩ ∧ inB (atV v (actReads a)[j]) 0 1000000 = true from by
      have h1 : s.res.reads[j] = ⟨(actReads a)[j], atV v (actReads a)[j]⟩ := by simp [hres, runV_reads]
      refine ⟨h1, inB_true.2 ?_⟩
      obtain ⟨q, hq⟩ := Int.eq_ofNat_of_zero_le (reads_bd (unhide HA) (List.getElem_mem hj2)).1
      rw [hq, atV_nat]
      exact hv.2 q)
    have HFB := hide (fun (j : Nat) (hj : j < s.frm.length) => show inB s.frm[j] (-1) ((n : Int) - 1) = true from inB_true.2 (by have := hfb _ (List.getElem_mem hj); omega))
    have HSK := hide (show (0 ≤ selK v (actReads a) a.src ∧ selK v (actReads a) a.src ≤ 1000000) ∧ (0 ≤ selK v (actReads a) a.dst ∧ selK v (actReads a) a.dst ≤ 1000000) ∧ actEff a (selK v (actReads a) a.src) (selK v (actReads a) a.dst) = s.res from by rw [hres]; exact selK_run (unhide HA) hv)
    clear h0 ht hv hres hfl hfb hrl
    go_upto_region 2 with fail
    rw [← unhide HV]
    clear HV q0 q1 q2 q3 q4 q5 z1 z3
    obtain ⟨⟨y1, y3⟩, ⟨l0, l1, l2, l3⟩, -, -, -⟩ := unhide HX V (Below.refl _ _)
    go_wp2_with fail
    refine (actionReads_spec a V (unhide HA)).mono ?_
    rintro x w4 ⟨AK, ck, rfl, oK, b4⟩
    have rK := own_rd oK
    have HKR := hide (fun (w' : World) (hb : Below w4.heap.size w4 w') => (Rd.new rK hb : Rd w' AK ((actReads a).map (.int .i64))))
    clear oK rK sc0 sc1 sc2 sc3 sc4 sc5 y1 y3 l0 l1 l2 l3
    have hw4 := b4.size
    obtain ⟨sc0, sc1, sc2, sc3, sc4, sc5⟩ := unhide HKS w4 b4
    go_wp2_with (go_at_call 93; refine (l1In_any _ _ _ _).mono ?_; rintro x w' ⟨rfl, rfl⟩)
    clear sc0 sc1 sc2 sc3 sc4 sc5
    generalize hks : actReads a = ks at *
    clear hks
    go_loopw [7, 8, 9, 10] (fun x y i _ wr => ∃ (j : Nat), j ≤ ks.length ∧ i = .int .i64 j ∧ x = .int .i64 (selK v (ks.take j) a.src) ∧ y = .int .i64 (selK v (ks.take j) a.dst) ∧ Below w4.heap.size w4 wr) (fun _ _ i _ _ => ks.length - (intOf i).toNat)
    case atStart => exact ⟨0, Nat.zero_le _, rfl, by simp [selK], by simp [selK], Below.refl _ _⟩
    case round =>
      obtain ⟨j, hj, rfl, rfl, rfl, hB⟩ := hrel
      have b4r := bthen b4 hB
      by_cases hlt : j < ks.length
      · have j1 : (j : Int) < (ks.length : Int) := by omega
        have hj2 : j < s.res.reads.length := by rw [unhide HRL]; exact hlt
        have hj3 : j < s.frm.length := by rw [unhide HFL]; exact hlt
        have j2 : (j : Int) < (s.res.reads.length : Int) := by omega
        have j3 : (j : Int) < (s.frm.length : Int) := by omega
        obtain ⟨hx, t1⟩ := unhide HRK j hj2 hlt
        have t2 := unhide HFB j hj3
        obtain ⟨V2, hV2⟩ : ∃ V2 : World, V2 = wr.alloc (.cells #[.int .i64 s.res.reads[j].k, .int .i64 s.res.reads[j].v] 79) := ⟨_, rfl⟩
        have bV2 : Below wr.heap.size wr V2 := by rw [hV2]; exact (Below.refl _ _).alloc (Nat.le_refl _) _
        have KE : Blk V2 wr.heap.size 79 #[.int .i64 s.res.reads[j].k, .int .i64 s.res.reads[j].v] := by rw [hV2]; exact Blk.new _ _ _
        have ec0 : V2.cell? ⟨wr.heap.size, 0, none⟩ = some (.int .i64 s.res.reads[j].k) := KE.cell 0
        have ec1 : V2.cell? ⟨wr.heap.size, 1, none⟩ = some (.int .i64 s.res.reads[j].v) := KE.cell 1
        have bbV := bthen b4r bV2
        obtain ⟨-, -, -, R1r, -⟩ := unhide HX wr b4r
        obtain ⟨be, oe, hP1, hbe, c0, c1'⟩ := R1r.ent hj2
        obtain ⟨⟨y1, y3⟩, ⟨l0, l1, l2, l3⟩, R0, -, -⟩ := unhide HX V2 bbV
        obtain ⟨sc0, sc1, sc2, sc3, sc4, sc5⟩ := unhide HKS V2 bbV
        obtain ⟨dc0, dc1, dc2, dc3, dc4, dc5⟩ := unhide HKS wr b4r
        obtain ⟨bf, of, hP0, hbf, f0⟩ := R0.int hj3
        obtain ⟨bk, ok, hAK, hbk, a0⟩ := (unhide HKR V2 (bthen hB bV2)).int hlt
        have HTS := hide (show selK v (ks.take (j + 1)) a.src = if ks[j] = a.src then atV v ks[j] else selK v (ks.take j) a.src by
          rw [List.take_succ_eq_append_getElem hlt]
          split
          · rename_i g; rw [← g, selK_hit]
          · rename_i g; rw [selK_miss g])
        have HTD := hide (show selK v (ks.take (j + 1)) a.dst = if ks[j] = a.dst then atV v ks[j] else selK v (ks.take j) a.dst by
          rw [List.take_succ_eq_append_getElem hlt]
          split
          · rename_i g; rw [← g, selK_hit]
          · rename_i g; rw [selK_miss g])
        rw [hx] at hV2 ec0 ec1 c0 c1'
        generalize ks[j] = key at *
        generalize s.frm[j] = fj at *
        generalize atV v key = val at *
        simp only at hV2 ec0 ec1 c0 c1'
        have HP1 := hide hP1
        have HP0 := hide hP0
        have HAK := hide hAK
        rw [hP1] at sc4 dc4
        rw [hP0] at sc2
        clear hP1 hP0 hAK hx KE dc0 dc1 dc2 dc3 dc5 R0 R1r
        rw [unhide HP1, unhide HP0, unhide HAK]
        have HV2 := hide hV2
        clear hV2
        have hr0 : w.heap.size < wr.heap.size := by have := hB.size; omega
        have hr1 : W.heap.size < wr.heap.size := by have := hB.size; omega
        go_upto_region 13 with fail
        rw [← unhide HV2]
        go_quiet ((go_at_call 93; first | exact quiet_left (l1In_any _ _ _ _) | exact quiet_add_left (l1In_any _ _ _ _)))
        go_wp2
        by_cases g1 : key = a.src
        · have t3 : (key == a.src) = true := by simp [g1]
          have HS1 := hide ((unhide HTS).trans (if_pos g1))
          clear g1
          go_quiet (fail)
          go_wp2
          by_cases g2 : key = a.dst
          · have t4 : (key == a.dst) = true := by simp [g2]
            have HS2 := hide ((unhide HTD).trans (if_pos g2))
            clear g2
            go_quiet (fail)
            go_wp2
            go_roundw
            case rel => exact ⟨j + 1, by omega, by go_num, by rw [unhide HS1], by rw [unhide HS2], below_drewN (bthen hB bV2) _⟩
            case measure => simp [intOf]; omega
          · have t4 : (key == a.dst) = false := by simp [g2]
            have HS2 := hide ((unhide HTD).trans (if_neg g2))
            clear g2
            go_quiet (fail)
            go_wp2
            go_roundw
            case rel => exact ⟨j + 1, by omega, by go_num, by rw [unhide HS1], by rw [unhide HS2], below_drewN (bthen hB bV2) _⟩
            case measure => simp [intOf]; omega
        · have t3 : (key == a.src) = false := by simp [g1]
          have HS1 := hide ((unhide HTS).trans (if_neg g1))
          clear g1
          go_quiet (fail)
          go_wp2
          by_cases g2 : key = a.dst
          · have t4 : (key == a.dst) = true := by simp [g2]
            have HS2 := hide ((unhide HTD).trans (if_pos g2))
            clear g2
            go_quiet (fail)
            go_wp2
            go_roundw
            case rel => exact ⟨j + 1, by omega, by go_num, by rw [unhide HS1], by rw [unhide HS2], below_drewN (bthen hB bV2) _⟩
            case measure => simp [intOf]; omega
          · have t4 : (key == a.dst) = false := by simp [g2]
            have HS2 := hide ((unhide HTD).trans (if_neg g2))
            clear g2
            go_quiet (fail)
            go_wp2
            go_roundw
            case rel => exact ⟨j + 1, by omega, by go_num, by rw [unhide HS1], by rw [unhide HS2], below_drewN (bthen hB bV2) _⟩
            case measure => simp [intOf]; omega
      · obtain rfl : j = ks.length := by omega
        obtain ⟨⟨y1, y3⟩, ⟨l0, l1, l2, l3⟩, -, -, -⟩ := unhide HX wr b4r
        rw [List.take_length]
        obtain ⟨k1, k2, k3⟩ := unhide HSK
        have KL := l6Run_any a (selK v ks a.src) (selK v ks a.dst) wr (unhide HA) k1 k2
        rw [k3] at KL
        clear k1 k2 k3
        go_wp2_with fail
        refine KL.mono ?_
        rintro x w5 ⟨X1, f1, X2, f2, rfl, p1, p2, -, b5⟩
        have b45 := bthen b4r b5
        obtain ⟨V3, hV3⟩ : ∃ V3 : World, V3 = w5.alloc (.cells #[.bool s.res.done, .slice X1 s.res.reads.length f1, .slice X2 s.res.writes.length f2] 107) := ⟨_, rfl⟩
        have bV3 : Below w5.heap.size w5 V3 := by rw [hV3]; exact (Below.refl _ _).alloc (Nat.le_refl _) _
        have KE : Blk V3 w5.heap.size 107 #[.bool s.res.done, .slice X1 s.res.reads.length f1, .slice X2 s.res.writes.length f2] := by rw [hV3]; exact Blk.new _ _ _
        have ec0 : V3.cell? ⟨w5.heap.size, 0, none⟩ = some (.bool s.res.done) := KE.cell 0
        have ec2 : V3.cell? ⟨w5.heap.size, 2, none⟩ = some (.slice X2 s.res.writes.length f2) := KE.cell 2
        have bb3 := bthen b45 bV3
        obtain ⟨sc0, sc1, sc2, sc3, sc4, sc5⟩ := unhide HKS V3 bb3
        obtain ⟨-, -, -, -, R2⟩ := unhide HX V3 bb3
        have rX := Rd.new (own_rd p2) bV3
        have t9 : (s.res.done == s.res.done) = true := by simp
        have KM := sameEntries_spec P2 X2 d2 f2 s.res.writes s.res.writes V3 R2 rX (by omega)
        rw [decide_eq_true rfl] at KM
        have HV3 := hide hV3
        clear hV3 p1 p2 KE KL y1 y3 l0 l1 l2 l3
        go_upto_region 20 with fail
        rw [← unhide HV3]
        go_wp2_with fail
        refine KM.mono ?_
        rintro x w6 ⟨rfl, m, rfl⟩
        go_wp2
        go_ret
        exact ⟨rfl, below_drewN (bthen hBV bb3) _⟩
end Go.Proofs.YtihlhejencninaaGreat
