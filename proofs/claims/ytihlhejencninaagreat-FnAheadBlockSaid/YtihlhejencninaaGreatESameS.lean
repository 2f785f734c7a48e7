/- Does an action read what it read: of the reference (printed by gen_in.py from xesames.in). -/
import Derived.Test.YtihlhejencninaaGreatETryS
namespace Go.Proofs.YtihlhejencninaaGreat
open Go.RowKit
set_option linter.unusedVariables false
set_option linter.unusedSimpArgs false

theorem cur_same {e : Eng} (h : EngOk e) {n : Nat} (hn : n < e.slots.length) (hst : (slAt e n).stage ≠ 0) : (slAt e n).frm.length = (slAt e n).res.reads.length ∧ (curE e n = true ↔ ∀ k (h1 : k < (slAt e n).res.reads.length) (h2 : k < (slAt e n).frm.length), (readV e.base e.vers (slAt e n).res.reads[k].k n).1 = (slAt e n).res.reads[k].v ∧ (readV e.base e.vers (slAt e n).res.reads[k].k n).2 = (slAt e n).frm[k]) := by
  rcases h.slot n hn with hs | ⟨_, _, ⟨v, _, hv⟩, hl, _⟩
  · exact absurd hs.1 hst
  have ha := h.act hn
  have hrl : (slAt e n).res.reads.length = (actReads (acAt e n)).length := by rw [hv, runV_reads, List.length_map]
  have hg : ∀ k (h1 : k < (slAt e n).res.reads.length) (h2 : k < (actReads (acAt e n)).length), (slAt e n).res.reads[k].k = (actReads (acAt e n))[k] := fun k h1 h2 => by simp [hv, runV_reads]
  have hE : ∀ k (h2 : k < (actReads (acAt e n)).length), ((effN e n).reads)[k]'(by unfold effN; rw [runV_reads, List.length_map]; exact h2) = ⟨(actReads (acAt e n))[k], (readV e.base e.vers (actReads (acAt e n))[k] n).1⟩ := fun k h2 => by
    simp only [effN, runV_reads, List.getElem_map]
    rw [nowV_at _ _ _ (reads_bd ha (List.getElem_mem h2))]
  have hEl : (effN e n).reads.length = (actReads (acAt e n)).length := by unfold effN; rw [runV_reads, List.length_map]
  have hW : ∀ k (h2 : k < (actReads (acAt e n)).length), (whoL e.base e.vers n (acAt e n))[k]'(by rw [whoL, List.length_map]; exact h2) = (readV e.base e.vers (actReads (acAt e n))[k] n).2 := fun k h2 => by simp [whoL]
  have hWl : (whoL e.base e.vers n (acAt e n)).length = (actReads (acAt e n)).length := by rw [whoL, List.length_map]
  refine ⟨by rw [hl, hrl], ?_⟩
  unfold curE
  rw [Bool.and_eq_true, decide_eq_true_eq, decide_eq_true_eq]
  constructor
  · rintro ⟨e1, e2⟩ k h1 h2
    have hk : k < (actReads (acAt e n)).length := by omega
    have a1 : (slAt e n).res.reads[k] = (effN e n).reads[k]'(by omega) := List.getElem_of_eq e1 h1
    have a2 : (slAt e n).frm[k] = (whoL e.base e.vers n (acAt e n))[k]'(by omega) := List.getElem_of_eq e2 h2
    rw [a1, a2, hE k hk, hW k hk]
    exact ⟨rfl, rfl⟩
  · intro hk
    refine ⟨List.ext_getElem (by omega) fun k h1 h2 => ?_, List.ext_getElem (by omega) fun k h1 h2 => ?_⟩
    · obtain ⟨b1, b2⟩ := hk k h1 (by omega)
      have b3 := hg k h1 (by omega)
      rw [hE k (by omega)]
      rw [b3] at b1
      generalize (slAt e n).res.reads[k] = x at *
      obtain ⟨xk, xv⟩ := x
      simp only at b1 b3
      rw [b3, b1]
    · obtain ⟨b1, b2⟩ := hk k (by omega) h1
      have b3 := hg k (by omega) (by omega)
      rw [hW k (by omega), ← b2, b3]
set_option maxRecDepth 100000 in
set_option maxHeartbeats 4000000 in
theorem same_spec (e : Eng) (A1 : Option Addr) (c1 : Nat) (A2 : Option Addr) (c2 : Nat) (A3 : Option Addr) (c3 : Nat) (A4 : Option Addr) (c4 : Nat) (n : Nat) (w : World) (h : EngRd w e A1 A2 A3 A4) (hok : EngOk e) (hn : n < e.slots.length) (hst : (slAt e n).stage ≠ 0) :
    Calls Tryz.prog 157 #[.agg (engA e A1 c1 A2 c2 A3 c3 A4 c4), .int .i64 (n : Int)] w fun x w' => x = .returned (.bool (curE e n)) ∧ Below w.heap.size w w' := by
  have hbl := hok.base_len
  have hvl := hok.vlen
  obtain ⟨hfl, hcc⟩ := cur_same hok hn hst
  have hsl := slot_len (hok.slot n hn)
  have HCC := hide hcc
  have HFL := hide hfl
  have hn10 := hok.len10
  have i0 : (n : Int) < (e.slots.length : Int) := by omega
  obtain ⟨W, hW⟩ : ∃ W : World, W = w.alloc (.cells (engA e A1 c1 A2 c2 A3 c3 A4 c4) 96) := ⟨_, rfl⟩
  have hb0 : Below w.heap.size w W := by rw [hW]; exact (Below.refl _ _).alloc (Nat.le_refl _) _
  have K0 : Blk W w.heap.size 96 (engA e A1 c1 A2 c2 A3 c3 A4 c4) := by rw [hW]; exact Blk.new _ _ _
  obtain ⟨b, off, P0, d0, P1, d1, P2, d2, hA4, -, hbb, ⟨q0, q1, q2, q3, q4, q5⟩, r0, r1, r2⟩ := (h.new hb0).slots.slt hn
  rw [← slAt_get e hn] at q0 q1 q2 q3 q4 q5 r0 r1 r2
  subst hA4
  obtain ⟨V, hV⟩ : ∃ V : World, V = W.alloc (.cells (sltV (slAt e n) P0 d0 P1 d1 P2 d2).toArray 141) := ⟨_, rfl⟩
  have bV : Below W.heap.size W V := by rw [hV]; exact (Below.refl _ _).alloc (Nat.le_refl _) _
  have KS : Blk V W.heap.size 141 (sltV (slAt e n) P0 d0 P1 d1 P2 d2).toArray := by rw [hV]; exact Blk.new _ _ _
  have k0V := K0.new_ bV
  obtain ⟨sc0, sc1, sc2, sc3, sc4, sc5⟩ := slt_cells KS
  obtain ⟨y0, y1, y2, y3⟩ : V.cell? ⟨w.heap.size, 0, none⟩ = some (.slice A1 e.base.length c1) ∧ V.cell? ⟨w.heap.size, 1, none⟩ = some (.slice A2 e.list.length c2) ∧ V.cell? ⟨w.heap.size, 2, none⟩ = some (.slice A3 e.vers.length c3) ∧ V.cell? ⟨w.heap.size, 3, none⟩ = some (.slice (some ⟨b, off, none⟩) e.slots.length c4) := ⟨k0V.cell 0, k0V.cell 1, k0V.cell 2, k0V.cell 3⟩
  obtain ⟨z0, z1, z2, z3⟩ : W.cell? ⟨w.heap.size, 0, none⟩ = some (.slice A1 e.base.length c1) ∧ W.cell? ⟨w.heap.size, 1, none⟩ = some (.slice A2 e.list.length c2) ∧ W.cell? ⟨w.heap.size, 2, none⟩ = some (.slice A3 e.vers.length c3) ∧ W.cell? ⟨w.heap.size, 3, none⟩ = some (.slice (some ⟨b, off, none⟩) e.slots.length c4) := ⟨K0.cell 0, K0.cell 1, K0.cell 2, K0.cell 3⟩
  have hBV := bthen hb0 bV
  have rb := h.base.new hBV
  have rv := h.vers.new hBV
  have R0 := Rd.new r0.rd bV
  have R1 := Rd.new r1.rd bV
  simp only [engA] at hW ⊢
  simp only [sltV] at hV
  clear h hok hcc hfl hst K0 KS k0V r0 r1 r2
  generalize hs : slAt e n = s at *
  have HS := hide hs
  clear hs
  go_enter Tryz.func157, Tryz.ntmps157
  go_upto_region 1 with fail
  rw [← hW]
  clear hW
  have HV := hide hV
  clear hV
  go_wp2
  rw [← unhide HV]
  clear HV q0 q1 q2 q3 q4 q5 z0 z1 z2 z3
  go_loopw [6, 7, 8] (fun i _ _ wr => ∃ (k m : Nat), k ≤ s.res.reads.length ∧ i = .int .i64 k ∧ Hid (∀ j (h1 : j < s.res.reads.length) (h2 : j < s.frm.length), j < k → (readV e.base e.vers s.res.reads[j].k n).1 = s.res.reads[j].v ∧ (readV e.base e.vers s.res.reads[j].k n).2 = s.frm[j]) ∧ wr = V.drewN m) (fun i _ _ _ => s.res.reads.length - (intOf i).toNat)
  case atStart => exact ⟨0, 0, Nat.zero_le _, rfl, hide (fun j _ _ h => absurd h (by omega)), rfl⟩
  case round =>
    obtain ⟨k, m, hk, rfl, HP, rfl⟩ := hrel
    have hfl := unhide HFL
    by_cases hlt : k < s.res.reads.length
    · have j1 : (k : Int) < (s.res.reads.length : Int) := by omega
      have hlt2 : k < s.frm.length := by omega
      have j2 : (k : Int) < (s.frm.length : Int) := by omega
      obtain ⟨be, oe, hP1, hbe, c0, c1'⟩ := R1.ent hlt
      obtain ⟨bf, of, hP0, hbf, f0⟩ := R0.int hlt2
      have HNO := hide (fun (hx : ¬ ((readV e.base e.vers s.res.reads[k].k n).1 = s.res.reads[k].v ∧ (readV e.base e.vers s.res.reads[k].k n).2 = s.frm[k])) => show curE e n = false by
        cases hc : curE e n
        · rfl
        · exact absurd ((unhide HCC).1 hc k hlt hlt2) hx)
      have HNX := hide (fun (hx : (readV e.base e.vers s.res.reads[k].k n).1 = s.res.reads[k].v ∧ (readV e.base e.vers s.res.reads[k].k n).2 = s.frm[k]) => show ∀ j (h1 : j < s.res.reads.length) (h2 : j < s.frm.length), j < k + 1 → (readV e.base e.vers s.res.reads[j].k n).1 = s.res.reads[j].v ∧ (readV e.base e.vers s.res.reads[j].k n).2 = s.frm[j] from fun j h1 h2 hj => by
        by_cases ej : j = k
        · subst ej; exact hx
        · exact unhide HP j h1 h2 (by omega))
      generalize s.res.reads[k] = x at *
      generalize s.frm[k] = fk at *
      obtain ⟨key, val⟩ := x
      simp only at c0 c1' HNO HNX
      have HP1 := hide hP1
      have HP0 := hide hP0
      rw [hP1] at sc4
      rw [hP0] at sc2
      clear hP1 hP0
      rw [unhide HP1, unhide HP0]
      by_cases g1 : (readV e.base e.vers key n).1 = val
      · by_cases g2 : (readV e.base e.vers key n).2 = fk
        · have t1 : ((readV e.base e.vers key n).1 != val) = false := by simp [g1]
          have t2 : ((readV e.base e.vers key n).2 != fk) = false := by simp [g2]
          have HH := hide (unhide HNX ⟨g1, g2⟩)
          clear g1 g2
          go_wp2
          go_quiet ((go_at_call 161; first | exact quiet_left (read_spec A1 c1 e.base A3 c3 e.vers key (n : Int) _ rb (by omega) rv (by omega)) | exact quiet_add_left (read_spec A1 c1 e.base A3 c3 e.vers key (n : Int) _ rb (by omega) rv (by omega))))
          go_wp2
          go_roundw
          case rel => exact ⟨k + 1, m + nq, by omega, by go_num, HH, rfl⟩
          case measure => simp [intOf]; omega
        · have t1 : ((readV e.base e.vers key n).1 != val) = false := by simp [g1]
          have t2 : ((readV e.base e.vers key n).2 != fk) = true := by simpa using g2
          have HH := hide (unhide HNO (fun h => g2 h.2))
          clear g1 g2
          go_wp2
          go_quiet ((go_at_call 161; first | exact quiet_left (read_spec A1 c1 e.base A3 c3 e.vers key (n : Int) _ rb (by omega) rv (by omega)) | exact quiet_add_left (read_spec A1 c1 e.base A3 c3 e.vers key (n : Int) _ rb (by omega) rv (by omega))))
          go_wp2
          go_ret
          rw [unhide HH]
          exact ⟨rfl, below_drewN hBV _⟩
      · have t1 : ((readV e.base e.vers key n).1 != val) = true := by simpa using g1
        have HH := hide (unhide HNO (fun h => g1 h.1))
        clear g1
        go_wp2
        go_quiet ((go_at_call 161; first | exact quiet_left (read_spec A1 c1 e.base A3 c3 e.vers key (n : Int) _ rb (by omega) rv (by omega)) | exact quiet_add_left (read_spec A1 c1 e.base A3 c3 e.vers key (n : Int) _ rb (by omega) rv (by omega))))
        go_wp2
        go_ret
        rw [unhide HH]
        exact ⟨rfl, below_drewN hBV _⟩
    · have HH := hide (show curE e n = true from (unhide HCC).2 fun j h1 h2 => unhide HP j h1 h2 (by omega))
      go_wp2
      go_ret
      rw [unhide HH]
      exact ⟨rfl, below_drewN hBV _⟩
end Go.Proofs.YtihlhejencninaaGreat
