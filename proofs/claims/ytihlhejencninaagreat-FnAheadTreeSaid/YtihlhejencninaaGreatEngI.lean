/- Engines, of the program: current, slots, validity (printed by gen_in.py from xengi.in). -/
import Derived.Test.YtihlhejencninaaGreatEngD
import Derived.Test.YtihlhejencninaaGreatEqual
namespace Go.Proofs.YtihlhejencninaaGreat
open Go.RowKit
set_option linter.unusedVariables false
set_option linter.unusedSimpArgs false

/-- what the program's current looks at -/
theorem cur_char {e : Eng} (h : EngOk e) {n : Nat} (hn : n < e.slots.length) : curE e n = ((slAt e n).res.reads.all (fun x => atV (nowI e.base e.vers n (actReads (acAt e n))) x.k == x.v) && decide (whoL e.base e.vers n (acAt e n) = (slAt e n).frm)) := by
 have ha := h.act hn
 have hr : ∀ k ∈ actReads (acAt e n), atV (nowI e.base e.vers n (actReads (acAt e n))) k = atV (nowV e.base e.vers n) k := fun k hk => by
   rw [nowI_at _ _ _ (fun k hk => reads_bd ha hk) hk, nowV_at _ _ _ (reads_bd ha hk)]
 have hw : (whoL e.base e.vers n (acAt e n) = (slAt e n).frm) ↔ ((slAt e n).frm = whoL e.base e.vers n (acAt e n)) := eq_comm
 unfold curE
 rw [decide_eq_decide.2 hw]
 rcases h.slot n hn with ⟨_, _, hf, hz⟩ | ⟨_, _, ⟨v, _, hv⟩, _⟩
 · simp only [hf, hz]
   unfold effN whoL
   rw [runV_reads]
   cases actReads (acAt e n) <;> simp [zEff]
 · rw [hv]
   have e1 : decide ((runV v (acAt e n)).reads = (effN e n).reads) = (runV v (acAt e n)).reads.all (fun x => atV (nowI e.base e.vers n (actReads (acAt e n))) x.k == x.v) := by
     unfold effN
     rw [runV_reads, runV_reads, List.all_map, Bool.eq_iff_iff, decide_eq_true_eq, List.map_inj_left, List.all_eq_true]
     constructor
     · intro g k hk
       have := g k hk
       injection this with _ g2
       simp only [Function.comp, beq_iff_eq]
       rw [hr k hk, g2]
     · intro g k hk
       have := g k hk
       simp only [Function.comp, beq_iff_eq] at this
       rw [← this, hr k hk]
   rw [e1]
theorem slot_keys {e : Eng} (h : EngOk e) {n : Nat} (hn : n < e.slots.length) : ∀ x ∈ (slAt e n).res.reads, 0 ≤ x.k ∧ x.k ≤ 31 := by
 intro x hx
 rcases h.slot n hn with ⟨_, _, _, hz⟩ | ⟨_, _, ⟨v, _, hv⟩, _⟩
 · rw [hz] at hx; cases hx
 · rw [hv, runV_reads] at hx
   obtain ⟨k, hk, rfl⟩ := List.mem_map.1 hx
   exact reads_bd (h.act hn) hk
set_option maxRecDepth 100000 in
set_option maxHeartbeats 4000000 in
theorem current_impl (e : Eng) (A1 : Option Addr) (c1 : Nat) (A2 : Option Addr) (c2 : Nat) (A3 : Option Addr) (c3 : Nat) (A4 : Option Addr) (c4 : Nat) (n : Nat) (w : World) (h : EngRd w e A1 A2 A3 A4) (hok : EngOk e) (hn : n < e.slots.length) :
   Calls Tryz.prog 166 #[.agg (engA e A1 c1 A2 c2 A3 c3 A4 c4), .int .i64 (n : Int)] w fun x w' => x = .returned (.bool (curE e n)) ∧ Below w.heap.size w w' := by
 have HCH := hide (cur_char hok hn)
 have HSK := hide (slot_keys hok hn)
 have hsl := slot_len (hok.slot n hn)
 have HR := hide (fun w' (hb : Below w.heap.size w w') => h.new hb)
 obtain ⟨W, hW⟩ : ∃ W : World, W = w.alloc (.cells (engA e A1 c1 A2 c2 A3 c3 A4 c4) 96) := ⟨_, rfl⟩
 have hb0 : Below w.heap.size w W := by rw [hW]; exact (Below.refl _ _).alloc (Nat.le_refl _) _
 have K0 : Blk W w.heap.size 96 (engA e A1 c1 A2 c2 A3 c3 A4 c4) := by rw [hW]; exact Blk.new _ _ _
 have BX := hide (fun w' (hb : Below W.heap.size W w') => show w'.cell? ⟨w.heap.size, 3, none⟩ = some (.slice A4 e.slots.length c4) from (K0.new_ hb).cell 3)
 have KN := now_impl e A1 c1 A2 c2 A3 c3 A4 c4 n W (unhide HR W hb0) hok hn
 obtain ⟨b, off, P0, d0, P1, d1, P2, d2, hA4, -, hbb, ⟨-, -, q2, -, q4, -⟩, r0, r1, -⟩ := (unhide HR W hb0).slots.slt hn
 rw [← slAt_get e hn] at q2 q4 r0 r1
 have hnl := nowI_len e.base e.vers n (actReads (acAt e n))
 have hwl : (whoL e.base e.vers n (acAt e n)).length ≤ 2 := by rw [whoL, List.length_map]; exact actReads_len _
 have HA4 := hide hA4
 have HS := hide (fun (w' : World) (hb : Below W.heap.size W w') => show w'.cell? ⟨b, off + n * 6 + 2, none⟩ = some (.slice P0 (slAt e n).frm.length d0) ∧ w'.cell? ⟨b, off + n * 6 + 3 + 1, none⟩ = some (.slice P1 (slAt e n).res.reads.length d1) ∧ Rd w' P0 ((slAt e n).frm.map (.int .i64)) ∧ Rd w' P1 ((slAt e n).res.reads.flatMap encE) from ⟨(hb.cell (p := ⟨b, off + n * 6 + 2, none⟩) hbb).trans q2, (hb.cell (p := ⟨b, off + n * 6 + 4, none⟩) hbb).trans q4, Rd.new r0.rd hb, Rd.new r1.rd hb⟩)
 simp only [engA] at K0 hW KN ⊢
 clear h hok K0 hA4 q2 q4 r0 r1
 generalize slAt e n = s at *
 generalize nowI e.base e.vers n (actReads (acAt e n)) = v at *
 generalize whoL e.base e.vers n (acAt e n) = ww at *
 have i0 : (n : Int) < (e.slots.length : Int) := by omega
 go_enter Tryz.func166, Tryz.ntmps166
 go_wp2_with fail
 rw [← hW]
 clear hW
 refine KN.mono ?_
 rintro x w3 ⟨AW, cw, rfl, oW, b3⟩
 have rW := own_rd oW
 clear KN oW
 have hls : (vA v).size = 32 := by rw [vA_size, hnl]
 obtain ⟨kz, kv, b4⟩ := one_vals w3 112 v
 obtain ⟨g, hg⟩ : ∃ g, g = w3.heap.size := ⟨_, rfl⟩
 go_wp2_with (refine wpList_store_row rfl 112 (.tmp 5) (.tmp 13) rfl w3.heap.size (vA v) rfl rfl 112 zA kz (by rw [hls]; exact info_vals) (by rw [hls]; rfl) (vA_one _) ?_; refine at_world (C := fun W => wpList _ _ _ _ _ W) (F := fun W => Blk W w3.heap.size 112 (vA v) ∧ Below w3.heap.size w3 W) ⟨kv, b4⟩ ?_; clear kz kv b4; rintro w4 ⟨kv, b4⟩; rw [← hg] at kv ⊢; have HG := hide hg; clear hg; have bW4 := bthen b3 b4; have y3 := unhide BX w4 bW4; rw [unhide HA4] at y3; obtain ⟨s2, s4, -, -⟩ := unhide HS w4 bW4)
 have hw4 := kv.lt
 have rW4 := rW.new b4
 clear y3 s2 s4 rW b3
 go_loopw [23] (fun i wr => ∃ (j : Nat), j ≤ s.res.reads.length ∧ i = .int .i64 j ∧ (∀ k (hk : k < s.res.reads.length), k < j → (atV v s.res.reads[k].k == s.res.reads[k].v) = true) ∧ Below w4.heap.size w4 wr) (fun i _ => s.res.reads.length - (intOf i).toNat)
 case atStart => exact ⟨0, Nat.zero_le _, rfl, fun k _ h => by omega, Below.refl _ _⟩
 case round =>
   obtain ⟨j, hj, rfl, hall, bj⟩ := hrel
   have HALL := hide hall
   clear hall
   have bWr := bthen bW4 bj
   have hsj := bj.size
   by_cases hlt : j < s.res.reads.length
   · have j1 : (j : Int) < (s.res.reads.length : Int) := by omega
     obtain ⟨be, oe, hP1, hbe, c0, c1'⟩ := ((unhide HS wr bWr).2.2.2).ent hlt
     have hkb := unhide HSK _ (List.getElem_mem hlt)
     have HXJ := hide (fun (g : (atV v s.res.reads[j].k == s.res.reads[j].v) = false) => show s.res.reads.all (fun x => atV v x.k == x.v) = false from by
       rw [List.all_eq_false]
       exact ⟨_, List.getElem_mem hlt, by simpa using g⟩)
     have HXT := hide (fun (g : (atV v s.res.reads[j].k == s.res.reads[j].v) = true) (k : Nat) (hk : k < s.res.reads.length) (hkj : k < j + 1) => show (atV v s.res.reads[k].k == s.res.reads[k].v) = true from by
       rcases Nat.lt_or_ge k j with h1 | h1
       · exact unhide HALL k hk h1
       · have : k = j := by omega
         subst this
         exact g)
     generalize s.res.reads[j] = x at *
     obtain ⟨key, val⟩ := x
     simp only at c0 c1' hkb HXJ HXT
     obtain ⟨q, rfl⟩ := Int.eq_ofNat_of_zero_le hkb.1
     rw [atV_nat] at HXJ HXT
     have i2 : (q : Int) < 32 := by omega
     have i3 : q < v.length := by omega
     have kvr := (kv.new_ bj).alloc (.cells #[.int .i64 (q : Int), .int .i64 val] 79)
     have cv := vA_get kvr i3
     have hgv : v.getD q 0 = v[q] := by simp [List.getD_eq_getElem?_getD, List.getElem?_eq_getElem i3]
     rw [hgv] at HXJ HXT cv
     have hne : g ≠ wr.heap.size := by omega
     generalize v[q] = y at *
     have HP1 := hide hP1
     clear hP1 hgv kvr
     rw [unhide HP1]
     by_cases hyv : y = val
     · have hb1 : (y != val) = false := by simp [hyv]
       have hb2 : (y == val) = true := by simp [hyv]
       have HT := hide (unhide HXT hb2)
       clear hyv hb2
       go_wp2
       go_quiet (fail)
       go_wp2
       go_roundw
       case rel => exact ⟨j + 1, by omega, by go_num, unhide HT, below_drewN (bj.alloc hsj _) _⟩
       case measure => simp [intOf]; omega
     · have hb1 : (y != val) = true := by simp [hyv]
       have hb2 : (y == val) = false := by simp [hyv]
       have HT := hide (show curE e n = false by rw [unhide HCH, unhide HXJ hb2]; rfl)
       clear hyv hb2
       go_wp2
       go_quiet (fail)
       go_wp2
       go_ret
       exact ⟨retb (unhide HT).symm, bthen hb0 (bthen bW4 (below_drewN (bj.alloc hsj _) _))⟩
   · obtain rfl : j = s.res.reads.length := by omega
     have HT := hide (show curE e n = decide (ww = s.frm) by
       rw [unhide HCH, show s.res.reads.all (fun x => atV v x.k == x.v) = true from List.all_eq_true.2 fun x hx => by
         obtain ⟨k, hk, rfl⟩ := List.getElem_of_mem hx
         exact unhide HALL k hk hk]
       rfl)
     have y3 := unhide BX wr bWr
     rw [unhide HA4] at y3
     obtain ⟨s2, s4, z0, -⟩ := unhide HS wr bWr
     go_wp2_with fail
     refine (equalI_any AW P0 cw d0 ww s.frm wr (rW4.new bj) z0 (by omega)).mono ?_
     rintro x w7 ⟨rfl, m, rfl⟩
     rw [← unhide HT]
     go_wp2
     go_ret
     exact ⟨rfl, bthen hb0 (below_drewN bWr m)⟩
end Go.Proofs.YtihlhejencninaaGreat
