/- Engines, of the program: slots (printed by gen_in.py from xslot.in). -/
import Derived.Test.YtihlhejencninaaGreatEngI
import Derived.Test.YtihlhejencninaaGreatGeff
import Derived.Test.YtihlhejencninaaGreatGloc
namespace Go.Proofs.YtihlhejencninaaGreat
open Go.RowKit
set_option linter.unusedVariables false
set_option linter.unusedSimpArgs false

theorem redV_fold (v : List Int) : ∀ (ks : List Int), (∀ k ∈ ks, 0 ≤ k ∧ k ≤ 31) → ∀ (u : List Int), u.length = 32 → ∀ k : Int, 0 ≤ k ∧ k ≤ 31 → atV (setAll u (ks.map fun k => ⟨k, atV v k⟩)) k = if k ∈ ks then atV v k else atV u k
 | [], _, u, _, k, _ => by simp [setAll]
 | x :: ks, h, u, hu, k, hk => by
   have hx := h x (by simp)
   have hstep : setAll u ((x :: ks).map fun k => (⟨k, atV v k⟩ : Ent)) = setAll (u.set x.toNat (atV v x)) (ks.map fun k => ⟨k, atV v k⟩) := rfl
   rw [hstep, redV_fold v ks (fun y hy => h y (by simp [hy])) _ (by rw [List.length_set]; exact hu) k hk]
   by_cases hm : k ∈ ks
   · rw [if_pos hm, if_pos (by simp [hm])]
   · rw [if_neg hm]
     by_cases hkx : k = x
     · subst hkx
       rw [if_pos (by simp)]
       unfold atV
       rw [List.getD_eq_getElem?_getD, List.getElem?_set_self (by omega), Option.getD_some]
     · rw [if_neg (by simp [hkx, hm])]
       unfold atV
       rw [List.getD_eq_getElem?_getD, List.getElem?_set_ne (by omega), ← List.getD_eq_getElem?_getD]
theorem redV_ok {v : List Int} {a : Act} (ha : actB a = true) (hv : valOk v) : valOk (setAll zeroV (runV v a).reads) ∧ runV (setAll zeroV (runV v a).reads) a = runV v a := by
 have hz : (zeroV).length = 32 := by simp [zeroV]
 have hk : ∀ k ∈ actReads a, 0 ≤ k ∧ k ≤ 31 := fun k hk => reads_bd ha hk
 rw [runV_reads]
 refine ⟨⟨(setAll_len _ _).trans hz, fun k => ?_⟩, runV_congr ha fun k hk' => ?_⟩
 · by_cases h : k < 32
   · have := redV_fold v _ hk _ hz (k : Int) (by omega)
     rw [atV_nat] at this
     rw [this]
     split
     · rw [atV_nat]; exact hv.2 k
     · rw [atV_nat, show zeroV.getD k 0 = 0 by unfold zeroV; rw [List.getD_eq_getElem?_getD, List.getElem?_replicate]; split <;> rfl]; omega
   · rw [List.getD_eq_getElem?_getD, List.getElem?_eq_none (by rw [setAll_len, hz]; omega)]
     simp
 · rw [redV_fold v _ hk _ hz k (hk k hk'), if_pos hk']
theorem info_slt6 : (Tryz.prog.info? 141).map (·.size) = some 6 := by kernel_rfl
def zS : Array Value := #[.int .i64 0, .int .i64 0, .slice none 0 0, .bool false, .slice none 0 0, .slice none 0 0]
theorem effR_rd {P : Nat → Prop} {x : Eff} {w : World} {A1 : Option Addr} {c1 : Nat} {A2 : Option Addr} {c2 : Nat} (h : effR P x w (effV x A1 c1 A2 c2)) : Rd w A1 (x.reads.flatMap encE) ∧ Rd w A2 (x.writes.flatMap encE) := by
 obtain ⟨B1, d1, B2, d2, he, -, -, h1, h2⟩ := h
 simp only [effV, List.cons.injEq, Value.slice.injEq] at he
 obtain ⟨-, ⟨rfl, -, -⟩, ⟨rfl, -, -⟩, -⟩ := he
 exact ⟨h1.rd, h2.rd⟩
theorem slt_cells {w : World} {g : Nat} {t : TypeId} {s : Slt} {P0 : Option Addr} {d0 : Nat} {P1 : Option Addr} {d1 : Nat} {P2 : Option Addr} {d2 : Nat} (h : Blk w g t (sltV s P0 d0 P1 d1 P2 d2).toArray) :
   w.cell? ⟨g, 0, none⟩ = some (.int .i64 s.stage) ∧ w.cell? ⟨g, 1, none⟩ = some (.int .i64 s.tries) ∧ w.cell? ⟨g, 2, none⟩ = some (.slice P0 s.frm.length d0) ∧ w.cell? ⟨g, 3, none⟩ = some (.bool s.res.done) ∧ w.cell? ⟨g, 4, none⟩ = some (.slice P1 s.res.reads.length d1) ∧ w.cell? ⟨g, 5, none⟩ = some (.slice P2 s.res.writes.length d2) := ⟨h.cell 0, h.cell 1, h.cell 2, h.cell 3, h.cell 4, h.cell 5⟩
theorem slt_one6 (s : Slt) (P0 : Option Addr) (d0 : Nat) (P1 : Option Addr) (d1 : Nat) (P2 : Option Addr) (d2 : Nat) : (sltV s P0 d0 P1 d1 P2 d2).toArray.all (·.oneCell') = true := by
 rw [Array.all_eq_true_iff_forall_mem]
 intro u hu
 simp [sltV] at hu
 rcases hu with rfl | rfl | rfl | rfl | rfl | rfl <;> rfl
set_option maxRecDepth 100000 in
set_option maxHeartbeats 4000000 in
theorem slotRight_impl (e : Eng) (A1 : Option Addr) (c1 : Nat) (A2 : Option Addr) (c2 : Nat) (A3 : Option Addr) (c3 : Nat) (A4 : Option Addr) (c4 : Nat) (n : Nat) (w : World) (h : EngRd w e A1 A2 A3 A4) (hok : EngOk e) (hn : n < e.slots.length) :
   Calls Tryz.prog 163 #[.agg (engA e A1 c1 A2 c2 A3 c3 A4 c4), .int .i64 (n : Int)] w fun x w' => x = .returned (.bool true) ∧ Below w.heap.size w w' := by
 have hn10 := hok.len10
 have hso := hok.slot n hn
 have ha := hok.act hn
 obtain ⟨hl0, hl1, hl2⟩ := slot_len hso
 have hnl : n < e.list.length := by have := hok.len; omega
 have hla : acAt e n = e.list[n] := acAt_get e hnl
 have HR := hide (fun w' (hb : Below w.heap.size w w') => h.new hb)
 obtain ⟨W, hW⟩ : ∃ W : World, W = w.alloc (.cells (engA e A1 c1 A2 c2 A3 c3 A4 c4) 96) := ⟨_, rfl⟩
 have hb0 : Below w.heap.size w W := by rw [hW]; exact (Below.refl _ _).alloc (Nat.le_refl _) _
 have K0 : Blk W w.heap.size 96 (engA e A1 c1 A2 c2 A3 c3 A4 c4) := by rw [hW]; exact Blk.new _ _ _
 obtain ⟨b, off, P0, d0, P1, d1, P2, d2, hA4, -, hbb, ⟨q0, q1, q2, q3, q4, q5⟩, r0, r1, r2⟩ := (unhide HR W hb0).slots.slt hn
 obtain ⟨bl, ol, hA2, hbl, l0, l1, l2, l3⟩ := (unhide HR W hb0).list.act hnl
 subst hA4
 subst hA2
 rw [← slAt_get e hn] at q0 q1 q2 q3 q4 q5 r0 r1 r2
 rw [← hla] at l0 l1 l2 l3
 have BX := hide (fun w' (hb : Below W.heap.size W w') => show w'.cell? ⟨w.heap.size, 1, none⟩ = some (.slice (some ⟨bl, ol, none⟩) e.list.length c2) ∧ w'.cell? ⟨w.heap.size, 3, none⟩ = some (.slice (some ⟨b, off, none⟩) e.slots.length c4) from ⟨(K0.new_ hb).cell 1, (K0.new_ hb).cell 3⟩)
 have HS := hide (fun (w' : World) (hb : Below W.heap.size W w') => show Rd w' P0 ((slAt e n).frm.map (.int .i64)) ∧ Rd w' P1 ((slAt e n).res.reads.flatMap encE) ∧ Rd w' P2 ((slAt e n).res.writes.flatMap encE) from ⟨Rd.new r0.rd hb, Rd.new r1.rd hb, Rd.new r2.rd hb⟩)
 have HL := hide (fun (w' : World) (hb : Below W.heap.size W w') => show w'.cell? ⟨bl, ol + n * 4, none⟩ = some (.int .i64 (acAt e n).kind) ∧ w'.cell? ⟨bl, ol + n * 4 + 1, none⟩ = some (.int .i64 (acAt e n).src) ∧ w'.cell? ⟨bl, ol + n * 4 + 2, none⟩ = some (.int .i64 (acAt e n).dst) ∧ w'.cell? ⟨bl, ol + n * 4 + 3, none⟩ = some (.int .i64 (acAt e n).amt) from ⟨(hb.cell (p := ⟨bl, ol + n * 4, none⟩) hbl).trans l0, (hb.cell (p := ⟨bl, ol + n * 4 + 1, none⟩) hbl).trans l1, (hb.cell (p := ⟨bl, ol + n * 4 + 2, none⟩) hbl).trans l2, (hb.cell (p := ⟨bl, ol + n * 4 + 3, none⟩) hbl).trans l3⟩)
 have hW1 := K0.lt
 obtain ⟨y1, y3⟩ := unhide BX W (Below.refl _ _)
 simp only [engA] at K0 hW ⊢
 clear h hok K0 hla r0 r1 r2 l0 l1 l2 l3
 have HSO := hide hso
 have HA := hide ha
 clear hso ha
 generalize slAt e n = s at *
 generalize acAt e n = a at *
 have i0 : (n : Int) < (e.slots.length : Int) := by omega
 have i1 : (n : Int) < (e.list.length : Int) := by omega
 obtain ⟨g, hg⟩ : ∃ g, g = W.heap.size := ⟨_, rfl⟩
 go_enter Tryz.func163, Tryz.ntmps163
 go_upto_region 1 with fail
 rw [← hW]
 clear hW
 rcases unhide HSO with ⟨h0, ht, hf, hz⟩ | ⟨h0, ht, ⟨v, hv, hres⟩, hfl, hfb⟩
 · have e0 : (s.stage == 0) = true := by simp [h0]
   have e1 : inB s.tries 0 1000 = true := inB_true.2 ht
   have e2 : ((s.frm.length : Int) == 0) = true := by simp [hf]
   have HZ := hide hz
   clear hf hz h0 ht
   go_wp2_with (first | (refine wpList_store_row rfl 141 (.tmp 5) (.tmp 14) rfl W.heap.size (sltV s P0 d0 P1 d1 P2 d2).toArray rfl rfl 141 zS (box_new W 141 zS (sltV s P0 d0 P1 d1 P2 d2).toArray).1 info_slt6 rfl (slt_one6 _ _ _ _ _ _ _) ?_; refine at_world (C := fun W => wpList _ _ _ _ _ W) (F := fun w3 => Blk w3 W.heap.size 141 (sltV s P0 d0 P1 d1 P2 d2).toArray ∧ Below W.heap.size W w3) ⟨(box_new W 141 zS (sltV s P0 d0 P1 d1 P2 d2).toArray).2.1, (box_new W 141 zS (sltV s P0 d0 P1 d1 P2 d2).toArray).2.2⟩ ?_; rintro w3 ⟨k3, b3⟩; rw [← hg] at k3 ⊢; have HG := hide hg; clear hg; clear y1 y3 q0 q1 q2 q3 q4 q5; have hg3 : g < w3.heap.size := k3.lt; obtain ⟨u0, u1, u2, u3, u4, u5⟩ := slt_cells k3; obtain ⟨R0, R1, R2⟩ := unhide HS w3 b3; obtain ⟨y1, y3⟩ := unhide BX w3 b3; obtain ⟨l0, l1, l2, l3⟩ := unhide HL w3 b3; have KS := same_any s.res zEff P1 d1 P2 d2 none 0 none 0 w3 R1 R2 (Rd.nil _ _) (Rd.nil _ _) (by omega) (by omega); rw [decide_eq_true (unhide HZ)] at KS) | (go_at_call 98; refine (in_any _ _ _ _).mono ?_; rintro x w' ⟨rfl, rfl⟩) | (refine KS.mono ?_; rintro x w5 ⟨rfl, b5⟩))
   go_ret
   exact ⟨rfl, bthen hb0 (bthen b3 b5)⟩
 · have e0 : (s.stage == 0) = false := by rcases h0 with h | h <;> simp [h]
   have e1 : inB s.stage 1 2 = true := inB_true.2 (by omega)
   have e2 : inB s.tries 1 1000 = true := inB_true.2 ht
   have e3 : ((s.res.reads.length : Int) != ((actReads a).length : Int)) = false := by simp [hres, runV_reads]
   have e4 : ((s.frm.length : Int) != ((actReads a).length : Int)) = false := by simp [hfl]
   have HFB := hide hfb
   have HRES := hide hres
   have HVO := hide hv
   have HFL := hide hfl
   clear h0 ht hv hres hfl hfb
   go_wp2_with (first | (refine wpList_store_row rfl 141 (.tmp 5) (.tmp 14) rfl W.heap.size (sltV s P0 d0 P1 d1 P2 d2).toArray rfl rfl 141 zS (box_new W 141 zS (sltV s P0 d0 P1 d1 P2 d2).toArray).1 info_slt6 rfl (slt_one6 _ _ _ _ _ _ _) ?_; refine at_world (C := fun W => wpList _ _ _ _ _ W) (F := fun w3 => Blk w3 W.heap.size 141 (sltV s P0 d0 P1 d1 P2 d2).toArray ∧ Below W.heap.size W w3) ⟨(box_new W 141 zS (sltV s P0 d0 P1 d1 P2 d2).toArray).2.1, (box_new W 141 zS (sltV s P0 d0 P1 d1 P2 d2).toArray).2.2⟩ ?_; rintro w3 ⟨k3, b3⟩; rw [← hg] at k3 ⊢; have HG := hide hg; clear hg; clear y1 y3 q0 q1 q2 q3 q4 q5; have hg3 : g < w3.heap.size := k3.lt; obtain ⟨u0, u1, u2, u3, u4, u5⟩ := slt_cells k3; obtain ⟨R0, R1, R2⟩ := unhide HS w3 b3; obtain ⟨y1, y3⟩ := unhide BX w3 b3; obtain ⟨l0, l1, l2, l3⟩ := unhide HL w3 b3) | (go_at_call 98; refine (in_any _ _ _ _).mono ?_; rintro x w' ⟨rfl, rfl⟩) | (refine (reads_any a w3).mono ?_; rintro x w4 ⟨AK, ck, rfl, oK, b4⟩; have k4 := k3.new_ b4; clear u0 u1 u2 u3 u4 u5 y1 y3 l0 l1 l2 l3 R0 R1 R2; obtain ⟨u0, u1, u2, u3, u4, u5⟩ := slt_cells k4; have hg4 := k4.lt))
   clear u0 u1 u2 u3 u4 u5
   have bW4 := bthen b3 b4
   have kz : Blk (w4.alloc (.cells (vA zeroV) 112)) w4.heap.size 112 (vA zeroV) := Blk.new _ _ _
   have bz : Below w4.heap.size w4 (w4.alloc (.cells (vA zeroV) 112)) := (Below.refl _ _).alloc (Nat.le_refl _) _
   rw [vA_zero] at kz bz
   generalize w4.alloc _ = w5 at *
   rw [← vA_zero] at kz
   obtain ⟨g7, hg7⟩ : ∃ q, q = w4.heap.size := ⟨_, rfl⟩
   rw [← hg7] at kz ⊢
   have HG7 := hide hg7
   have hW4 := bW4.size
   have hz5 := kz.lt
   clear hg7
   obtain ⟨hvz, hvr⟩ := redV_ok (unhide HA) (unhide HVO)
   have HVZ := hide hvz
   have HVR := hide hvr
   have HRK := hide (fun (j : Nat) (hj : j < s.res.reads.length) (hj2 : j < (actReads a).length) => show s.res.reads[j].k = (actReads a)[j] ∧ (0 ≤ s.res.reads[j].k ∧ s.res.reads[j].k ≤ 31) ∧ inB s.res.reads[j].v 0 1000000 = true from by
     have h1 : s.res.reads[j] = ⟨(actReads a)[j], atV v (actReads a)[j]⟩ := by
       simp [unhide HRES, runV_reads]
     have h2 := reads_bd (unhide HA) (List.getElem_mem hj2)
     rw [h1]
     refine ⟨rfl, h2, inB_true.2 ?_⟩
     obtain ⟨q, hq⟩ := Int.eq_ofNat_of_zero_le h2.1
     show 0 ≤ atV v (actReads a)[j] ∧ atV v (actReads a)[j] ≤ 1000000
     rw [hq, atV_nat]
     exact (unhide HVO).2 q)
   clear hvz hvr
   have hrl : s.res.reads.length = (actReads a).length := by rw [unhide HRES, runV_reads, List.length_map]
   have hfl : s.frm.length = (actReads a).length := unhide HFL
   have HRL := hide hrl
   have HFL2 := hide hfl
   clear hrl hfl
   go_loopw [70] (fun i wr => ∃ j : Nat, j ≤ s.res.reads.length ∧ i = .int .i64 j ∧ Blk wr g7 112 (vA (setAll zeroV (s.res.reads.take j))) ∧ Chg (fun q => q = g7) w5 wr) (fun i _ => s.res.reads.length - (intOf i).toNat)
   case atStart => exact ⟨0, Nat.zero_le _, rfl, kz, Chg.refl _ _⟩
   case round =>
     clear kz
     obtain ⟨j, hj, rfl, kv, hch⟩ := hrel
     have b4r : Below w4.heap.size w4 wr := bz.trans (hch.below (fun q hq e => by have := unhide HG7; omega) bz.size)
     have bWr := bthen bW4 b4r
     obtain ⟨u0, u1, u2, u3, u4, u5⟩ := slt_cells (k4.new_ b4r)
     have hgr := (k4.new_ b4r).lt
     have h7r := kv.lt
     have h7g : g < g7 := by have := unhide HG7; omega
     by_cases hlt : j < s.res.reads.length
     · have hj2 : j < (actReads a).length := by rw [← unhide HRL]; exact hlt
       have hj3 : j < s.frm.length := by rw [unhide HFL2]; exact hj2
       have j1 : (j : Int) < (s.res.reads.length : Int) := by omega
       have j2 : (j : Int) < ((actReads a).length : Int) := by omega
       have j3 : (j : Int) < (s.frm.length : Int) := by omega
       obtain ⟨R0, R1, R2⟩ := unhide HS wr bWr
       obtain ⟨be, oe, hP1, hbe, c0, c1⟩ := R1.ent hlt
       obtain ⟨bf, of, hP0, hbf, f0⟩ := R0.int hj3
       obtain ⟨bk, ok, hAK, hbk, a0⟩ := (own_rd (own_new oK b4r)).int hj2
       obtain ⟨x1, x2, x3⟩ := unhide HRK j hlt hj2
       have x4 : inB s.frm[j] (-1) ((n : Int) - 1) = true := inB_true.2 (by have := unhide HFB _ (List.getElem_mem hj3); omega)
       have HNS := hide (show setAll zeroV (s.res.reads.take (j + 1)) = (setAll zeroV (s.res.reads.take j)).set s.res.reads[j].k.toNat s.res.reads[j].v by rw [List.take_succ_eq_append_getElem hlt, setAll_snoc]; rfl)
       have hlen : (setAll zeroV (s.res.reads.take j)).length = 32 := (setAll_len _ _).trans (by simp [zeroV])
       rw [← x1] at a0
       clear x1
       generalize setAll zeroV (s.res.reads.take j) = vv at *
       generalize s.res.reads[j] = x at *
       generalize s.frm[j] = fj at *
       obtain ⟨key, val⟩ := x
       simp only at c0 c1 a0 x2 x3 HNS
       obtain ⟨q, rfl⟩ := Int.eq_ofNat_of_zero_le x2.1
       have i2 : (q : Int) < 32 := by omega
       have i3 : q < 32 := by omega
       have hne : g7 ≠ wr.heap.size := by omega
       have hne2 : g ≠ wr.heap.size := by omega
       have kva := kv.alloc (.cells #[.int .i64 (q : Int), .int .i64 val] 79)
       have cv := vA_get kva (show q < vv.length by omega)
       have zv := kva.frozen q
       have HP1 := hide hP1
       have HP0 := hide hP0
       have HAK := hide hAK
       rw [hP1] at u4
       rw [hP0] at u2
       clear hP1 hP0 hAK x2
       rw [unhide HP1, unhide HP0, unhide HAK]
       go_wp2
       go_quiet (first | (go_at_call 98; first | exact quiet_left (in_any _ _ _ _) | exact quiet_add_left (in_any _ _ _ _)) | (go_at_call 111; first | exact quiet_left (isValue_any _ _) | exact quiet_add_left (isValue_any _ _)))
       go_wp2
       go_roundw
       case rel => exact ⟨j + 1, by omega, by go_num, by rw [unhide HNS]; exact vA_set (kva.drewN _) q val, ((hch.alloc _).drewN _).setCell (p := ⟨g7, q, none⟩) (.inl rfl) _⟩
       case measure => simp [intOf]; omega
     · obtain rfl : j = s.res.reads.length := by omega
       rw [List.take_length] at kv
       have HKV := hide (fun (w' : World) (hb : Below wr.heap.size wr w') => kv.new_ hb)
       have HK4 := hide (fun (w' : World) (hb : Below wr.heap.size wr w') => slt_cells ((k4.new_ b4r).new_ hb))
       have HX := hide (fun (w' : World) (hb : Below wr.heap.size wr w') => And.intro (unhide BX w' (bthen bWr hb)) (And.intro (unhide HL w' (bthen bWr hb)) (unhide HS w' (bthen bWr hb))))
       have hvv : (vA (setAll zeroV s.res.reads)).size = 32 := by rw [vA_size]; exact (setAll_len _ _).trans (by simp [zeroV])
       clear kv hch b4r u0 u1 u2 u3 u4 u5 b4 bz b3 k3 k4
 
       have hF : StBL [bV (.pointer (some ⟨w.heap.size, 1, none⟩)), bV (.slice (some ⟨bl, ol, none⟩) e.list.length c2), bV (.int .i64 (n : Int)), bV (.pointer (some ⟨bl, ol + n * 4, none⟩)), bV (.agg #[.int .i64 a.kind, .int .i64 a.src, .int .i64 a.dst, .int .i64 a.amt]), bV (.agg (vA (setAll zeroV s.res.reads))), (fun v w => ∃ A1 c1 A2 c2, v = .agg #[.bool (runV (setAll zeroV s.res.reads) a).done, .slice A1 (runV (setAll zeroV s.res.reads) a).reads.length c1, .slice A2 (runV (setAll zeroV s.res.reads) a).writes.length c2] ∧ Rd w A1 ((runV (setAll zeroV s.res.reads) a).reads.flatMap encE) ∧ Rd w A2 ((runV (setAll zeroV s.res.reads) a).writes.flatMap encE)), bV (.pointer (some ⟨g, 3, none⟩)), bV (.agg #[.bool s.res.done, .slice P1 s.res.reads.length d1, .slice P2 s.res.writes.length d2])] :=
         ⟨sb_V _, sb_V _, sb_V _, sb_V _, sb_V _, sb_V _, fun _ _ _ hb ⟨A1, c1, A2, c2, h0, h1, h2⟩ => ⟨A1, c1, A2, c2, h0, h1.new hb, h2.new hb⟩, sb_V _, sb_V _, trivial⟩
       go_upto_region 15 with fail
       refine wp_region_loc (by kernel_rfl) [(0, some 105), (1, some 106), (2, some 107), (3, some 108), (4, some 109), (5, some 110), (6, some 111), (7, some 112), (8, some 113)] [[], [(0, some 105)], [], [(1, some 106), (2, some 107)], [(3, some 108)], [], [(4, some 109), (5, some 110)], [], [(7, some 112)]] (by kernel_rfl)
         (locB _) (fun a b => Below a.heap.size a b) noR [0, 0, 0, 0, 0, 0, 0, 0, 0] 0 (by kernel_rfl) (fun _ => Below.refl _ _) (fun _ _ _ => bthen) (locB_st hF _) trivial ?_ ?_
       · refine steps_cons ?s0 ( steps_cons ?s1 ( steps_cons ?s2 ( steps_cons ?s3 ( steps_cons ?s4 ( steps_cons ?s5 ( steps_cons ?s6 ( steps_cons ?s7 ( steps_cons ?s8 steps_nil))))))))
         case s0 | s2 | s7 =>
           intro w' m' hE hR
           intro Q hQ
           go_wp2
           exact hQ _ _ _ rfl rfl (Below.refl _ _) trivial
         case s1 =>
           intro w' m' hE hR
           rintro _ rfl Q hQ
           have bb := below_undrew hE
           obtain ⟨⟨y1, y3⟩, -, -⟩ := unhide HX w' bb
           go_wp2
           exact hQ _ _ _ rfl rfl (Below.refl _ _) trivial
         case s3 =>
           intro w' m' hE hR
           rintro _ rfl _ rfl Q hQ
           go_wp2
           exact hQ _ _ _ rfl rfl (Below.refl _ _) trivial
         case s4 =>
           intro w' m' hE hR
           rintro _ rfl Q hQ
           have bb := below_undrew hE
           obtain ⟨-, ⟨l0, l1, l2, l3⟩, -⟩ := unhide HX w' bb
           go_wp2
           exact hQ _ _ _ rfl rfl (Below.refl _ _) trivial
         case s5 =>
           intro w' m' hE hR
           intro Q hQ
           have bb := below_undrew hE
           have kv := unhide HKV w' bb
           go_wp2_with (refine wpList_load_row rfl 112 (.tmp 7) rfl g7 rfl 112 (vA (setAll zeroV s.res.reads)) (0, 0) _ kv Tryz.underlying112 rfl (by rw [hvv]; exact info_vals) ?_)
           exact hQ _ _ _ rfl rfl (Below.refl _ _) trivial
         case s6 =>
           intro w' m' hE hR
           rintro _ rfl _ rfl Q hQ
           go_wp2_with fail
           refine (run_any a (setAll zeroV s.res.reads) _ (unhide HA) (by rw [unhide HRES]; exact unhide HVZ)).mono ?_
           rintro x w5 ⟨X1, z1, X2, z2, rfl, heff, b5⟩
           obtain ⟨r1, r2⟩ := effR_rd heff
           go_wp2
           exact hQ _ _ _ rfl ⟨X1, z1, X2, z2, rfl, r1, r2⟩ b5 trivial
         case s8 =>
           intro w' m' hE hR
           rintro _ rfl Q hQ
           have bb := below_undrew hE
           obtain ⟨u0, u1, u2, u3, u4, u5⟩ := unhide HK4 w' bb
           go_wp2
           exact hQ _ _ _ rfl rfl (Below.refl _ _) trivial
       intro w9 hE _
       rintro v0 - v1 - v2 - v3 - v4 - v5 - v6 ⟨X1, z1, X2, z2, rfl, r1, r2⟩ v7 - v8 hv8
       obtain rfl : v8 = _ := hv8
       change wpList _ _ _ [_, _] _ _
       simp only [Act.put, List.setIfInBounds_toArray, List.set_cons_succ, List.set_cons_zero]
       have b9 := below_undrew hE
       clear hE hF
       obtain ⟨-, -, R0, R1, R2⟩ := unhide HX w9 b9
       go_wp2_with fail
       refine (same_any (runV (setAll zeroV s.res.reads) a) s.res X1 z1 X2 z2 P1 d1 P2 d2 w9 r1 r2 R1 R2 (by have := (runV_len (setAll zeroV s.res.reads) a).1; omega) (by have := (runV_len (setAll zeroV s.res.reads) a).2; omega)).mono ?_
       rintro x w10 ⟨rfl, b10⟩
       rw [decide_eq_true (show runV (setAll zeroV s.res.reads) a = s.res by rw [unhide HRES]; exact unhide HVR)]
       go_wp2
       go_ret
       exact ⟨rfl, bthen hb0 (bthen bWr (bthen b9 b10))⟩
end Go.Proofs.YtihlhejencninaaGreat
