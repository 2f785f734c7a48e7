/- Serial runs of the reference: RunSerial. -/
import Derived.Test.YtihlhejencninaaGreatRunSpec
namespace Go.Proofs.YtihlhejencninaaGreat
open Go.RowKit
set_option linter.unusedVariables false
set_option linter.unusedSimpArgs false
attribute [local go_sem ↓] Go.wp_at_zero Go.wp_at_succ

theorem actWrites_sorted (a : Act) : (∃ x, actWrites a = [x]) ∨ ∃ x y, actWrites a = [x, y] ∧ x < y := by
 unfold actWrites
 split
 · exact .inl ⟨_, rfl⟩
 · split
   · exact .inl ⟨_, rfl⟩
   · exact .inr ⟨_, _, rfl, by omega⟩
theorem runV_diffB {v : List Int} {a : Act} (hv : valOk v) (ha : actB a = true) : diffB (runV v a).writes = true := by
 have hb := runV_writes hv ha
 show evOk 0 (-1) _ = true
 cases hdn : actDone a (atV v a.src) (atV v a.dst)
 · rw [runV_no hdn]; rfl
 · rw [runV_yes hdn] at hb ⊢
   rcases actWrites_sorted a with ⟨x, hx⟩ | ⟨x, y, hx, hlt⟩
   · rw [hx] at hb ⊢
     have h1 := hb _ (by simp [List.map_cons]; rfl)
     exact evOk_mk (by have := h1.1.1; simp only at this ⊢; omega) h1.1.2 h1.2.1 h1.2.2 rfl
   · rw [hx] at hb ⊢
     have h1 := hb ⟨x, _⟩ (by simp [List.map_cons]; exact .inl rfl)
     have h2 := hb ⟨y, _⟩ (by simp [List.map_cons]; exact .inr rfl)
     exact evOk_mk (by have := h1.1.1; simp only at this ⊢; omega) h1.1.2 h1.2.1 h1.2.2 (evOk_mk hlt h2.1.2 h2.2.1 h2.2.2 rfl)
set_option maxRecDepth 100000 in
set_option maxHeartbeats 4000000 in
theorem runSerial_own (A : Option Addr) (ca : Nat) (s : List Ent) (B : Option Addr) (cb : Nat) (al : List Act) (w : World) (ha : Rd w A (s.flatMap encE)) (hla : s.length ≤ 4611686018427387904) (hb : Rd w B (al.flatMap encA)) (hlb : al.length ≤ 4611686018427387904) :
   Calls Tryz.prog 146 #[.slice A s.length ca, .slice B al.length cb] w fun e w' => ∃ A1 c1 A2 c2 fp, e = .returned (.tuple #[.slice A1 (serialS s al).length c1, .slice A2 (serialE s al).length c2]) ∧ w'.ownsRow w.heap.size 79 2 (.slice A1 (serialS s al).length c1) (serialS s al).length ((serialS s al).flatMap encE) ∧ OwnD effO 107 3 w' A2 c2 (serialE s al) fp ∧ (∀ k ∈ fp, w.heap.size ≤ k) ∧ Below w.heap.size w w' := by
 have hb0 : Below w.heap.size w (w.alloc (.cells #[] 107)) := (Below.refl _ _).alloc (Nat.le_refl _) _
 have o0 := own_made (base := w.heap.size) (e := 107) (size := 3) w #[] 0 (Nat.le_refl _) (by simp [maxLen]) rfl
 cases hsa : storeB s
 · have HL := hide (show serialS s al = [] by simp [serialS, hsa])
   have HM := hide (show serialE s al = [] by simp [serialE, hsa])
   go_enter Tryz.func146, Tryz.ntmps146
   go_wp2_with fail
   refine (storeB_store_spec A ca s _ (ha.new hb0) hla).mono ?_
   rintro e w1 ⟨rfl, m1, rfl⟩
   rw [hsa]
   have hb1 := below_drewN hb0 m1
   replace o0 := own_drewN o0 m1
   generalize (w.alloc (.cells #[] 107)).drewN m1 = w2 at *
   go_wp2
   go_ret2
   rw [unhide HL, unhide HM]
   exact ⟨_, _, _, _, _, rfl, own_made (base := w.heap.size) w2 #[] 0 hb1.size (by simp [maxLen]) rfl, ⟨[], [], trivial, own_base0 (own_alloc o0 _), rfl, by simp [blk]⟩, by simp [blk], hb1.alloc hb1.size _⟩
 cases hab : actsB al
 · have HL := hide (show serialS s al = [] by simp [serialS, hab])
   have HM := hide (show serialE s al = [] by simp [serialE, hab])
   go_enter Tryz.func146, Tryz.ntmps146
   go_wp2_with fail
   refine (storeB_store_spec A ca s _ (ha.new hb0) hla).mono ?_
   rintro e w1 ⟨rfl, m1, rfl⟩
   rw [hsa]
   have hb1 := below_drewN hb0 m1
   replace o0 := own_drewN o0 m1
   generalize (w.alloc (.cells #[] 107)).drewN m1 = w2 at *
   go_wp2_with fail
   refine (actionsValid_spec B cb al w2 (hb.new hb1) hlb).mono ?_
   rintro e w3 ⟨rfl, b3⟩
   rw [hab]
   replace hb1 := bthen hb1 b3
   replace o0 := own_new o0 b3
   go_wp2
   go_ret2
   rw [unhide HL, unhide HM]
   exact ⟨_, _, _, _, _, rfl, own_made (base := w.heap.size) w3 #[] 0 hb1.size (by simp [maxLen]) rfl, ⟨[], [], trivial, own_base0 (own_alloc o0 _), rfl, by simp [blk]⟩, by simp [blk], hb1.alloc hb1.size _⟩
 have HL := hide (show serialS s al = storeL (runAllV (valsL s) al) by unfold serialS; rw [if_pos ⟨hsa, hab⟩])
 have HM := hide (show serialE s al = runAllE (valsL s) al by unfold serialE; rw [if_pos ⟨hsa, hab⟩])
 have HSA := hide hsa
 have hal := (actsB_yes hab).1
 have HA := hide (acts_all hab)
 have hsl := store_len hsa
 have HV0 := hide (show storeB s = true ∧ valsL s = runAllV (valsL s) [] from ⟨hsa, rfl⟩)
 go_enter Tryz.func146, Tryz.ntmps146
 go_wp2_with fail
 refine (storeB_store_spec A ca s _ (ha.new hb0) hla).mono ?_
 rintro e w1 ⟨rfl, m1, rfl⟩
 rw [hsa]
 have hb1 := below_drewN hb0 m1
 replace o0 := own_drewN o0 m1
 generalize (w.alloc (.cells #[] 107)).drewN m1 = w2 at *
 go_wp2_with fail
 refine (actionsValid_spec B cb al w2 (hb.new hb1) hlb).mono ?_
 rintro e w3 ⟨rfl, b3⟩
 rw [hab]
 replace o0 := own_new o0 b3
 replace hb1 := bthen hb1 b3
 clear hsa hab b3 hb0
 have ha3 := ha.new hb1
 have o2 := own_made (base := w3.heap.size) (e := 79) (size := 2) w3 #[] 0 (Nat.le_refl _) (by simp [maxLen]) rfl
 have hb1s := hb1.size
 go_wp2_with (at_builtin; refine wpList_app rfl (.tmp 21) (.tmp 22) 34 rfl el_ent rfl o2 rfl (ha3.alloc _) (length_flat encE 2 encE_len s) (one_ents s) (by simp only [maxLen]; omega) (by omega) (by simp) ?_; intro A3 c3 w4 o3 ch3 _ _)
 have hb34 : Below w3.heap.size w3 w4 := ((Below.refl _ _).alloc (Nat.le_refl _) _).trans (ch3.below (fun q hq e => by injection e with e; injection e with e; omega) (by simp))
 rw [show (0 : Nat) + s.length = s.length by omega] at o3
 have o4 : w4.ownsRow w.heap.size 79 2 (.slice A3 s.length c3) s.length (s.flatMap encE) := own_base o3 hb1s
 replace o0 := own_new o0 hb34
 have hB4 := bthen hb1 hb34
 clear o3 ch3 o2 ha3 hb34 hb1 hb1s ha
 generalize hv : valsL s = v at *
 have HVV := hide hv
 clear hv
 go_loopw [6, 7, 8, 9] (fun ef cs i _ wr => ∃ (k : Nat) (A' : Option Addr) (c' : Nat) (vs : List (List Value)) (fs : List (List Nat)) (cur : List Ent) (A5 : Option Addr) (c5 : Nat), k ≤ al.length ∧ i = .int .i64 k ∧ ef = .slice A' k c' ∧ cs = .slice A5 cur.length c5 ∧ Hid (storeB cur = true ∧ valsL cur = runAllV v (al.take k)) ∧ AllO effO wr (runAllE v (al.take k)) vs fs ∧ fs.flatten.Nodup ∧ Hid (∀ q ∈ fs.flatten, w.heap.size ≤ q ∧ A' ≠ some ⟨q, 0, none⟩) ∧ wr.ownsRow w.heap.size 107 3 (.slice A' k c') k vs.flatten ∧ wr.ownsRow w.heap.size 79 2 (.slice A5 cur.length c5) cur.length (cur.flatMap encE) ∧ Below w.heap.size w wr) (fun _ _ i _ _ => al.length - (intOf i).toNat)
 case atStart => exact ⟨0, _, 0, [], [], s, A3, c3, Nat.zero_le _, rfl, rfl, rfl, hide ⟨(unhide HV0).1, by rw [unhide HVV]; rfl⟩, trivial, by simp, hide (by simp), o0, o4, hB4⟩
 case round =>
   obtain ⟨k, A', c', vs, fs, cur, A5, c5, hk, rfl, rfl, rfl, HC, hall, hnd, HF, hown, hcur, hB⟩ := hrel
   have hcl := store_len (unhide HC).1
   by_cases hlt : k < al.length
   · obtain ⟨b, off, rfl, hbb, d0, d1, d2, d3⟩ := (hb.new hB).act hlt
     have hact := unhide HA al[k] (List.getElem_mem hlt)
     have HT := hide (List.take_succ_eq_append_getElem hlt)
     have HEB := hide (runV_diffB (valOk_vals (show evOk 1 (-1) cur = true from (unhide HC).1) (by omega)) hact)
     generalize al[k] = a at *
     have HACT := hide hact
     clear hact
     have i1 : (k : Int) < (al.length : Int) := by omega
     go_wp2_with fail
     refine (runAction_spec A5 c5 cur a wr (own_rd hcur) (by omega) (unhide HC).1 (unhide HACT)).mono ?_
     rintro e w3 ⟨A1, c1, A2, c2, rfl, or, ow, hap, b3⟩
     have hrx := own_rd ow
     have HQ := hide (show ∀ q ∈ blk A1 ++ blk A2, wr.heap.size ≤ q ∧ q < w3.heap.size from fun q hq => by
       rcases List.mem_append.1 hq with hq | hq
       · exact (blk_own or hq).2
       · exact (blk_own ow hq).2)
     have HN12 := hide (show (blk A1 ++ blk A2).Nodup by
       rw [List.nodup_append]
       exact ⟨blk_nodup _, blk_nodup _, fun x hx y hy e => hap x (blk_own or hx).1 (e ▸ (blk_own ow hy).1)⟩)
     have HFL := hide (hall.lt effO_good)
     have hx3 : effO (runV (valsL cur) a) w3 (effV (runV (valsL cur) a) A1 c1 A2 c2) (blk A1 ++ blk A2) := ⟨A1, c1, A2, c2, rfl, own_base0 or, own_base0 ow, rfl⟩
     have hall3 := (hall.keep effO_good fun q _ hq => b3.block q hq).append (AllO.one hx3)
     have o3 := own_new hown b3
     have hrg := own_rng hown
     have hcu3 := own_new hcur b3
     have hB3 := bthen hB b3
     have hs3 := b3.size
     have hBs := hB.size
     clear or ow hap hx3 hall hown hcur b3 d0 d1 d2 d3
     have hwl := (runV_len (valsL cur) a).2
     have HSN := hide (runAllV_snoc v (al.take k) a)
     have HSE := hide (runAllE_snoc v (al.take k) a)
     generalize hxe : runV (valsL cur) a = x at *
     have HXE := hide hxe
     clear hxe
     have kx := Blk.new w3 107 #[.bool x.done, .slice A1 x.reads.length c1, .slice A2 x.writes.length c2]
     have hbx : Below w3.heap.size w3 (w3.alloc (.cells #[.bool x.done, .slice A1 x.reads.length c1, .slice A2 x.writes.length c2] 107)) := (Below.refl _ _).alloc (Nat.le_refl _) _
     go_wp2_with fail
     refine (applyEffect_spec A5 c5 cur x A1 c1 A2 c2 _ ((own_rd hcu3).new hbx) (hrx.new hbx) (by omega) (by omega)).mono ?_
     rintro e w5 ⟨A6, c6, rfl, o6, b6⟩
     have hb35 := bthen hbx b6
     have kx5 := kx.new_ b6
     have z0 : w5.cell? ⟨w3.heap.size, 0, none⟩ = some (.bool x.done) := kx5.cell 0
     have z1 : w5.cell? ⟨w3.heap.size, 1, none⟩ = some (.slice A1 x.reads.length c1) := kx5.cell 1
     have z2 : w5.cell? ⟨w3.heap.size, 2, none⟩ = some (.slice A2 x.writes.length c2) := kx5.cell 2
     have hall5 := hall3.keep effO_good fun q _ hq => hb35.block q hq
     have o5 := own_new o3 hb35
     have hB5 := bthen hB3 hb35
     have hr6 := own_rng o6
     have hs5 := hb35.size
     have HST := hide (applyL_storeB (unhide HC).1 (unhide HEB))
     have HVL := hide (show valsL (applyL cur x.writes) = setAll (valsL cur) x.writes by
       unfold applyL
       rw [if_pos ⟨(unhide HC).1, unhide HEB⟩]
       exact (putAll_ok (unhide HC).1 (show evOk 0 (-1) x.writes = true from unhide HEB) (by omega) (by omega)).2)
     generalize applyL cur x.writes = nxt at *
     clear kx kx5 b6 hbx hall3 o3 hcu3 hrx
     go_wp2_with (at_builtin; refine wpList_app rfl (.tmp 39) (.tmp 41) 57 rfl el_eff rfl (own_alloc o5 _) rfl (rd_lit w5 (effV x A1 c1 A2 c2) _) rfl (one_effs x A1 c1 A2 c2) (by simp only [maxLen]; omega) (by omega) (by simp; omega) ?_; intro A7 c7 w7 o7 ch7 d7 _)
     have HAP := hide (show ∀ q ∈ (fs ++ [blk A1 ++ blk A2]).flatten, w.heap.size ≤ q ∧ q < w3.heap.size ∧ A' ≠ some ⟨q, 0, none⟩ from fun q hq => by
       rw [List.flatten_append] at hq
       rcases List.mem_append.1 hq with hq | hq
       · have h1 := unhide HF q hq
         have h2 := unhide HFL q hq
         exact ⟨h1.1, by omega, h1.2⟩
       · have h1 := unhide HQ q (by simpa using hq)
         exact ⟨by omega, h1.2, fun e => by have := hrg q e; omega⟩)
     have hall7 := hall5.keep effO_good (w' := w7) (fun q hq hqw => by
       have h1 := unhide HAP q hq
       rw [ch7.block q (by simp; omega) h1.2.2]
       exact Below.heap_alloc _ _ _ hqw)
     have HF7 := hide (show ∀ q ∈ (fs ++ [blk A1 ++ blk A2]).flatten, w.heap.size ≤ q ∧ A7 ≠ some ⟨q, 0, none⟩ from fun q hq => by
       have h1 := unhide HAP q hq
       refine ⟨h1.1, fun e => ?_⟩
       rcases d7 with rfl | ⟨rfl, _⟩
       · exact h1.2.2 e
       · injection e with e; injection e with e; simp at e; omega)
     have hnd7 : (fs ++ [blk A1 ++ blk A2]).flatten.Nodup := by
       rw [List.flatten_append]
       refine fresh_nodup (m := wr.heap.size) hnd (by simpa using unhide HN12) (fun q hq => unhide HFL q hq) (fun q hq => (unhide HQ q (by simpa using hq)).1)
     have o7' : w7.ownsRow w.heap.size 107 3 (.slice A7 (k + 1) c7) (k + 1) (vs ++ [effV x A1 c1 A2 c2]).flatten := by simpa using o7
     have hcu7 := own_base (own_chg (own_alloc o6 _) ch7 (fun g hA e => by have := hr6 g hA; have := hrg g e; simp at *; omega)) (base' := w.heap.size) (by simp; omega)
     have hB7 : Below w.heap.size w w7 := (hB5.alloc hB5.size _).trans (ch7.below (fun q hq e => by have := hrg q e; omega) (by have := hB5.size; simp; omega))
     have HCN := hide (show storeB nxt = true ∧ valsL nxt = runAllV v (al.take (k + 1)) from ⟨unhide HST, by rw [unhide HVL, unhide HT, unhide HSN, ← (unhide HC).2, unhide HXE]⟩)
     have HEN := hide (show runAllE v (al.take (k + 1)) = runAllE v (al.take k) ++ [x] by rw [unhide HT, unhide HSE, ← (unhide HC).2, unhide HXE])
     go_roundw
     case rel => exact ⟨k + 1, A7, c7, _, _, nxt, A6, c6, by omega, by go_num, rfl, rfl, HCN, by rw [unhide HEN]; exact hall7, hnd7, HF7, o7', hcu7, hB7⟩
     case measure => simp [intOf]; omega
   · obtain rfl : k = al.length := by omega
     have hcp := own_cap hown
     have hel := runAllE_len v al
     rw [List.take_length] at hall HC
     have HE := hide (show cur = storeL (runAllV v al) by rw [← (unhide HC).2, store_vals (unhide HC).1])
     have HEL := hide hel
     clear hel
     go_wp2
     go_ret2
     rw [unhide HL, unhide HM, ← unhide HE]
     have hrg := own_rng hown
     refine ⟨A5, c5, A', c', blk A' ++ fs.flatten, ?_, hcur, ⟨vs, fs, hall, ?_, rfl, ?_⟩, ?_, hB⟩
     · rw [unhide HEL]; rfl
     · rw [unhide HEL]; exact own_base0 hown
     · rw [List.nodup_append]
       exact ⟨blk_nodup _, hnd, fun x hx y hy e => (unhide HF y hy).2 (e ▸ (blk_own hown hx).1)⟩
     · intro q hq
       rcases List.mem_append.1 hq with hq | hq
       · exact (blk_own hown hq).2.1
       · exact (unhide HF q hq).1
theorem runSerial_spec (A : Option Addr) (ca : Nat) (s : List Ent) (B : Option Addr) (cb : Nat) (al : List Act) (w : World) (ha : Rd w A (s.flatMap encE)) (hla : s.length ≤ 4611686018427387904) (hb : Rd w B (al.flatMap encA)) (hlb : al.length ≤ 4611686018427387904) :
   Calls Tryz.prog 146 #[.slice A s.length ca, .slice B al.length cb] w fun e w' => ∃ A1 c1 A2 c2, e = .returned (.tuple #[.slice A1 (serialS s al).length c1, .slice A2 (serialE s al).length c2]) ∧ w'.ownsRow w.heap.size 79 2 (.slice A1 (serialS s al).length c1) (serialS s al).length ((serialS s al).flatMap encE) ∧ ((serialE s al).length ≤ c2 ∧ c2 ≤ maxLen) ∧ RdD effR (fun k => w.heap.size ≤ k) w' A2 (serialE s al) ∧ Below w.heap.size w w' :=
 (runSerial_own A ca s B cb al w ha hla hb hlb).mono fun e w' ⟨A1, c1, A2, c2, fp, h1, h2, h3, h4, h5⟩ => ⟨A1, c1, A2, c2, h1, h2, h3.cap, h3.rd effO_good eff_good h4, h5⟩
end Go.Proofs.YtihlhejencninaaGreat
