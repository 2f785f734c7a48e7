/- What comes of an engine, of the program (printed by gen_in.py from xengres.in). -/
import Derived.Test.YtihlhejencninaaGreatEClone
import Derived.Test.YtihlhejencninaaGreatEngT
import Derived.Test.YtihlhejencninaaGreatLastV
namespace Go.Proofs.YtihlhejencninaaGreat
open Go.RowKit
set_option linter.unusedVariables false
set_option linter.unusedSimpArgs false

theorem two_nodup {A B : Option Addr} {w : World} {b1 b2 : Nat} {t1 t2 : TypeId} {s1 s2 n m c d : Nat} {xs ys : List Value} (h1 : w.ownsRow b1 t1 s1 (.slice A n c) n xs) (h2 : w.ownsRow b2 t2 s2 (.slice B m d) m ys) (h : ∀ q, A = some ⟨q, 0, none⟩ → B ≠ some ⟨q, 0, none⟩) : (blk A ++ blk B).Nodup := by
 rw [List.nodup_append]
 exact ⟨blk_nodup _, blk_nodup _, fun x hx y hy e => h x (blk_own h1 hx).1 (by rw [e]; exact (blk_own h2 hy).1)⟩
theorem EngOk.bd10 {e : Eng} (h : EngOk e) : ∀ x ∈ e.vers, (0 ≤ x.k ∧ x.k ≤ 31) ∧ (0 ≤ x.n ∧ x.n ≤ 9) ∧ 0 ≤ x.v ∧ x.v ≤ 1000000 := fun x hx => by
 have := h.bd hx
 have := h.len10
 omega
set_option maxRecDepth 100000 in
set_option maxHeartbeats 4000000 in
theorem engineResult_impl (e : Eng) (A1 : Option Addr) (c1 : Nat) (A2 : Option Addr) (c2 : Nat) (A3 : Option Addr) (c3 : Nat) (A4 : Option Addr) (c4 : Nat) (w : World) (h : EngRd w e A1 A2 A3 A4) (hok : EngOk e) (hall : ∀ x ∈ e.slots, x.stage = 2) :
   Calls Tryz.prog 75 #[.agg (engA e A1 c1 A2 c2 A3 c3 A4 c4)] w fun x w' => ∃ A c B d fp, x = .returned (.tuple #[.slice A (storeL (nowV e.base e.vers 10)).length c, .slice B e.slots.length d, .bool true]) ∧ w'.ownsRow w.heap.size 79 2 (.slice A (storeL (nowV e.base e.vers 10)).length c) (storeL (nowV e.base e.vers 10)).length ((storeL (nowV e.base e.vers 10)).flatMap encE) ∧ OwnD effO 107 3 w' B d (e.slots.map (·.res)) fp ∧ (∀ k ∈ fp, w.heap.size ≤ k) ∧ (∀ q, A = some ⟨q, 0, none⟩ → q ∉ fp) ∧ Below w.heap.size w w' := by
 have hn10 := hok.len10
 have hvl := hok.vlen
 have HSL := hide (fun (n : Nat) (hn : n < e.slots.length) => slot_len (hok.slot n hn))
 have HOK := hide hok
 obtain ⟨W, hW⟩ : ∃ W : World, W = w.alloc (.cells (engA e A1 c1 A2 c2 A3 c3 A4 c4) 96) := ⟨_, rfl⟩
 have hb0 : Below w.heap.size w W := by rw [hW]; exact (Below.refl _ _).alloc (Nat.le_refl _) _
 have K0 : Blk W w.heap.size 96 (engA e A1 c1 A2 c2 A3 c3 A4 c4) := by rw [hW]; exact Blk.new _ _ _
 have hW1 := K0.lt
 have KD := engineDone_impl e A1 c1 A2 c2 A3 c3 A4 c4 W (h.new hb0) hok hall
 have HK0 := hide (fun (w' : World) (hb : Below W.heap.size W w') => K0.new_ hb)
 have HR := hide (fun (w' : World) (hb : Below W.heap.size W w') => h.new (bthen hb0 hb))
 simp only [engA] at hW KD HK0 ⊢
 obtain ⟨y0, y1, y2, y3⟩ : W.cell? ⟨w.heap.size, 0, none⟩ = some (.slice A1 e.base.length c1) ∧ W.cell? ⟨w.heap.size, 1, none⟩ = some (.slice A2 e.list.length c2) ∧ W.cell? ⟨w.heap.size, 2, none⟩ = some (.slice A3 e.vers.length c3) ∧ W.cell? ⟨w.heap.size, 3, none⟩ = some (.slice A4 e.slots.length c4) := ⟨K0.cell 0, K0.cell 1, K0.cell 2, K0.cell 3⟩
 clear K0 h hok hall
 go_enter Tryz.func75, Tryz.ntmps75
 go_wp2_with fail
 rw [← hW]
 clear hW
 refine KD.mono ?_
 rintro x w3 ⟨rfl, b3⟩
 have k3 := unhide HK0 w3 b3
 clear KD y0 y1 y2 y3
 obtain ⟨y0, y1, y2, y3⟩ : w3.cell? ⟨w.heap.size, 0, none⟩ = some (.slice A1 e.base.length c1) ∧ w3.cell? ⟨w.heap.size, 1, none⟩ = some (.slice A2 e.list.length c2) ∧ w3.cell? ⟨w.heap.size, 2, none⟩ = some (.slice A3 e.vers.length c3) ∧ w3.cell? ⟨w.heap.size, 3, none⟩ = some (.slice A4 e.slots.length c4) := ⟨k3.cell 0, k3.cell 1, k3.cell 2, k3.cell 3⟩
 go_wp2
 clear y0 y1 y2 y3 k3
 go_loopw [5, 14] (fun t i wr => ∃ (k : Nat) (A' : Option Addr) (c' : Nat) (vs : List (List Value)) (fs : List (List Nat)), k ≤ e.slots.length ∧ i = .int .i64 k ∧ t = .slice A' k c' ∧ AllO effO wr ((e.slots.take k).map (·.res)) vs fs ∧ fs.flatten.Nodup ∧ Hid (∀ q ∈ fs.flatten, W.heap.size ≤ q ∧ A' ≠ some ⟨q, 0, none⟩) ∧ wr.ownsRow W.heap.size 107 3 (.slice A' k c') k vs.flatten ∧ Below W.heap.size W wr) (fun _ i _ => e.slots.length - (intOf i).toNat)
 case atStart => exact ⟨0, none, 0, [], [], Nat.zero_le _, rfl, rfl, trivial, by simp, hide (by simp), own_nil _ _ _ _, b3⟩
 case round =>
   clear b3
   obtain ⟨k, A', c', vs, fs, hk, rfl, rfl, hall, hnd, HF, hown, hB⟩ := hrel
   have hwr := hB.size
   by_cases hlt : k < e.slots.length
   · have i1 : (k : Int) < (e.slots.length : Int) := by omega
     obtain ⟨b, off, P0, d0, P1, d1, P2, d2, hA4, -, hbb, ⟨q0, q1, q2, q3, q4, q5⟩, r0, r1, r2⟩ := (unhide HR wr hB).slots.slt hlt
     have hsl := unhide HSL k hlt
     rw [slAt_get e hlt] at hsl
     have HT := hide (show (e.slots.take (k + 1)).map (·.res) = (e.slots.take k).map (·.res) ++ [e.slots[k].res] by rw [List.take_succ_eq_append_getElem hlt, List.map_append]; rfl)
     generalize e.slots[k] = s at *
     have HA4 := hide hA4
     clear hA4 r0
     rw [unhide HA4]
     have bV : Below wr.heap.size wr (wr.alloc (.cells (sltV s P0 d0 P1 d1 P2 d2).toArray 141)) := (Below.refl _ _).alloc (Nat.le_refl _) _
     have KE := effClone_impl s.res P1 d1 P2 d2 _ (r1.rd.new bV) (r2.rd.new bV) (by omega) (by omega)
     simp only [sltV] at KE bV
     go_wp2_with fail
     refine KE.mono ?_
     rintro x w3 ⟨B1, e1, B2, e2, rfl, o1, o2, hap, b3⟩
     clear KE r1 r2
     have b03 := bthen bV b3
     have hs3 := b03.size
     have oq := own_new hown b03
     have HND := hide (two_nodup o1 o2 hap)
     clear hap
     go_wp2_with (at_builtin; refine wpList_app rfl (.tmp 18) (.tmp 22) 57 rfl el_eff rfl (own_alloc oq _) rfl (rd_lit w3 (effV s.res B1 e1 B2 e2) _) rfl (one_effs _ _ _ _ _) (by simp only [maxLen]; omega) (by omega) (by simp; omega) ?_; intro A8 c8 w8 o8 ch8 d8 _)
     have hx : effO s.res w3 (effV s.res B1 e1 B2 e2) (blk B1 ++ blk B2) := ⟨B1, e1, B2, e2, rfl, own_base0 o1, own_base0 o2, rfl⟩
     have hfb : ∀ q ∈ blk B1 ++ blk B2, wr.heap.size ≤ q := fun q hq => by
       rcases List.mem_append.1 hq with hq | hq
       · have := (blk_own o1 hq).2.1; simp at this; omega
       · have := (blk_own o2 hq).2.1; simp at this; omega
     obtain ⟨hall8, hnd8, hF8, hown8⟩ := grow_step effO_good eff_good hall hnd (unhide HF) hown hwr b03 hx (unhide HND) hfb ch8 d8 (by simpa [effV] using o8)
     have hrg := own_rng hown
     have hB8 : Below W.heap.size W w8 := ((bthen hB b03).alloc (by omega) _).trans (ch8.below (fun q hq e => by have := hrg q e; omega) (by simp; omega))
     have HF8 := hide hF8
     go_roundw
     case rel => exact ⟨k + 1, A8, c8, _, _, by omega, by go_num, rfl, by rw [unhide HT]; exact hall8, hnd8, HF8, hown8, hB8⟩
     case measure => simp [intOf]; omega
   · obtain rfl : k = e.slots.length := by omega
     rw [List.take_length] at hall
     have hel : e.slots.length = (e.slots.map (·.res)).length := by rw [List.length_map]
     have hgd := grow_done hall hnd (unhide HF) (by rw [← hel]; exact hown)
     have k3 := unhide HK0 wr hB
     obtain ⟨y0, y2⟩ : wr.cell? ⟨w.heap.size, 0, none⟩ = some (.slice A1 e.base.length c1) ∧ wr.cell? ⟨w.heap.size, 2, none⟩ = some (.slice A3 e.vers.length c3) := ⟨k3.cell 0, k3.cell 2⟩
     have hrd := unhide HR wr hB
     have hOK := unhide HOK
     have HGD := hide hgd
     have KL := lastVersions_impl A1 c1 e.base A3 c3 e.vers wr hrd.base hOK.base hrd.vers (by omega) hOK.srt hOK.bd10
     clear hall hnd hown hgd hel k3 hrd hOK
     go_wp2_with fail
     refine KL.mono ?_
     rintro x w4 ⟨A9, c9, rfl, o9, b9⟩
     have h9 := own_rng o9
     go_wp2
     go_ret3
     refine ⟨A9, c9, A', c', _, rfl, own_base o9 (by omega), (unhide HGD).1.new effO_good b9, fun q hq => by have := (unhide HGD).2 q hq; omega, fun q hq hq2 => ?_, bthen hb0 (bthen hB b9)⟩
     have := (unhide HGD).1.lt effO_good q hq2
     have := h9 q hq
     omega
end Go.Proofs.YtihlhejencninaaGreat
