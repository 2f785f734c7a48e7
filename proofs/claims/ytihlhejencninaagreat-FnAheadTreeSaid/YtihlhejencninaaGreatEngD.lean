/- Engines in memory. -/
import Derived.Test.YtihlhejencninaaGreatVersI
namespace Go.Proofs.YtihlhejencninaaGreat
open Go.RowKit
set_option linter.unusedVariables false
set_option linter.unusedSimpArgs false

def sltV (x : Slt) (A : Option Addr) (c : Nat) (A1 : Option Addr) (c1 : Nat) (A2 : Option Addr) (c2 : Nat) : List Value := [.int .i64 x.stage, .int .i64 x.tries, .slice A x.frm.length c, .bool x.res.done, .slice A1 x.res.reads.length c1, .slice A2 x.res.writes.length c2]
/-- a slot in six cells -/
def sltR : Rel Slt := fun P x w cs => ∃ A c A1 c1 A2 c2, cs = sltV x A c A1 c1 A2 c2 ∧ RdP P w A (x.frm.map (.int .i64)) ∧ RdP P w A1 (x.res.reads.flatMap encE) ∧ RdP P w A2 (x.res.writes.flatMap encE)
theorem slt_good : Good sltR 6 :=
 ⟨fun ⟨_, _, _, _, _, _, h, _⟩ => by rw [h]; rfl, fun ⟨A, c, A1, c1, A2, c2, h0, h1, h2, h3⟩ hPQ => ⟨A, c, A1, c1, A2, c2, h0, h1.mono hPQ, h2.mono hPQ, h3.mono hPQ⟩, fun ⟨A, c, A1, c1, A2, c2, h0, h1, h2, h3⟩ hk => ⟨A, c, A1, c1, A2, c2, h0, h1.keep hk, h2.keep hk, h3.keep hk⟩⟩
theorem RdD.slt {P : Nat → Prop} {w : World} {A : Option Addr} {xs : List Slt} (h : RdD sltR P w A xs) {k : Nat} (hk : k < xs.length) :
   ∃ b off A0 c0 A1 c1 A2 c2, A = some ⟨b, off, none⟩ ∧ P b ∧ b < w.heap.size ∧ (w.cell? ⟨b, off + k * 6, none⟩ = some (.int .i64 xs[k].stage) ∧ w.cell? ⟨b, off + k * 6 + 1, none⟩ = some (.int .i64 xs[k].tries) ∧ w.cell? ⟨b, off + k * 6 + 2, none⟩ = some (.slice A0 xs[k].frm.length c0) ∧ w.cell? ⟨b, off + k * 6 + 3, none⟩ = some (.bool xs[k].res.done) ∧ w.cell? ⟨b, off + k * 6 + 4, none⟩ = some (.slice A1 xs[k].res.reads.length c1) ∧ w.cell? ⟨b, off + k * 6 + 5, none⟩ = some (.slice A2 xs[k].res.writes.length c2)) ∧
     RdP P w A0 (xs[k].frm.map (.int .i64)) ∧ RdP P w A1 (xs[k].res.reads.flatMap encE) ∧ RdP P w A2 (xs[k].res.writes.flatMap encE) := by
 obtain ⟨b, off, cs, hA, hp, hb, ⟨A0, c0, A1, c1, A2, c2, rfl, h1, h2, h3⟩, hc⟩ := h.get slt_good (by omega) hk
 exact ⟨b, off, A0, c0, A1, c1, A2, c2, hA, hp, hb, ⟨hc 0 _ rfl, hc 1 _ rfl, hc 2 _ rfl, hc 3 _ rfl, hc 4 _ rfl, hc 5 _ rfl⟩, h1, h2, h3⟩
theorem info_slt : (Tryz.prog.info? 141).map (fun i => (i.zero, i.size, i.bytes)) = some (some (.agg #[.int .i64 0, .int .i64 0, .slice none 0 0, .bool false, .slice none 0 0, .slice none 0 0]), 6, 96) := by kernel_rfl
theorem el_slt : El Tryz.prog 94 141 6 96 := El.mk_ Tryz.underlying94 info_slt rfl (by omega)
/-- an engine by value -/
def engA (e : Eng) (A1 : Option Addr) (c1 : Nat) (A2 : Option Addr) (c2 : Nat) (A3 : Option Addr) (c3 : Nat) (A4 : Option Addr) (c4 : Nat) : Array Value := #[.slice A1 e.base.length c1, .slice A2 e.list.length c2, .slice A3 e.vers.length c3, .slice A4 e.slots.length c4]
structure EngRd (w : World) (e : Eng) (A1 A2 A3 A4 : Option Addr) : Prop where
 base : Rd w A1 (e.base.flatMap encE)
 list : Rd w A2 (e.list.flatMap encA)
 vers : Rd w A3 (e.vers.flatMap encV)
 slots : RdD sltR (fun _ => True) w A4 e.slots
theorem EngRd.new {w w' : World} {e : Eng} {A1 A2 A3 A4 : Option Addr} (h : EngRd w e A1 A2 A3 A4) (hb : Below w.heap.size w w') : EngRd w' e A1 A2 A3 A4 := ⟨h.base.new hb, h.list.new hb, h.vers.new hb, h.slots.new slt_good hb⟩
theorem slAt_get (e : Eng) {n : Nat} (hn : n < e.slots.length) : slAt e n = e.slots[n] := by unfold slAt; rw [List.getD_eq_getElem?_getD, List.getElem?_eq_getElem hn, Option.getD_some]
theorem acAt_get (e : Eng) {n : Nat} (hn : n < e.list.length) : acAt e n = e.list[n] := by unfold acAt; rw [List.getD_eq_getElem?_getD, List.getElem?_eq_getElem hn, Option.getD_some]
theorem EngOk.vlen {e : Eng} (h : EngOk e) : e.vers.length ≤ 1000 := by
 have h10 := h.len10
 have hb := fun x hx => h.bd (x := x) hx
 -- a sorted list of pairs in 32 x 10
 have key : ∀ (vs : List Ver) (z : Int), srtV vs → (∀ x ∈ vs, z < x.k * 11 + x.n ∧ x.k * 11 + x.n ≤ 900 ∧ 0 ≤ x.n ∧ x.n < 11) → (vs.length : Int) ≤ 900 - z ∨ vs.length = 0 := by
   intro vs
   induction vs with
   | nil => intro z _ _; exact .inr rfl
   | cons x vs ih =>
     intro z hs hx
     obtain ⟨h1, h2⟩ := List.pairwise_cons.1 hs
     have hx0 := hx x (by simp)
     left
     have hy0 : ∀ y ∈ vs, x.k * 11 + x.n < y.k * 11 + y.n ∧ y.k * 11 + y.n ≤ 900 ∧ 0 ≤ y.n ∧ y.n < 11 := fun y hy => by
       have a1 := h1 y hy
       have a2 := hx y (by simp [hy])
       unfold ltV at a1
       omega
     rcases ih (x.k * 11 + x.n) h2 hy0 with g | g
     · rw [List.length_cons]; omega
     · rw [List.length_cons, g]; omega
 rcases key e.vers (-1) h.srt fun x hx => by have := hb x hx; omega with g | g <;> omega
theorem EngOk.base_len {e : Eng} (h : EngOk e) : e.base.length ≤ 32 := store_len h.base
theorem EngOk.base_key {e : Eng} (h : EngOk e) : ∀ x ∈ e.base, 0 ≤ x.k ∧ x.k ≤ 31 := store_keys h.base
theorem EngOk.vals {e : Eng} (h : EngOk e) : valOk (valsL e.base) := valOk_vals (storeB_def _ ▸ h.base) (by omega)
theorem slot_len {a : Act} {n : Nat} {s : Slt} (h : sltOk a n s) : s.frm.length ≤ 2 ∧ s.res.reads.length ≤ 2 ∧ s.res.writes.length ≤ 2 := by
 rcases h with ⟨_, _, h1, h2⟩ | ⟨_, _, ⟨v, _, h2⟩, h3, _⟩
 · rw [h1, h2]; simp [zEff]
 · rw [h2, h3]
   exact ⟨actReads_len a, runV_len v a⟩
/-- the values that the program's now gives: those of the keys read so far are set -/
def nowI (s : List Ent) (vs : List Ver) (n : Int) (ks : List Int) : List Int := ks.foldl (fun v k => v.set k.toNat (readV s vs k n).1) (valsL s)
theorem nowI_snoc (s : List Ent) (vs : List Ver) (n : Int) (ks : List Int) (k : Int) : nowI s vs n (ks ++ [k]) = (nowI s vs n ks).set k.toNat (readV s vs k n).1 := by simp [nowI]
theorem nowI_len (s : List Ent) (vs : List Ver) (n : Int) (ks : List Int) : (nowI s vs n ks).length = 32 := by
 have : ∀ (l : List Int) (v : List Int), (l.foldl (fun v k => v.set k.toNat (readV s vs k n).1) v).length = v.length := by
   intro l
   induction l with
   | nil => intro v; rfl
   | cons k l ih => intro v; rw [List.foldl_cons, ih, List.length_set]
 rw [nowI, this, valsL_len]
theorem nowI_fold (s : List Ent) (vs : List Ver) (n : Int) : ∀ (ks : List Int), (∀ k ∈ ks, 0 ≤ k ∧ k ≤ 31) → ∀ (v : List Int), v.length = 32 → ∀ k : Int, 0 ≤ k ∧ k ≤ 31 → atV (ks.foldl (fun v k => v.set k.toNat (readV s vs k n).1) v) k = if k ∈ ks then (readV s vs k n).1 else atV v k
 | [], _, v, _, k, _ => by simp
 | x :: ks, h, v, hv, k, hk => by
   have hx := h x (by simp)
   rw [List.foldl_cons, nowI_fold s vs n ks (fun y hy => h y (by simp [hy])) _ (by rw [List.length_set]; exact hv) k hk]
   by_cases hm : k ∈ ks
   · rw [if_pos hm, if_pos (by simp [hm])]
   · rw [if_neg hm]
     unfold atV
     by_cases hkx : k = x
     · subst hkx
       rw [if_pos (by simp), List.getD_eq_getElem?_getD, List.getElem?_set_self (by omega), Option.getD_some]
     · rw [if_neg (by simp [hkx, hm]), List.getD_eq_getElem?_getD, List.getElem?_set_ne (by omega), ← List.getD_eq_getElem?_getD]
theorem nowI_at (s : List Ent) (vs : List Ver) (n : Int) {ks : List Int} (h : ∀ k ∈ ks, 0 ≤ k ∧ k ≤ 31) {k : Int} (hk : k ∈ ks) : atV (nowI s vs n ks) k = (readV s vs k n).1 := by
 rw [nowI, nowI_fold s vs n ks h _ (valsL_len s) k (h k hk), if_pos hk]
theorem nowI_ok {e : Eng} (h : EngOk e) (n : Int) : ∀ {ks : List Int}, (∀ k ∈ ks, 0 ≤ k ∧ k ≤ 31) → valOk (nowI e.base e.vers n ks) := by
 intro ks hks
 refine ⟨nowI_len _ _ _ _, fun k => ?_⟩
 by_cases hk : k < 32
 · have := nowI_fold e.base e.vers n ks hks _ (valsL_len e.base) (k : Int) (by omega)
   rw [atV_nat] at this
   rw [nowI, this]
   split
   · exact (h.read (by omega) n).1
   · rw [atV_nat]; exact h.vals.2 k
 · rw [List.getD_eq_getElem?_getD, List.getElem?_eq_none (by rw [nowI_len]; omega)]
   simp
/-- the program's trial is the reference's -/
theorem run_now {e : Eng} (h : EngOk e) {n : Nat} (hn : n < e.slots.length) : runV (nowI e.base e.vers n (actReads (acAt e n))) (acAt e n) = effN e n := by
 have ha := h.act hn
 refine runV_congr ha fun k hk => ?_
 rw [nowI_at _ _ _ (fun k hk => reads_bd ha hk) hk, nowV_at _ _ _ (reads_bd ha hk)]
set_option maxRecDepth 100000 in
set_option maxHeartbeats 4000000 in
theorem now_impl (e : Eng) (A1 : Option Addr) (c1 : Nat) (A2 : Option Addr) (c2 : Nat) (A3 : Option Addr) (c3 : Nat) (A4 : Option Addr) (c4 : Nat) (n : Nat) (w : World) (h : EngRd w e A1 A2 A3 A4) (hok : EngOk e) (hn : n < e.slots.length) :
   Calls Tryz.prog 168 #[.agg (engA e A1 c1 A2 c2 A3 c3 A4 c4), .int .i64 (n : Int)] w fun x w' => ∃ A' c', x = .returned (.tuple #[.agg (vA (nowI e.base e.vers n (actReads (acAt e n)))), .slice A' (whoL e.base e.vers n (acAt e n)).length c']) ∧ w'.ownsRow w.heap.size 3 1 (.slice A' (whoL e.base e.vers n (acAt e n)).length c') (whoL e.base e.vers n (acAt e n)).length ((whoL e.base e.vers n (acAt e n)).map (.int .i64)) ∧ Below w.heap.size w w' := by
 have HOK := hide hok
 have hb1 := hok.base_len
 have HKB := hide hok.base_key
 have hvl := hok.vlen
 have hnl : n < e.list.length := by have := hok.len; omega
 have HRB := hide (fun k (hk : k ∈ actReads (acAt e n)) => reads_bd (hok.act hn) hk)
 have HRS := hide (fun (k : Int) => (show atV (valsL e.base) k = atL e.base k ∨ ¬ (0 ≤ k ∧ k ≤ 31) from by
   by_cases hk : 0 ≤ k ∧ k ≤ 31
   · exact .inl (by obtain ⟨q, rfl⟩ := Int.eq_ofNat_of_zero_le hk.1; rw [atV_nat]; exact store_get hok.base q (by omega))
   · exact .inr hk))
 clear hok
 have hla : acAt e n = e.list[n] := acAt_get e hnl
 have hrl := actReads_len (acAt e n)
 have HR := hide (fun w' (hb : Below w.heap.size w w') => h.new hb)
 obtain ⟨W, hW⟩ : ∃ W : World, W = (w.alloc (.cells (engA e A1 c1 A2 c2 A3 c3 A4 c4) 96)).alloc (.cells zA 112) := ⟨_, rfl⟩
 have hb0 : Below w.heap.size w W := by rw [hW]; exact ((Below.refl _ _).alloc (Nat.le_refl _) _).alloc (by simp) _
 have K0 : Blk W w.heap.size 96 (engA e A1 c1 A2 c2 A3 c3 A4 c4) := by rw [hW]; exact (Blk.new _ _ _).alloc _
 have K1 : Blk W (w.heap.size + 1) 112 zA := by
   rw [hW]
   have := Blk.new (w.alloc (.cells (engA e A1 c1 A2 c2 A3 c3 A4 c4) 96)) 112 zA
   simpa using this
 have KV := valuesOf_any A1 c1 e.base W ((unhide HR W hb0).base) (by omega) (unhide HKB)
 have BX := hide (fun w' (hb : Below W.heap.size W w') => show w'.cell? ⟨w.heap.size, 0, none⟩ = some (.slice A1 e.base.length c1) ∧ w'.cell? ⟨w.heap.size, 1, none⟩ = some (.slice A2 e.list.length c2) ∧ w'.cell? ⟨w.heap.size, 2, none⟩ = some (.slice A3 e.vers.length c3) from ⟨(K0.new_ hb).cell 0, (K0.new_ hb).cell 1, (K0.new_ hb).cell 2⟩)
 have hW1 := K1.lt
 simp only [engA] at K0 hW ⊢
 clear h K0
 unfold zA at hW
 go_enter Tryz.func168, Tryz.ntmps168
 go_wp2_with fail
 rw [← hW]
 clear hW
 refine KV.mono ?_
 rintro x w3 ⟨rfl, b3⟩
 clear KV
 have hls : (vA (valsL e.base)).size = 32 := by rw [vA_size, valsL_len]
 obtain ⟨kz, kv, b4⟩ := one_vals w3 112 (valsL e.base)
 obtain ⟨g6, hg6⟩ : ∃ g, g = w3.heap.size := ⟨_, rfl⟩
 have b03 := bthen hb0 b3
 have hw3 := b3.size
 go_wp2_with (first
   | (refine wpList_store_row rfl 112 (.tmp 6) (.tmp 15) rfl w3.heap.size (vA (valsL e.base)) rfl rfl 112 zA kz (by rw [hls]; exact info_vals) (by rw [hls]; rfl) (vA_one _) ?_; refine at_world (C := fun W => wpList _ _ _ _ _ W) (F := fun W => Blk W w3.heap.size 112 (vA (valsL e.base)) ∧ Below w3.heap.size w3 W) ⟨kv, b4⟩ ?_; clear kz kv b4; rintro w4 ⟨kv, b4⟩; rw [← hg6] at kv ⊢; have HG6 := hide hg6; clear hg6; obtain ⟨kz7, kv7, b57⟩ := one_vals w4 112 (valsL e.base); have k67 := kv.new_ b57)
   | (refine wpList_load_row rfl 112 (.tmp 6) rfl g6 rfl 112 (vA (valsL e.base)) (0, 0) _ kv Tryz.underlying112 rfl (by rw [hls]; exact info_vals) ?_)
   | (refine wpList_store_row rfl 112 (.tmp 7) (.tmp 16) rfl w4.heap.size (vA (valsL e.base)) rfl rfl 112 zA kz7 (by rw [hls]; exact info_vals) (by rw [hls]; rfl) (vA_one _) ?_; refine at_world (C := fun W => wpList _ _ _ _ _ W) (F := fun W => Blk W g6 112 (vA (valsL e.base)) ∧ Blk W w4.heap.size 112 (vA (valsL e.base)) ∧ Below w4.heap.size w4 W) ⟨k67, kv7, b57⟩ ?_; have hl4 := kv.lt; clear kz7 kv7 k67 b57 kv; rintro w5 ⟨k6, k7, b5⟩; obtain ⟨g7, hg7⟩ : ∃ g, g = w4.heap.size := ⟨_, rfl⟩; rw [← hg7] at k7 ⊢; have HG7 := hide hg7; clear hg7; have b35 := bthen b4 b5; have bW5 := bthen b3 b35; obtain ⟨y0, y1, y2⟩ := unhide BX w5 bW5; obtain ⟨bl, ol, hAl, hbl, l0, l1, l2, l3⟩ := ((unhide HR w5 (bthen hb0 bW5)).list).act hnl; have HAL := hide hAl; clear hAl; rw [unhide HAL] at y1))
 rw [← hla]
 have HLA := hide hla
 clear hla
 refine (reads_any (acAt e n) w5).mono ?_
 rintro x w6 ⟨AK, ck, rfl, oK, b6⟩
 have HWH := hide (show whoL e.base e.vers n (acAt e n) = (actReads (acAt e n)).map fun k => (readV e.base e.vers k n).2 from rfl)
 have hwl : (whoL e.base e.vers n (acAt e n)).length = (actReads (acAt e n)).length := by rw [whoL, List.length_map]
 obtain ⟨ww, hww⟩ : ∃ ww, ww = whoL e.base e.vers n (acAt e n) := ⟨_, rfl⟩
 obtain ⟨ks, hks⟩ : ∃ ks, ks = actReads (acAt e n) := ⟨_, rfl⟩
 rw [← hww, ← hks] at hwl HWH
 rw [← hks] at HRB oK hrl
 rw [← hks]
 have HWW := hide hww
 have HKS := hide hks
 clear hww hks
 have k66 := k6.new_ b6
 have k76 := k7.new_ b6
 have hl6 := k66.lt
 have hl7 := k76.lt
 have bW6 := bthen bW5 b6
 have hw5 := b6.size
 have hg67 : g6 < g7 := by have := unhide HG7; omega
 have hg71 : w.heap.size + 1 < g6 := by have := unhide HG6; omega
 have hrgK := own_rng oK
 have hW6 := bW6.size
 have HG7W := hide (show W.heap.size ≤ g7 by have := unhide HG7; have := b4.size; omega)
 have hk75 := k7.lt
 clear k6 k7 b5 b35 y0 y1 y2 l0 l1 l2 l3 b4
 go_wp2
 go_loopw [8, 24] (fun r i wr => ∃ (j : Nat) (A' : Option Addr) (c' : Nat), j ≤ ks.length ∧ i = .int .i64 j ∧ r = .slice A' j c' ∧ Blk wr g7 112 (vA (nowI e.base e.vers n (ks.take j))) ∧ wr.ownsRow w6.heap.size 3 1 (.slice A' j c') j (((ks.take j).map fun k => (readV e.base e.vers k n).2).map (.int .i64)) ∧ Chg (fun q => q = g7) w6 wr) (fun _ i _ => ks.length - (intOf i).toNat)
 case atStart => exact ⟨0, none, 0, Nat.zero_le _, rfl, rfl, k76, own_nil _ _ _ _, Chg.refl _ _⟩
 case round =>
   clear k76
   obtain ⟨j, A', c', hj, rfl, rfl, kv7, hown, hch⟩ := hrel
   have hbW : Below W.heap.size W wr := bW6.trans (hch.below (fun q hq e => by have := unhide HG7W; omega) hW6)
   have hbw := bthen hb0 hbW
   have kg6 := k66.chg hch (by omega)
   have hcs := hch.size
   by_cases hlt : j < ks.length
   · have j1 : (j : Int) < (ks.length : Int) := by omega
     obtain ⟨y0, y1, y2⟩ := unhide BX wr hbW
     obtain ⟨bk, ok, hAK, hbk, u0⟩ := (own_rd (own_chg oK hch (fun q hq e => by have := hrgK q hq; omega))).int hlt
     have hkb := unhide HRB ks[j] (List.getElem_mem hlt)
     have HNS := hide (show nowI e.base e.vers n (ks.take (j + 1)) = (nowI e.base e.vers n (ks.take j)).set ks[j].toNat (readV e.base e.vers ks[j] n).1 by rw [List.take_succ_eq_append_getElem hlt, nowI_snoc])
     have HWS := hide (show (ks.take (j + 1)).map (fun k => (readV e.base e.vers k n).2) = (ks.take j).map (fun k => (readV e.base e.vers k n).2) ++ [(readV e.base e.vers ks[j] n).2] by rw [List.take_succ_eq_append_getElem hlt, List.map_append]; rfl)
     have hnl2 := nowI_len e.base e.vers n (ks.take j)
     have hat : atV (valsL e.base) ks[j] = atL e.base ks[j] := (unhide HRS ks[j]).resolve_right (fun g => g hkb)
     have KR := read_impl e.base (valsL e.base) A3 c3 e.vers ks[j] n wr (valsL_len _) hat hkb ((unhide HR wr hbw).vers) (by omega)
     generalize readV e.base e.vers ks[j] n = rv at *
     generalize nowI e.base e.vers n (ks.take j) = v at *
     generalize (ks.take j).map (fun k => (readV e.base e.vers k n).2) = os at *
     generalize ks[j] = key at *
     obtain ⟨q, rfl⟩ := Int.eq_ofNat_of_zero_le hkb.1
     have i2 : (q : Int) < 32 := by omega
     have i3 : q < 32 := by omega
     have HAK := hide hAK
     clear hAK hat
     rw [unhide HAK]
     go_wp2_with (refine wpList_load_row rfl 112 (.tmp 6) rfl g6 rfl 112 (vA (valsL e.base)) (0, 0) _ kg6 Tryz.underlying112 rfl (by rw [hls]; exact info_vals) ?_)
     refine KR.mono ?_
     rintro x w7 ⟨rfl, b7⟩
     clear KR
     have k77 := kv7.new_ b7
     have o7 := own_new hown b7
     have hs7 := b7.size
     have cv := vA_get k77 (show q < v.length by omega)
     have zv := k77.frozen q
     have hvl := k77.lt
     have hrg := own_rng hown
     have hne : g7 ≠ w7.heap.size := by omega
     have of7 := own_far o7 (p := ⟨g7, q, none⟩) (fun g hg => by have := hrg g hg; show g7 ≠ g; omega) (.int .i64 rv.1)
     have ks7 := vA_set k77 q rv.1
     have ch7 := (Chg.of_new (S := fun q => q = g7) b7).setCell (p := ⟨g7, q, none⟩) (.inl rfl) (.int .i64 rv.1)
     have hsz7 : (w7.setCell ⟨g7, q, none⟩ (.int .i64 rv.1)).heap.size = w7.heap.size := by simp
     go_wp2_with (at_builtin; refine wpList_app rfl (.tmp 40) (.tmp 42) 26 rfl el_int rfl (own_alloc of7 _) rfl (rd_at _ [.int .i64 rv.2] _ hsz7) rfl (one_ints [rv.2]) (by simp only [maxLen]; omega) (by omega) (by simp; omega) ?_; intro A8 c8 w8 o8 ch8 d8 _)
     have k88 := (ks7.alloc (.cells #[.int .i64 rv.2] 3)).chg ch8 (fun e => by have := hrg _ e; omega)
     have hc8 := chg_app (hch.trans (ch7.alloc (.cells #[.int .i64 rv.2] 3))) ch8 (fun g hg => .inr (hrg g hg).1)
     go_roundw
     case rel => exact ⟨j + 1, A8, c8, by omega, by go_num, rfl, by rw [unhide HNS]; exact k88, by rw [unhide HWS, List.map_append]; simpa using o8, hc8⟩
     case measure => simp [intOf]; omega
   · obtain rfl : j = ks.length := by omega
     rw [List.take_length] at kv7 hown
     rw [← unhide HWH] at hown
     have hsV : (vA (nowI e.base e.vers n ks)).size = 32 := by rw [vA_size, nowI_len]
     have kR := (K1.new_ bW6).chg hch (by omega)
     have hgz : zA.size = 32 := rfl
     have hkr := blk_setRow (ds := vA (nowI e.base e.vers n ks)) kR
     have hcR : Chg (fun q => q = w.heap.size + 1) wr (wr.setRow (w.heap.size + 1) (vA (nowI e.base e.vers n ks))) := ⟨rfl, rfl, rfl, by rw [size_setRow]; exact Nat.le_refl _, fun q _ hq => setRow_other wr (w.heap.size + 1) q _ (by omega)⟩
     have hrg := own_rng hown
     have hoR := own_chg hown hcR (fun q hq e => by have := hrg q hq; omega)
     have hBR : Below w.heap.size w (wr.setRow (w.heap.size + 1) (vA (nowI e.base e.vers n ks))) := hbw.trans (hcR.below (fun q hq e => by omega) hbw.size)
     have HKR := hide hkr
     have HOR := hide hoR
     have HWL := hide hwl
     clear hkr hcR hoR hwl
     go_wp2_with (first | (refine wpList_load_row rfl 112 (.tmp 7) rfl g7 rfl 112 (vA (nowI e.base e.vers n ks)) (0, 0) _ kv7 Tryz.underlying112 rfl (by rw [hsV]; exact info_vals) ?_) | (refine wpList_store_row rfl 112 (.tmp 4) (.tmp 45) rfl (w.heap.size + 1) (vA (nowI e.base e.vers n ks)) rfl rfl 112 zA kR (by rw [hsV]; exact info_vals) (by rw [hsV]; rfl) (vA_one _) ?_))
     rw [← unhide HKS, ← unhide HWW]
     refine bodyPost_ret (v := .tuple #[.agg (vA (nowI e.base e.vers n ks)), .slice A' ks.length c']) (results_cell_tmp (p := 4) (q := 5) (ty := 112) rfl _ _ (w.heap.size + 1) 112 (vA (nowI e.base e.vers n ks)) (0, 0) _ rfl (unhide HKR) Tryz.underlying112 rfl (by rw [hsV]; exact info_vals)) rfl ?_
     exact ⟨A', c', by rw [unhide HWL], by rw [unhide HWL]; exact own_base (unhide HOR) (Nat.le_trans (by omega) hW6), hBR⟩
end Go.Proofs.YtihlhejencninaaGreat
