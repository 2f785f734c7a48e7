/- Steps of an engine, of the reference (printed by gen_in.py from xstepss.in). -/
import Derived.Test.YtihlhejencninaaGreatEngVS
import Derived.Test.YtihlhejencninaaGreatECopyS
namespace Go.Proofs.YtihlhejencninaaGreat
open Go.RowKit
set_option linter.unusedVariables false
set_option linter.unusedSimpArgs false

/-- how a step ends -/
def StepEnd (w : World) (eng : Eng) (ok : Bool) (x : Ending) (w' : World) : Prop := ∃ B1 f1 B2 f2 B3 f3 B4 f4, x = .returned (.tuple #[.agg (engA eng B1 f1 B2 f2 B3 f3 B4 f4), .bool ok]) ∧ EngOwn (fun k => w.heap.size ≤ k) w.heap.size w' eng B1 B2 B3 B4 f4 ∧ Below w.heap.size w w'
theorem stepEnd {w w' : World} {eng : Eng} {ok : Bool} {x : Ending} {B1 : Option Addr} {f1 : Nat} {B2 : Option Addr} {f2 : Nat} {B3 : Option Addr} {f3 : Nat} {B4 : Option Addr} {f4 : Nat} (h1 : x = .returned (.tuple #[.agg (engA eng B1 f1 B2 f2 B3 f3 B4 f4), .bool ok])) (h2 : EngOwn (fun k => w.heap.size ≤ k) w.heap.size w' eng B1 B2 B3 B4 f4) (h3 : Below w.heap.size w w') : StepEnd w eng ok x w' := ⟨_, _, _, _, _, _, _, _, h1, h2, h3⟩
def effT (B : Nat) (E : Eff) (v : Value) (w : World) : Prop := ∃ B1 d1 B2 d2, v = .agg #[.bool E.done, .slice B1 E.reads.length d1, .slice B2 E.writes.length d2] ∧ w.ownsRow B 79 2 (.slice B1 E.reads.length d1) E.reads.length (E.reads.flatMap encE) ∧ w.ownsRow B 79 2 (.slice B2 E.writes.length d2) E.writes.length (E.writes.flatMap encE)
def wwT (B : Nat) (ww : List Int) (v : Value) (w : World) : Prop := ∃ B3 d3, v = .slice B3 ww.length d3 ∧ w.ownsRow B 3 1 (.slice B3 ww.length d3) ww.length (ww.map (.int .i64))
def tryT (B : Nat) (E : Eff) (ww : List Int) (v : Value) (w : World) : Prop := ∃ u1 u2, v = .tuple #[u1, u2] ∧ effT B E u1 w ∧ wwT B ww u2 w
def qEff (B : Nat) (E : Eff) (cs : Array Value) (w : World) : Prop := effT B E (.agg cs) w
theorem ne_ef : (79 : TypeId) ≠ 107 := by decide
theorem ne_if : (3 : TypeId) ≠ 107 := by decide
theorem effT.eb {B m : Nat} {E : Eff} {v : Value} {a b : World} (h : effT B E v a) (hE : EB m 107 a b) : effT B E v b := by
  obtain ⟨B1, d1, B2, d2, h0, h1, h2⟩ := h
  exact ⟨B1, d1, B2, d2, h0, own_EB h1 hE ne_ef, own_EB h2 hE ne_ef⟩
theorem wwT.eb {B m : Nat} {ww : List Int} {v : Value} {a b : World} (h : wwT B ww v a) (hE : EB m 107 a b) : wwT B ww v b := by
  obtain ⟨B3, d3, h0, h1⟩ := h
  exact ⟨B3, d3, h0, own_EB h1 hE ne_if⟩
theorem tryT.eb {B m : Nat} {E : Eff} {ww : List Int} {v : Value} {a b : World} (h : tryT B E ww v a) (hE : EB m 107 a b) : tryT B E ww v b := by
  obtain ⟨u1, u2, h0, h1, h2⟩ := h
  exact ⟨u1, u2, h0, h1.eb hE, h2.eb hE⟩
theorem effT.new {B : Nat} {E : Eff} {v : Value} {a b : World} (h : effT B E v a) (hb : Below a.heap.size a b) : effT B E v b := by
  obtain ⟨B1, d1, B2, d2, h0, h1, h2⟩ := h
  exact ⟨B1, d1, B2, d2, h0, own_new h1 hb, own_new h2 hb⟩
set_option maxRecDepth 100000 in
set_option maxHeartbeats 8000000 in
theorem stepS_out (e : Eng) (A1 : Option Addr) (c1 : Nat) (A2 : Option Addr) (c2 : Nat) (A3 : Option Addr) (c3 : Nat) (A4 : Option Addr) (c4 : Nat) (m : Int) (w : World) (h : EngRd w e A1 A2 A3 A4) (hok : EngOk e) (hm : inB m 0 ((e.slots.length : Int) - 1) = false) :
    Calls Tryz.prog 118 #[.agg (engA e A1 c1 A2 c2 A3 c3 A4 c4), .int .i64 m] w fun x w' => StepEnd w e false x w' := by
  have hn10 := hok.len10
  have hll : e.list.length ≤ 10 := by rw [← hok.len]; exact hn10
  have hvl := hok.vlen
  obtain ⟨W, hW⟩ : ∃ W : World, W = (w.alloc (.cells (engA e A1 c1 A2 c2 A3 c3 A4 c4) 96)).alloc (.cells #[.slice none 0 0, .slice none 0 0, .slice none 0 0, .slice none 0 0] 96) := ⟨_, rfl⟩
  have hb0 : Below w.heap.size w W := by rw [hW]; exact ((Below.refl _ _).alloc (Nat.le_refl _) _).alloc (by simp) _
  have K0 : Blk W w.heap.size 96 (engA e A1 c1 A2 c2 A3 c3 A4 c4) := by rw [hW]; exact (Blk.new _ _ _).alloc _
  have K1 : Blk W (w.heap.size + 1) 96 #[.slice none 0 0, .slice none 0 0, .slice none 0 0, .slice none 0 0] := by
    rw [hW]
    have := Blk.new (w.alloc (.cells (engA e A1 c1 A2 c2 A3 c3 A4 c4) 96)) 96 #[.slice none 0 0, .slice none 0 0, .slice none 0 0, .slice none 0 0]
    simpa using this
  have hW1 := K1.lt
  have hW0 : w.heap.size < W.heap.size := by omega
  have KC := ecopy_spec e A1 c1 A2 c2 A3 c3 A4 c4 W (h.new hb0) hok
  have HK0 := hide (fun (w' : World) (hb : Below W.heap.size W w') => (⟨(K0.new_ hb).cell 0, (K0.new_ hb).cell 1, (K0.new_ hb).cell 2, (K0.new_ hb).cell 3⟩ : w'.cell? ⟨w.heap.size, 0, none⟩ = some (.slice A1 e.base.length c1) ∧ w'.cell? ⟨w.heap.size, 1, none⟩ = some (.slice A2 e.list.length c2) ∧ w'.cell? ⟨w.heap.size, 2, none⟩ = some (.slice A3 e.vers.length c3) ∧ w'.cell? ⟨w.heap.size, 3, none⟩ = some (.slice A4 e.slots.length c4)))
  have HK1 := hide (fun (w' : World) (hb : Below W.heap.size W w') => K1.new_ hb)
  have HR := hide (fun (w' : World) (hb : Below W.heap.size W w') => h.new (bthen hb0 hb))
  obtain ⟨y0, y1, y2, y3⟩ := unhide HK0 W (Below.refl _ _)
  have HOK := hide hok
  simp only [engA] at hW KC ⊢
  clear K0 K1 h hok
  go_enter Tryz.func118, Tryz.ntmps118
  go_upto_region 1 with fail
  rw [← hW]
  clear hW
  go_wp2_with fail
  refine KC.mono ?_
  rintro x w3 ⟨B1, f1, B2, f2, B3, f3, B4, f4, rfl, hown, b3⟩
  have hw3 := b3.size
  have hst0 : EngSt W.heap.size w3.heap.size (w3.alloc (.cells (engA e B1 f1 B2 f2 B3 f3 B4 f4) 96)) e B1 f1 B2 f2 B3 f3 B4 f4 :=
    EngSt.mk_ hown (fun k hk => ⟨hk.1, hk.2⟩) ((Below.refl _ _).alloc (Nat.le_refl _) _) (Nat.le_refl _) hw3 (Blk.new _ _ _)
  have bX0 : Below W.heap.size W (w3.alloc (.cells (engA e B1 f1 B2 f2 B3 f3 B4 f4) 96)) := b3.alloc hw3 _
  obtain ⟨X, hX⟩ : ∃ X : World, X = w3.alloc (.cells (engA e B1 f1 B2 f2 B3 f3 B4 f4) 96) := ⟨_, rfl⟩
  obtain ⟨g, hg⟩ : ∃ g, g = w3.heap.size := ⟨_, rfl⟩
  have hgw : W.heap.size ≤ g := by omega
  rw [← hX] at hst0 bX0
  rw [← hg] at hst0
  simp only [engA] at hX
  have HST := hide (fun (w' : World) (hb : Below X.heap.size X w') => hst0.new hb)
  clear y0 y1 y2 y3 hown KC b3 hw3
  have HX := hide hX
  have HG := hide hg
  clear hX hg
  go_upto_region 2 with fail
  rw [← unhide HX, ← unhide HG]
  obtain ⟨y0, y1, y2, y3⟩ := unhide HK0 X bX0
  obtain ⟨x0, x1, x2, x3, -⟩ := hst0.cells
  have hgX := hst0.lt
  have hgw0 : w.heap.size < g := by omega
  have hgw1 : w.heap.size + 1 < g := by omega
  have hwX : w.heap.size < X.heap.size := by omega
  clear hst0
  obtain ⟨w9, hw9⟩ : ∃ w9, w9 = X := ⟨_, rfl⟩
  rw [← hw9] at bX0 HST x0 x1 x2 x3 y0 y1 y2 y3 hgX hwX ⊢
  have b9 := bX0
  have hst9 := unhide HST w9 (Below.refl _ _)
  clear hw9
  go_upto_region 3 with (go_at_call 93; refine (l1In_any _ _ _ _).mono ?_; rintro x w' ⟨rfl, rfl⟩)
  have kR := unhide HK1 w9 b9
  have h9 := b9.size
  have hown9 := hst9.own.keep (w' := w9.setRow (w.heap.size + 1) #[.slice B1 e.base.length f1, .slice B2 e.list.length f2, .slice B3 e.vers.length f3, .slice B4 e.slots.length f4]) ⟨by rw [size_setRow]; exact Nat.le_refl _, fun q hq _ => setRow_other w9 (w.heap.size + 1) q _ (by have := hq.1; omega)⟩ (fun q hq _ => setRow_other w9 (w.heap.size + 1) q _ (by have := (hst9.own.rng q hq).1; omega))
  have HOWN := hide ((hown9.mono (Q := fun k => w.heap.size ≤ k) fun k hk _ => by have := hk.1; omega).lower (show w.heap.size ≤ W.heap.size by omega))
  clear hst9 hown9
  go_wp2_with (refine wpList_store_row rfl 96 (.tmp 4) (.tmp 19) rfl (w.heap.size + 1) #[.slice B1 e.base.length f1, .slice B2 e.list.length f2, .slice B3 e.vers.length f3, .slice B4 e.slots.length f4] rfl rfl 96 #[.slice none 0 0, .slice none 0 0, .slice none 0 0, .slice none 0 0] kR info_eng4 rfl (sl4_one _ _ _ _ _ _ _ _ _ _ _ _) ?_)
  refine bodyPost_ret (v := .tuple #[.agg #[.slice B1 e.base.length f1, .slice B2 e.list.length f2, .slice B3 e.vers.length f3, .slice B4 e.slots.length f4], .bool false]) (results_cell_tmp (p := 4) (q := 5) (ty := 96) rfl _ _ (w.heap.size + 1) 96 #[.slice B1 e.base.length f1, .slice B2 e.list.length f2, .slice B3 e.vers.length f3, .slice B4 e.slots.length f4] (0, 0) _ rfl (blk_setRow kR) Tryz.underlying96 rfl info_eng4) rfl ?_
  exact stepEnd (B1 := B1) (B2 := B2) (B3 := B3) (B4 := B4) (f1 := f1) (f2 := f2) (f3 := f3) (f4 := f4) (rfl) (unhide HOWN) (below_setRow (bthen' hb0 b9) (by omega) _)
set_option maxRecDepth 100000 in
set_option maxHeartbeats 8000000 in
theorem stepS_full (e : Eng) (A1 : Option Addr) (c1 : Nat) (A2 : Option Addr) (c2 : Nat) (A3 : Option Addr) (c3 : Nat) (A4 : Option Addr) (c4 : Nat) (n : Nat) (w : World) (h : EngRd w e A1 A2 A3 A4) (hok : EngOk e) (hn : n < e.slots.length) (h0 : (slAt e n).stage = 0) (ht : (slAt e n).tries = 1000) :
    Calls Tryz.prog 118 #[.agg (engA e A1 c1 A2 c2 A3 c3 A4 c4), .int .i64 (n : Int)] w fun x w' => StepEnd w e false x w' := by
  have H_h0 := hide h0
  clear h0
  have H_ht := hide ht
  clear ht
  have hn10 := hok.len10
  have hll : e.list.length ≤ 10 := by rw [← hok.len]; exact hn10
  have hvl := hok.vlen
  obtain ⟨W, hW⟩ : ∃ W : World, W = (w.alloc (.cells (engA e A1 c1 A2 c2 A3 c3 A4 c4) 96)).alloc (.cells #[.slice none 0 0, .slice none 0 0, .slice none 0 0, .slice none 0 0] 96) := ⟨_, rfl⟩
  have hb0 : Below w.heap.size w W := by rw [hW]; exact ((Below.refl _ _).alloc (Nat.le_refl _) _).alloc (by simp) _
  have K0 : Blk W w.heap.size 96 (engA e A1 c1 A2 c2 A3 c3 A4 c4) := by rw [hW]; exact (Blk.new _ _ _).alloc _
  have K1 : Blk W (w.heap.size + 1) 96 #[.slice none 0 0, .slice none 0 0, .slice none 0 0, .slice none 0 0] := by
    rw [hW]
    have := Blk.new (w.alloc (.cells (engA e A1 c1 A2 c2 A3 c3 A4 c4) 96)) 96 #[.slice none 0 0, .slice none 0 0, .slice none 0 0, .slice none 0 0]
    simpa using this
  have hW1 := K1.lt
  have hW0 : w.heap.size < W.heap.size := by omega
  have KC := ecopy_spec e A1 c1 A2 c2 A3 c3 A4 c4 W (h.new hb0) hok
  have HK0 := hide (fun (w' : World) (hb : Below W.heap.size W w') => (⟨(K0.new_ hb).cell 0, (K0.new_ hb).cell 1, (K0.new_ hb).cell 2, (K0.new_ hb).cell 3⟩ : w'.cell? ⟨w.heap.size, 0, none⟩ = some (.slice A1 e.base.length c1) ∧ w'.cell? ⟨w.heap.size, 1, none⟩ = some (.slice A2 e.list.length c2) ∧ w'.cell? ⟨w.heap.size, 2, none⟩ = some (.slice A3 e.vers.length c3) ∧ w'.cell? ⟨w.heap.size, 3, none⟩ = some (.slice A4 e.slots.length c4)))
  have HK1 := hide (fun (w' : World) (hb : Below W.heap.size W w') => K1.new_ hb)
  have HR := hide (fun (w' : World) (hb : Below W.heap.size W w') => h.new (bthen hb0 hb))
  obtain ⟨y0, y1, y2, y3⟩ := unhide HK0 W (Below.refl _ _)
  have HOK := hide hok
  simp only [engA] at hW KC ⊢
  clear K0 K1 h hok
  go_enter Tryz.func118, Tryz.ntmps118
  go_upto_region 1 with fail
  rw [← hW]
  clear hW
  go_wp2_with fail
  refine KC.mono ?_
  rintro x w3 ⟨B1, f1, B2, f2, B3, f3, B4, f4, rfl, hown, b3⟩
  have hw3 := b3.size
  have hst0 : EngSt W.heap.size w3.heap.size (w3.alloc (.cells (engA e B1 f1 B2 f2 B3 f3 B4 f4) 96)) e B1 f1 B2 f2 B3 f3 B4 f4 :=
    EngSt.mk_ hown (fun k hk => ⟨hk.1, hk.2⟩) ((Below.refl _ _).alloc (Nat.le_refl _) _) (Nat.le_refl _) hw3 (Blk.new _ _ _)
  have bX0 : Below W.heap.size W (w3.alloc (.cells (engA e B1 f1 B2 f2 B3 f3 B4 f4) 96)) := b3.alloc hw3 _
  obtain ⟨X, hX⟩ : ∃ X : World, X = w3.alloc (.cells (engA e B1 f1 B2 f2 B3 f3 B4 f4) 96) := ⟨_, rfl⟩
  obtain ⟨g, hg⟩ : ∃ g, g = w3.heap.size := ⟨_, rfl⟩
  have hgw : W.heap.size ≤ g := by omega
  rw [← hX] at hst0 bX0
  rw [← hg] at hst0
  simp only [engA] at hX
  have HST := hide (fun (w' : World) (hb : Below X.heap.size X w') => hst0.new hb)
  clear y0 y1 y2 y3 hown KC b3 hw3
  have HX := hide hX
  have HG := hide hg
  clear hX hg
  go_upto_region 2 with fail
  rw [← unhide HX, ← unhide HG]
  obtain ⟨y0, y1, y2, y3⟩ := unhide HK0 X bX0
  obtain ⟨x0, x1, x2, x3, -⟩ := hst0.cells
  have hgX := hst0.lt
  have hgw0 : w.heap.size < g := by omega
  have hgw1 : w.heap.size + 1 < g := by omega
  have hwX : w.heap.size < X.heap.size := by omega
  clear hst0
  obtain ⟨b, off, P0, d0, P1, d1, P2, d2, hA4, -, hbb, ⟨q0, q1, q2, q3, q4, q5⟩, -, -, -⟩ := (unhide HR X bX0).slots.slt hn
  rw [← slAt_get e hn] at q0 q1 q2 q3 q4 q5
  have HA4 := hide hA4
  rw [hA4] at y3
  clear hA4
  rw [unhide HA4]
  have hin : inB (n : Int) 0 ((e.slots.length : Int) - 1) = true := inB_true.2 (by omega)
  have i0 : (n : Int) < (e.slots.length : Int) := by omega
  obtain ⟨V, hV⟩ : ∃ V : World, V = X.alloc (.cells (sltV (slAt e n) P0 d0 P1 d1 P2 d2).toArray 141) := ⟨_, rfl⟩
  have bXV : Below X.heap.size X V := by rw [hV]; exact (Below.refl _ _).alloc (Nat.le_refl _) _
  have KS : Blk V X.heap.size 141 (sltV (slAt e n) P0 d0 P1 d1 P2 d2).toArray := by rw [hV]; exact Blk.new _ _ _
  have bWV := bthen bX0 bXV
  have HKS := hide (fun (w' : World) (hb : Below V.heap.size V w') => slt_cells (KS.new_ hb))
  have hXV := bXV.size
  have hXl := KS.lt
  simp only [sltV] at hV
  have HV := hide hV
  clear hV KS
  go_upto_region 5 with (go_at_call 93; refine (l1In_any _ _ _ _).mono ?_; rintro x w' ⟨rfl, rfl⟩)
  rw [← unhide HV]
  clear q0 q1 q2 q3 q4 q5 x0 x1 x2 x3 y0 y1 y2 y3
  obtain ⟨sc0, sc1, sc2, sc3, sc4, sc5⟩ := unhide HKS V (Below.refl _ _)
  obtain ⟨y0, y1, y2, y3⟩ := unhide HK0 V bWV
  rw [unhide HA4] at y3
  have hst := unhide HST V bXV
  have h0 := unhide H_h0
  have ht := unhide H_ht
  have e0 : ((slAt e n).stage == 0) = true := by simp [h0]
  have e1 : ((slAt e n).tries == 1000) = true := by simp [ht]
  clear h0 ht
  obtain ⟨x0, x1, x2, x3, -⟩ := hst.cells
  have hgV := hst.lt
  obtain ⟨w9, hw9⟩ : ∃ w9, w9 = V := ⟨_, rfl⟩
  rw [← hw9] at bWV hst x0 x1 x2 x3 y0 y1 y2 y3 hgV sc0 sc1 ⊢
  have b9 := bWV
  have hst9 := hst
  clear hw9
  have kR := unhide HK1 w9 b9
  have h9 := b9.size
  have hown9 := hst9.own.keep (w' := w9.setRow (w.heap.size + 1) #[.slice B1 e.base.length f1, .slice B2 e.list.length f2, .slice B3 e.vers.length f3, .slice B4 e.slots.length f4]) ⟨by rw [size_setRow]; exact Nat.le_refl _, fun q hq _ => setRow_other w9 (w.heap.size + 1) q _ (by have := hq.1; omega)⟩ (fun q hq _ => setRow_other w9 (w.heap.size + 1) q _ (by have := (hst9.own.rng q hq).1; omega))
  have HOWN := hide ((hown9.mono (Q := fun k => w.heap.size ≤ k) fun k hk _ => by have := hk.1; omega).lower (show w.heap.size ≤ W.heap.size by omega))
  clear hst9 hown9
  go_wp2_with (refine wpList_store_row rfl 96 (.tmp 4) (.tmp 32) rfl (w.heap.size + 1) #[.slice B1 e.base.length f1, .slice B2 e.list.length f2, .slice B3 e.vers.length f3, .slice B4 e.slots.length f4] rfl rfl 96 #[.slice none 0 0, .slice none 0 0, .slice none 0 0, .slice none 0 0] kR info_eng4 rfl (sl4_one _ _ _ _ _ _ _ _ _ _ _ _) ?_)
  refine bodyPost_ret (v := .tuple #[.agg #[.slice B1 e.base.length f1, .slice B2 e.list.length f2, .slice B3 e.vers.length f3, .slice B4 e.slots.length f4], .bool false]) (results_cell_tmp (p := 4) (q := 5) (ty := 96) rfl _ _ (w.heap.size + 1) 96 #[.slice B1 e.base.length f1, .slice B2 e.list.length f2, .slice B3 e.vers.length f3, .slice B4 e.slots.length f4] (0, 0) _ rfl (blk_setRow kR) Tryz.underlying96 rfl info_eng4) rfl ?_
  exact stepEnd (B1 := B1) (B2 := B2) (B3 := B3) (B4 := B4) (f1 := f1) (f2 := f2) (f3 := f3) (f4 := f4) (rfl) (unhide HOWN) (below_setRow (bthen' hb0 b9) (by omega) _)
set_option maxRecDepth 100000 in
set_option maxHeartbeats 8000000 in
theorem stepS_done (e : Eng) (A1 : Option Addr) (c1 : Nat) (A2 : Option Addr) (c2 : Nat) (A3 : Option Addr) (c3 : Nat) (A4 : Option Addr) (c4 : Nat) (n : Nat) (w : World) (h : EngRd w e A1 A2 A3 A4) (hok : EngOk e) (hn : n < e.slots.length) (h0 : (slAt e n).stage = 2) :
    Calls Tryz.prog 118 #[.agg (engA e A1 c1 A2 c2 A3 c3 A4 c4), .int .i64 (n : Int)] w fun x w' => StepEnd w e false x w' := by
  have H_h0 := hide h0
  clear h0
  have hn10 := hok.len10
  have hll : e.list.length ≤ 10 := by rw [← hok.len]; exact hn10
  have hvl := hok.vlen
  obtain ⟨W, hW⟩ : ∃ W : World, W = (w.alloc (.cells (engA e A1 c1 A2 c2 A3 c3 A4 c4) 96)).alloc (.cells #[.slice none 0 0, .slice none 0 0, .slice none 0 0, .slice none 0 0] 96) := ⟨_, rfl⟩
  have hb0 : Below w.heap.size w W := by rw [hW]; exact ((Below.refl _ _).alloc (Nat.le_refl _) _).alloc (by simp) _
  have K0 : Blk W w.heap.size 96 (engA e A1 c1 A2 c2 A3 c3 A4 c4) := by rw [hW]; exact (Blk.new _ _ _).alloc _
  have K1 : Blk W (w.heap.size + 1) 96 #[.slice none 0 0, .slice none 0 0, .slice none 0 0, .slice none 0 0] := by
    rw [hW]
    have := Blk.new (w.alloc (.cells (engA e A1 c1 A2 c2 A3 c3 A4 c4) 96)) 96 #[.slice none 0 0, .slice none 0 0, .slice none 0 0, .slice none 0 0]
    simpa using this
  have hW1 := K1.lt
  have hW0 : w.heap.size < W.heap.size := by omega
  have KC := ecopy_spec e A1 c1 A2 c2 A3 c3 A4 c4 W (h.new hb0) hok
  have HK0 := hide (fun (w' : World) (hb : Below W.heap.size W w') => (⟨(K0.new_ hb).cell 0, (K0.new_ hb).cell 1, (K0.new_ hb).cell 2, (K0.new_ hb).cell 3⟩ : w'.cell? ⟨w.heap.size, 0, none⟩ = some (.slice A1 e.base.length c1) ∧ w'.cell? ⟨w.heap.size, 1, none⟩ = some (.slice A2 e.list.length c2) ∧ w'.cell? ⟨w.heap.size, 2, none⟩ = some (.slice A3 e.vers.length c3) ∧ w'.cell? ⟨w.heap.size, 3, none⟩ = some (.slice A4 e.slots.length c4)))
  have HK1 := hide (fun (w' : World) (hb : Below W.heap.size W w') => K1.new_ hb)
  have HR := hide (fun (w' : World) (hb : Below W.heap.size W w') => h.new (bthen hb0 hb))
  obtain ⟨y0, y1, y2, y3⟩ := unhide HK0 W (Below.refl _ _)
  have HOK := hide hok
  simp only [engA] at hW KC ⊢
  clear K0 K1 h hok
  go_enter Tryz.func118, Tryz.ntmps118
  go_upto_region 1 with fail
  rw [← hW]
  clear hW
  go_wp2_with fail
  refine KC.mono ?_
  rintro x w3 ⟨B1, f1, B2, f2, B3, f3, B4, f4, rfl, hown, b3⟩
  have hw3 := b3.size
  have hst0 : EngSt W.heap.size w3.heap.size (w3.alloc (.cells (engA e B1 f1 B2 f2 B3 f3 B4 f4) 96)) e B1 f1 B2 f2 B3 f3 B4 f4 :=
    EngSt.mk_ hown (fun k hk => ⟨hk.1, hk.2⟩) ((Below.refl _ _).alloc (Nat.le_refl _) _) (Nat.le_refl _) hw3 (Blk.new _ _ _)
  have bX0 : Below W.heap.size W (w3.alloc (.cells (engA e B1 f1 B2 f2 B3 f3 B4 f4) 96)) := b3.alloc hw3 _
  obtain ⟨X, hX⟩ : ∃ X : World, X = w3.alloc (.cells (engA e B1 f1 B2 f2 B3 f3 B4 f4) 96) := ⟨_, rfl⟩
  obtain ⟨g, hg⟩ : ∃ g, g = w3.heap.size := ⟨_, rfl⟩
  have hgw : W.heap.size ≤ g := by omega
  rw [← hX] at hst0 bX0
  rw [← hg] at hst0
  simp only [engA] at hX
  have HST := hide (fun (w' : World) (hb : Below X.heap.size X w') => hst0.new hb)
  clear y0 y1 y2 y3 hown KC b3 hw3
  have HX := hide hX
  have HG := hide hg
  clear hX hg
  go_upto_region 2 with fail
  rw [← unhide HX, ← unhide HG]
  obtain ⟨y0, y1, y2, y3⟩ := unhide HK0 X bX0
  obtain ⟨x0, x1, x2, x3, -⟩ := hst0.cells
  have hgX := hst0.lt
  have hgw0 : w.heap.size < g := by omega
  have hgw1 : w.heap.size + 1 < g := by omega
  have hwX : w.heap.size < X.heap.size := by omega
  clear hst0
  obtain ⟨b, off, P0, d0, P1, d1, P2, d2, hA4, -, hbb, ⟨q0, q1, q2, q3, q4, q5⟩, -, -, -⟩ := (unhide HR X bX0).slots.slt hn
  rw [← slAt_get e hn] at q0 q1 q2 q3 q4 q5
  have HA4 := hide hA4
  rw [hA4] at y3
  clear hA4
  rw [unhide HA4]
  have hin : inB (n : Int) 0 ((e.slots.length : Int) - 1) = true := inB_true.2 (by omega)
  have i0 : (n : Int) < (e.slots.length : Int) := by omega
  obtain ⟨V, hV⟩ : ∃ V : World, V = X.alloc (.cells (sltV (slAt e n) P0 d0 P1 d1 P2 d2).toArray 141) := ⟨_, rfl⟩
  have bXV : Below X.heap.size X V := by rw [hV]; exact (Below.refl _ _).alloc (Nat.le_refl _) _
  have KS : Blk V X.heap.size 141 (sltV (slAt e n) P0 d0 P1 d1 P2 d2).toArray := by rw [hV]; exact Blk.new _ _ _
  have bWV := bthen bX0 bXV
  have HKS := hide (fun (w' : World) (hb : Below V.heap.size V w') => slt_cells (KS.new_ hb))
  have hXV := bXV.size
  have hXl := KS.lt
  simp only [sltV] at hV
  have HV := hide hV
  clear hV KS
  go_upto_region 5 with (go_at_call 93; refine (l1In_any _ _ _ _).mono ?_; rintro x w' ⟨rfl, rfl⟩)
  rw [← unhide HV]
  clear q0 q1 q2 q3 q4 q5 x0 x1 x2 x3 y0 y1 y2 y3
  obtain ⟨sc0, sc1, sc2, sc3, sc4, sc5⟩ := unhide HKS V (Below.refl _ _)
  obtain ⟨y0, y1, y2, y3⟩ := unhide HK0 V bWV
  rw [unhide HA4] at y3
  have hst := unhide HST V bXV
  have h0 := unhide H_h0
  have e0 : ((slAt e n).stage == 0) = false := by simp [h0]
  have e1 : ((slAt e n).stage == 1) = false := by simp [h0]
  clear h0
  obtain ⟨x0, x1, x2, x3, -⟩ := hst.cells
  have hgV := hst.lt
  obtain ⟨w9, hw9⟩ : ∃ w9, w9 = V := ⟨_, rfl⟩
  rw [← hw9] at bWV hst x0 x1 x2 x3 y0 y1 y2 y3 hgV sc0 sc1 ⊢
  have b9 := bWV
  have hst9 := hst
  clear hw9
  have kR := unhide HK1 w9 b9
  have h9 := b9.size
  have hown9 := hst9.own.keep (w' := w9.setRow (w.heap.size + 1) #[.slice B1 e.base.length f1, .slice B2 e.list.length f2, .slice B3 e.vers.length f3, .slice B4 e.slots.length f4]) ⟨by rw [size_setRow]; exact Nat.le_refl _, fun q hq _ => setRow_other w9 (w.heap.size + 1) q _ (by have := hq.1; omega)⟩ (fun q hq _ => setRow_other w9 (w.heap.size + 1) q _ (by have := (hst9.own.rng q hq).1; omega))
  have HOWN := hide ((hown9.mono (Q := fun k => w.heap.size ≤ k) fun k hk _ => by have := hk.1; omega).lower (show w.heap.size ≤ W.heap.size by omega))
  clear hst9 hown9
  go_wp2_with (refine wpList_store_row rfl 96 (.tmp 4) (.tmp 102) rfl (w.heap.size + 1) #[.slice B1 e.base.length f1, .slice B2 e.list.length f2, .slice B3 e.vers.length f3, .slice B4 e.slots.length f4] rfl rfl 96 #[.slice none 0 0, .slice none 0 0, .slice none 0 0, .slice none 0 0] kR info_eng4 rfl (sl4_one _ _ _ _ _ _ _ _ _ _ _ _) ?_)
  refine bodyPost_ret (v := .tuple #[.agg #[.slice B1 e.base.length f1, .slice B2 e.list.length f2, .slice B3 e.vers.length f3, .slice B4 e.slots.length f4], .bool false]) (results_cell_tmp (p := 4) (q := 5) (ty := 96) rfl _ _ (w.heap.size + 1) 96 #[.slice B1 e.base.length f1, .slice B2 e.list.length f2, .slice B3 e.vers.length f3, .slice B4 e.slots.length f4] (0, 0) _ rfl (blk_setRow kR) Tryz.underlying96 rfl info_eng4) rfl ?_
  exact stepEnd (B1 := B1) (B2 := B2) (B3 := B3) (B4 := B4) (f1 := f1) (f2 := f2) (f3 := f3) (f4 := f4) (rfl) (unhide HOWN) (below_setRow (bthen' hb0 b9) (by omega) _)
set_option maxRecDepth 100000 in
set_option maxHeartbeats 8000000 in
theorem stepS_wait (e : Eng) (A1 : Option Addr) (c1 : Nat) (A2 : Option Addr) (c2 : Nat) (A3 : Option Addr) (c3 : Nat) (A4 : Option Addr) (c4 : Nat) (n : Nat) (w : World) (h : EngRd w e A1 A2 A3 A4) (hok : EngOk e) (hn : n < e.slots.length) (h0 : (slAt e n).stage = 1) (h1 : 0 < n) (h2 : (slAt e (n - 1)).stage ≠ 2) :
    Calls Tryz.prog 118 #[.agg (engA e A1 c1 A2 c2 A3 c3 A4 c4), .int .i64 (n : Int)] w fun x w' => StepEnd w e false x w' := by
  obtain ⟨p, rfl⟩ : ∃ p, n = p + 1 := ⟨n - 1, by omega⟩
  rw [show p + 1 - 1 = p by omega] at h2
  have H_h0 := hide h0
  clear h0
  have H_h1 := hide h1
  clear h1
  have H_h2 := hide h2
  clear h2
  have hn10 := hok.len10
  have hll : e.list.length ≤ 10 := by rw [← hok.len]; exact hn10
  have hvl := hok.vlen
  obtain ⟨W, hW⟩ : ∃ W : World, W = (w.alloc (.cells (engA e A1 c1 A2 c2 A3 c3 A4 c4) 96)).alloc (.cells #[.slice none 0 0, .slice none 0 0, .slice none 0 0, .slice none 0 0] 96) := ⟨_, rfl⟩
  have hb0 : Below w.heap.size w W := by rw [hW]; exact ((Below.refl _ _).alloc (Nat.le_refl _) _).alloc (by simp) _
  have K0 : Blk W w.heap.size 96 (engA e A1 c1 A2 c2 A3 c3 A4 c4) := by rw [hW]; exact (Blk.new _ _ _).alloc _
  have K1 : Blk W (w.heap.size + 1) 96 #[.slice none 0 0, .slice none 0 0, .slice none 0 0, .slice none 0 0] := by
    rw [hW]
    have := Blk.new (w.alloc (.cells (engA e A1 c1 A2 c2 A3 c3 A4 c4) 96)) 96 #[.slice none 0 0, .slice none 0 0, .slice none 0 0, .slice none 0 0]
    simpa using this
  have hW1 := K1.lt
  have hW0 : w.heap.size < W.heap.size := by omega
  have KC := ecopy_spec e A1 c1 A2 c2 A3 c3 A4 c4 W (h.new hb0) hok
  have HK0 := hide (fun (w' : World) (hb : Below W.heap.size W w') => (⟨(K0.new_ hb).cell 0, (K0.new_ hb).cell 1, (K0.new_ hb).cell 2, (K0.new_ hb).cell 3⟩ : w'.cell? ⟨w.heap.size, 0, none⟩ = some (.slice A1 e.base.length c1) ∧ w'.cell? ⟨w.heap.size, 1, none⟩ = some (.slice A2 e.list.length c2) ∧ w'.cell? ⟨w.heap.size, 2, none⟩ = some (.slice A3 e.vers.length c3) ∧ w'.cell? ⟨w.heap.size, 3, none⟩ = some (.slice A4 e.slots.length c4)))
  have HK1 := hide (fun (w' : World) (hb : Below W.heap.size W w') => K1.new_ hb)
  have HR := hide (fun (w' : World) (hb : Below W.heap.size W w') => h.new (bthen hb0 hb))
  obtain ⟨y0, y1, y2, y3⟩ := unhide HK0 W (Below.refl _ _)
  have HOK := hide hok
  simp only [engA] at hW KC ⊢
  clear K0 K1 h hok
  go_enter Tryz.func118, Tryz.ntmps118
  go_upto_region 1 with fail
  rw [← hW]
  clear hW
  go_wp2_with fail
  refine KC.mono ?_
  rintro x w3 ⟨B1, f1, B2, f2, B3, f3, B4, f4, rfl, hown, b3⟩
  have hw3 := b3.size
  have hst0 : EngSt W.heap.size w3.heap.size (w3.alloc (.cells (engA e B1 f1 B2 f2 B3 f3 B4 f4) 96)) e B1 f1 B2 f2 B3 f3 B4 f4 :=
    EngSt.mk_ hown (fun k hk => ⟨hk.1, hk.2⟩) ((Below.refl _ _).alloc (Nat.le_refl _) _) (Nat.le_refl _) hw3 (Blk.new _ _ _)
  have bX0 : Below W.heap.size W (w3.alloc (.cells (engA e B1 f1 B2 f2 B3 f3 B4 f4) 96)) := b3.alloc hw3 _
  obtain ⟨X, hX⟩ : ∃ X : World, X = w3.alloc (.cells (engA e B1 f1 B2 f2 B3 f3 B4 f4) 96) := ⟨_, rfl⟩
  obtain ⟨g, hg⟩ : ∃ g, g = w3.heap.size := ⟨_, rfl⟩
  have hgw : W.heap.size ≤ g := by omega
  rw [← hX] at hst0 bX0
  rw [← hg] at hst0
  simp only [engA] at hX
  have HST := hide (fun (w' : World) (hb : Below X.heap.size X w') => hst0.new hb)
  clear y0 y1 y2 y3 hown KC b3 hw3
  have HX := hide hX
  have HG := hide hg
  clear hX hg
  go_upto_region 2 with fail
  rw [← unhide HX, ← unhide HG]
  obtain ⟨y0, y1, y2, y3⟩ := unhide HK0 X bX0
  obtain ⟨x0, x1, x2, x3, -⟩ := hst0.cells
  have hgX := hst0.lt
  have hgw0 : w.heap.size < g := by omega
  have hgw1 : w.heap.size + 1 < g := by omega
  have hwX : w.heap.size < X.heap.size := by omega
  clear hst0
  obtain ⟨b, off, P0, d0, P1, d1, P2, d2, hA4, -, hbb, ⟨q0, q1, q2, q3, q4, q5⟩, -, -, -⟩ := (unhide HR X bX0).slots.slt hn
  rw [← slAt_get e hn] at q0 q1 q2 q3 q4 q5
  have HA4 := hide hA4
  rw [hA4] at y3
  clear hA4
  rw [unhide HA4]
  have hin : inB ((p : Int) + 1) 0 ((e.slots.length : Int) - 1) = true := inB_true.2 (by omega)
  have i0 : ((p : Int) + 1) < (e.slots.length : Int) := by omega
  obtain ⟨V, hV⟩ : ∃ V : World, V = X.alloc (.cells (sltV (slAt e (p + 1)) P0 d0 P1 d1 P2 d2).toArray 141) := ⟨_, rfl⟩
  have bXV : Below X.heap.size X V := by rw [hV]; exact (Below.refl _ _).alloc (Nat.le_refl _) _
  have KS : Blk V X.heap.size 141 (sltV (slAt e (p + 1)) P0 d0 P1 d1 P2 d2).toArray := by rw [hV]; exact Blk.new _ _ _
  have bWV := bthen bX0 bXV
  have HKS := hide (fun (w' : World) (hb : Below V.heap.size V w') => slt_cells (KS.new_ hb))
  have hXV := bXV.size
  have hXl := KS.lt
  simp only [sltV] at hV
  have HV := hide hV
  clear hV KS
  go_upto_region 5 with (go_at_call 93; refine (l1In_any _ _ _ _).mono ?_; rintro x w' ⟨rfl, rfl⟩)
  rw [← unhide HV]
  clear q0 q1 q2 q3 q4 q5 x0 x1 x2 x3 y0 y1 y2 y3
  obtain ⟨sc0, sc1, sc2, sc3, sc4, sc5⟩ := unhide HKS V (Below.refl _ _)
  obtain ⟨y0, y1, y2, y3⟩ := unhide HK0 V bWV
  rw [unhide HA4] at y3
  have hst := unhide HST V bXV
  have h0 := unhide H_h0
  have h1 := unhide H_h1
  have h2 := unhide H_h2
  have hp : p < e.slots.length := by omega
  obtain ⟨b', off', _, _, _, _, _, _, hA4', -, hbb', ⟨p0, -, -, -, -, -⟩, -, -, -⟩ := (unhide HR V bWV).slots.slt hp
  rw [← slAt_get e hp] at p0
  rw [unhide HA4] at hA4'
  injection hA4' with hA4'
  injection hA4' with hA5 hA6
  subst hA5
  subst hA6
  have z1 : decide (0 < p + 1) = true := by simp
  have i2 : (p : Int) < (e.slots.length : Int) := by omega
  have e0 : ((slAt e (p + 1)).stage == 0) = false := by simp [h0]
  have e1 : ((slAt e (p + 1)).stage == 1) = true := by simp [h0]
  have e2 : ((slAt e p).stage != 2) = true := by simpa using h2
  clear h0 h1 h2
  obtain ⟨x0, x1, x2, x3, -⟩ := hst.cells
  have hgV := hst.lt
  obtain ⟨w9, hw9⟩ : ∃ w9, w9 = V := ⟨_, rfl⟩
  rw [← hw9] at bWV hst x0 x1 x2 x3 y0 y1 y2 y3 hgV sc0 sc1 p0 ⊢
  have b9 := bWV
  have hst9 := hst
  clear hw9
  have kR := unhide HK1 w9 b9
  have h9 := b9.size
  have hown9 := hst9.own.keep (w' := w9.setRow (w.heap.size + 1) #[.slice B1 e.base.length f1, .slice B2 e.list.length f2, .slice B3 e.vers.length f3, .slice B4 e.slots.length f4]) ⟨by rw [size_setRow]; exact Nat.le_refl _, fun q hq _ => setRow_other w9 (w.heap.size + 1) q _ (by have := hq.1; omega)⟩ (fun q hq _ => setRow_other w9 (w.heap.size + 1) q _ (by have := (hst9.own.rng q hq).1; omega))
  have HOWN := hide ((hown9.mono (Q := fun k => w.heap.size ≤ k) fun k hk _ => by have := hk.1; omega).lower (show w.heap.size ≤ W.heap.size by omega))
  clear hst9 hown9
  go_wp2_with (refine wpList_store_row rfl 96 (.tmp 4) (.tmp 79) rfl (w.heap.size + 1) #[.slice B1 e.base.length f1, .slice B2 e.list.length f2, .slice B3 e.vers.length f3, .slice B4 e.slots.length f4] rfl rfl 96 #[.slice none 0 0, .slice none 0 0, .slice none 0 0, .slice none 0 0] kR info_eng4 rfl (sl4_one _ _ _ _ _ _ _ _ _ _ _ _) ?_)
  refine bodyPost_ret (v := .tuple #[.agg #[.slice B1 e.base.length f1, .slice B2 e.list.length f2, .slice B3 e.vers.length f3, .slice B4 e.slots.length f4], .bool false]) (results_cell_tmp (p := 4) (q := 5) (ty := 96) rfl _ _ (w.heap.size + 1) 96 #[.slice B1 e.base.length f1, .slice B2 e.list.length f2, .slice B3 e.vers.length f3, .slice B4 e.slots.length f4] (0, 0) _ rfl (blk_setRow kR) Tryz.underlying96 rfl info_eng4) rfl ?_
  exact stepEnd (B1 := B1) (B2 := B2) (B3 := B3) (B4 := B4) (f1 := f1) (f2 := f2) (f3 := f3) (f4 := f4) (rfl) (unhide HOWN) (below_setRow (bthen' hb0 b9) (by omega) _)
set_option maxRecDepth 100000 in
set_option maxHeartbeats 8000000 in
theorem stepS_chk0 (e : Eng) (A1 : Option Addr) (c1 : Nat) (A2 : Option Addr) (c2 : Nat) (A3 : Option Addr) (c3 : Nat) (A4 : Option Addr) (c4 : Nat) (n : Nat) (w : World) (h : EngRd w e A1 A2 A3 A4) (hok : EngOk e) (hn : n < e.slots.length) (h0 : (slAt e n).stage = 1) (h1 : n = 0) (hc : curE e n = true) :
    Calls Tryz.prog 118 #[.agg (engA e A1 c1 A2 c2 A3 c3 A4 c4), .int .i64 (n : Int)] w fun x w' => StepEnd w (chkN e n) true x w' := by
  have H_h0 := hide h0
  clear h0
  have H_h1 := hide h1
  clear h1
  have H_hc := hide hc
  clear hc
  have hn10 := hok.len10
  have hll : e.list.length ≤ 10 := by rw [← hok.len]; exact hn10
  have hvl := hok.vlen
  obtain ⟨W, hW⟩ : ∃ W : World, W = (w.alloc (.cells (engA e A1 c1 A2 c2 A3 c3 A4 c4) 96)).alloc (.cells #[.slice none 0 0, .slice none 0 0, .slice none 0 0, .slice none 0 0] 96) := ⟨_, rfl⟩
  have hb0 : Below w.heap.size w W := by rw [hW]; exact ((Below.refl _ _).alloc (Nat.le_refl _) _).alloc (by simp) _
  have K0 : Blk W w.heap.size 96 (engA e A1 c1 A2 c2 A3 c3 A4 c4) := by rw [hW]; exact (Blk.new _ _ _).alloc _
  have K1 : Blk W (w.heap.size + 1) 96 #[.slice none 0 0, .slice none 0 0, .slice none 0 0, .slice none 0 0] := by
    rw [hW]
    have := Blk.new (w.alloc (.cells (engA e A1 c1 A2 c2 A3 c3 A4 c4) 96)) 96 #[.slice none 0 0, .slice none 0 0, .slice none 0 0, .slice none 0 0]
    simpa using this
  have hW1 := K1.lt
  have hW0 : w.heap.size < W.heap.size := by omega
  have KC := ecopy_spec e A1 c1 A2 c2 A3 c3 A4 c4 W (h.new hb0) hok
  have HK0 := hide (fun (w' : World) (hb : Below W.heap.size W w') => (⟨(K0.new_ hb).cell 0, (K0.new_ hb).cell 1, (K0.new_ hb).cell 2, (K0.new_ hb).cell 3⟩ : w'.cell? ⟨w.heap.size, 0, none⟩ = some (.slice A1 e.base.length c1) ∧ w'.cell? ⟨w.heap.size, 1, none⟩ = some (.slice A2 e.list.length c2) ∧ w'.cell? ⟨w.heap.size, 2, none⟩ = some (.slice A3 e.vers.length c3) ∧ w'.cell? ⟨w.heap.size, 3, none⟩ = some (.slice A4 e.slots.length c4)))
  have HK1 := hide (fun (w' : World) (hb : Below W.heap.size W w') => K1.new_ hb)
  have HR := hide (fun (w' : World) (hb : Below W.heap.size W w') => h.new (bthen hb0 hb))
  obtain ⟨y0, y1, y2, y3⟩ := unhide HK0 W (Below.refl _ _)
  have HOK := hide hok
  simp only [engA] at hW KC ⊢
  clear K0 K1 h hok
  go_enter Tryz.func118, Tryz.ntmps118
  go_upto_region 1 with fail
  rw [← hW]
  clear hW
  go_wp2_with fail
  refine KC.mono ?_
  rintro x w3 ⟨B1, f1, B2, f2, B3, f3, B4, f4, rfl, hown, b3⟩
  have hw3 := b3.size
  have hst0 : EngSt W.heap.size w3.heap.size (w3.alloc (.cells (engA e B1 f1 B2 f2 B3 f3 B4 f4) 96)) e B1 f1 B2 f2 B3 f3 B4 f4 :=
    EngSt.mk_ hown (fun k hk => ⟨hk.1, hk.2⟩) ((Below.refl _ _).alloc (Nat.le_refl _) _) (Nat.le_refl _) hw3 (Blk.new _ _ _)
  have bX0 : Below W.heap.size W (w3.alloc (.cells (engA e B1 f1 B2 f2 B3 f3 B4 f4) 96)) := b3.alloc hw3 _
  obtain ⟨X, hX⟩ : ∃ X : World, X = w3.alloc (.cells (engA e B1 f1 B2 f2 B3 f3 B4 f4) 96) := ⟨_, rfl⟩
  obtain ⟨g, hg⟩ : ∃ g, g = w3.heap.size := ⟨_, rfl⟩
  have hgw : W.heap.size ≤ g := by omega
  rw [← hX] at hst0 bX0
  rw [← hg] at hst0
  simp only [engA] at hX
  have HST := hide (fun (w' : World) (hb : Below X.heap.size X w') => hst0.new hb)
  clear y0 y1 y2 y3 hown KC b3 hw3
  have HX := hide hX
  have HG := hide hg
  clear hX hg
  go_upto_region 2 with fail
  rw [← unhide HX, ← unhide HG]
  obtain ⟨y0, y1, y2, y3⟩ := unhide HK0 X bX0
  obtain ⟨x0, x1, x2, x3, -⟩ := hst0.cells
  have hgX := hst0.lt
  have hgw0 : w.heap.size < g := by omega
  have hgw1 : w.heap.size + 1 < g := by omega
  have hwX : w.heap.size < X.heap.size := by omega
  clear hst0
  obtain ⟨b, off, P0, d0, P1, d1, P2, d2, hA4, -, hbb, ⟨q0, q1, q2, q3, q4, q5⟩, -, -, -⟩ := (unhide HR X bX0).slots.slt hn
  rw [← slAt_get e hn] at q0 q1 q2 q3 q4 q5
  have HA4 := hide hA4
  rw [hA4] at y3
  clear hA4
  rw [unhide HA4]
  have hin : inB (n : Int) 0 ((e.slots.length : Int) - 1) = true := inB_true.2 (by omega)
  have i0 : (n : Int) < (e.slots.length : Int) := by omega
  obtain ⟨V, hV⟩ : ∃ V : World, V = X.alloc (.cells (sltV (slAt e n) P0 d0 P1 d1 P2 d2).toArray 141) := ⟨_, rfl⟩
  have bXV : Below X.heap.size X V := by rw [hV]; exact (Below.refl _ _).alloc (Nat.le_refl _) _
  have KS : Blk V X.heap.size 141 (sltV (slAt e n) P0 d0 P1 d1 P2 d2).toArray := by rw [hV]; exact Blk.new _ _ _
  have bWV := bthen bX0 bXV
  have HKS := hide (fun (w' : World) (hb : Below V.heap.size V w') => slt_cells (KS.new_ hb))
  have hXV := bXV.size
  have hXl := KS.lt
  simp only [sltV] at hV
  have HV := hide hV
  clear hV KS
  go_upto_region 5 with (go_at_call 93; refine (l1In_any _ _ _ _).mono ?_; rintro x w' ⟨rfl, rfl⟩)
  rw [← unhide HV]
  clear q0 q1 q2 q3 q4 q5 x0 x1 x2 x3 y0 y1 y2 y3
  obtain ⟨sc0, sc1, sc2, sc3, sc4, sc5⟩ := unhide HKS V (Below.refl _ _)
  obtain ⟨y0, y1, y2, y3⟩ := unhide HK0 V bWV
  rw [unhide HA4] at y3
  have hst := unhide HST V bXV
  have h0 := unhide H_h0
  have h1 := unhide H_h1
  have hc := unhide H_hc
  have z1 : decide (0 < n) = false := by simp [h1]
  clear h1
  have e0 : ((slAt e n).stage == 0) = false := by simp [h0]
  have e1 : ((slAt e n).stage == 1) = true := by simp [h0]
  have KM := same_spec e A1 c1 A2 c2 A3 c3 A4 c4 n V (unhide HR V bWV) (unhide HOK) hn (by omega)
  rw [hc] at KM
  simp only [engA] at KM
  rw [unhide HA4] at KM
  clear h0 hc
  generalize hs : slAt e n = s at *
  have HS := hide hs
  clear hs
  go_wp2_with fail
  refine KM.mono ?_
  rintro x w5 ⟨rfl, b5⟩
  clear KM y0 y1 y2 y3 sc0 sc1 sc2 sc3 sc4 sc5
  have hst5 := hst.new b5
  obtain ⟨gs, hgs, hBg, hgl⟩ := hst5.row hn
  subst hgs
  obtain ⟨O0, o0, O1, o1, O2, o2, ⟨r0, r1, r2, r3, r4, r5⟩, -, m0, m1, m2, m3, m4, m5⟩ := hst5.at_ hn
  obtain ⟨x0, x1, x2, x3, -⟩ := hst5.cells
  have hg5 := hst5.lt
  have HNE := hide hst5.ne
  have hne : g ≠ gs := fun he => unhide HNE (by rw [he])
  have hne' : gs ≠ g := fun he => hne he.symm
  have b05 := bthen bWV b5
  obtain ⟨sc0, sc1, sc2, sc3, sc4, sc5⟩ := unhide HKS w5 b5
  have hX5 : X.heap.size < w5.heap.size := by have := b5.size; omega
  have hst9 := hst5.stage hn 2
  obtain ⟨w9, hw9⟩ : ∃ w9, w9 = w5.setCell ⟨gs, n * 6, none⟩ (.int .i64 2) := ⟨_, rfl⟩
  rw [← hw9] at hst9
  have b9 : Below W.heap.size W w9 := by rw [hw9]; exact b05.trans (((Chg.refl (fun q => q = gs) w5).setCell (.inl rfl) _).below (fun q hq e => by omega) (by have := b05.size; omega))
  have HW9 := hide hw9
  clear hw9
  go_upto_region 18 with fail
  rw [← unhide HW9]
  clear x0 x1 x2 x3
  obtain ⟨x0, x1, x2, x3, -⟩ := hst9.cells
  have hg9 := hst9.lt
  simp only [List.length_set] at x3
  have kR := unhide HK1 w9 b9
  have h9 := b9.size
  have hown9 := hst9.own.keep (w' := w9.setRow (w.heap.size + 1) #[.slice B1 e.base.length f1, .slice B2 e.list.length f2, .slice B3 e.vers.length f3, .slice (some ⟨gs, 0, none⟩) e.slots.length f4]) ⟨by rw [size_setRow]; exact Nat.le_refl _, fun q hq _ => setRow_other w9 (w.heap.size + 1) q _ (by have := hq.1; omega)⟩ (fun q hq _ => setRow_other w9 (w.heap.size + 1) q _ (by have := (hst9.own.rng q hq).1; omega))
  have HOWN := hide ((hown9.mono (Q := fun k => w.heap.size ≤ k) fun k hk _ => by have := hk.1; omega).lower (show w.heap.size ≤ W.heap.size by omega))
  clear hst9 hown9
  go_wp2_with (refine wpList_store_row rfl 96 (.tmp 4) (.tmp 88) rfl (w.heap.size + 1) #[.slice B1 e.base.length f1, .slice B2 e.list.length f2, .slice B3 e.vers.length f3, .slice (some ⟨gs, 0, none⟩) e.slots.length f4] rfl rfl 96 #[.slice none 0 0, .slice none 0 0, .slice none 0 0, .slice none 0 0] kR info_eng4 rfl (sl4_one _ _ _ _ _ _ _ _ _ _ _ _) ?_)
  refine bodyPost_ret (v := .tuple #[.agg #[.slice B1 e.base.length f1, .slice B2 e.list.length f2, .slice B3 e.vers.length f3, .slice (some ⟨gs, 0, none⟩) e.slots.length f4], .bool true]) (results_cell_tmp (p := 4) (q := 5) (ty := 96) rfl _ _ (w.heap.size + 1) 96 #[.slice B1 e.base.length f1, .slice B2 e.list.length f2, .slice B3 e.vers.length f3, .slice (some ⟨gs, 0, none⟩) e.slots.length f4] (0, 0) _ rfl (blk_setRow kR) Tryz.underlying96 rfl info_eng4) rfl ?_
  exact stepEnd (B1 := B1) (B2 := B2) (B3 := B3) (B4 := (some ⟨gs, 0, none⟩)) (f1 := f1) (f2 := f2) (f3 := f3) (f4 := f4) (by simp only [engA, chkN, List.length_set]) (unhide HOWN) (below_setRow (bthen' hb0 b9) (by omega) _)
set_option maxRecDepth 100000 in
set_option maxHeartbeats 8000000 in
theorem stepS_new0 (e : Eng) (A1 : Option Addr) (c1 : Nat) (A2 : Option Addr) (c2 : Nat) (A3 : Option Addr) (c3 : Nat) (A4 : Option Addr) (c4 : Nat) (n : Nat) (w : World) (h : EngRd w e A1 A2 A3 A4) (hok : EngOk e) (hn : n < e.slots.length) (h0 : (slAt e n).stage = 1) (h1 : n = 0) (hc : curE e n = false) :
    Calls Tryz.prog 118 #[.agg (engA e A1 c1 A2 c2 A3 c3 A4 c4), .int .i64 (n : Int)] w fun x w' => StepEnd w (newN e n) true x w' := by
  have H_h0 := hide h0
  clear h0
  have H_h1 := hide h1
  clear h1
  have H_hc := hide hc
  clear hc
  have hn10 := hok.len10
  have hll : e.list.length ≤ 10 := by rw [← hok.len]; exact hn10
  have hvl := hok.vlen
  obtain ⟨W, hW⟩ : ∃ W : World, W = (w.alloc (.cells (engA e A1 c1 A2 c2 A3 c3 A4 c4) 96)).alloc (.cells #[.slice none 0 0, .slice none 0 0, .slice none 0 0, .slice none 0 0] 96) := ⟨_, rfl⟩
  have hb0 : Below w.heap.size w W := by rw [hW]; exact ((Below.refl _ _).alloc (Nat.le_refl _) _).alloc (by simp) _
  have K0 : Blk W w.heap.size 96 (engA e A1 c1 A2 c2 A3 c3 A4 c4) := by rw [hW]; exact (Blk.new _ _ _).alloc _
  have K1 : Blk W (w.heap.size + 1) 96 #[.slice none 0 0, .slice none 0 0, .slice none 0 0, .slice none 0 0] := by
    rw [hW]
    have := Blk.new (w.alloc (.cells (engA e A1 c1 A2 c2 A3 c3 A4 c4) 96)) 96 #[.slice none 0 0, .slice none 0 0, .slice none 0 0, .slice none 0 0]
    simpa using this
  have hW1 := K1.lt
  have hW0 : w.heap.size < W.heap.size := by omega
  have KC := ecopy_spec e A1 c1 A2 c2 A3 c3 A4 c4 W (h.new hb0) hok
  have HK0 := hide (fun (w' : World) (hb : Below W.heap.size W w') => (⟨(K0.new_ hb).cell 0, (K0.new_ hb).cell 1, (K0.new_ hb).cell 2, (K0.new_ hb).cell 3⟩ : w'.cell? ⟨w.heap.size, 0, none⟩ = some (.slice A1 e.base.length c1) ∧ w'.cell? ⟨w.heap.size, 1, none⟩ = some (.slice A2 e.list.length c2) ∧ w'.cell? ⟨w.heap.size, 2, none⟩ = some (.slice A3 e.vers.length c3) ∧ w'.cell? ⟨w.heap.size, 3, none⟩ = some (.slice A4 e.slots.length c4)))
  have HK1 := hide (fun (w' : World) (hb : Below W.heap.size W w') => K1.new_ hb)
  have HR := hide (fun (w' : World) (hb : Below W.heap.size W w') => h.new (bthen hb0 hb))
  obtain ⟨y0, y1, y2, y3⟩ := unhide HK0 W (Below.refl _ _)
  have HOK := hide hok
  simp only [engA] at hW KC ⊢
  clear K0 K1 h hok
  go_enter Tryz.func118, Tryz.ntmps118
  go_upto_region 1 with fail
  rw [← hW]
  clear hW
  go_wp2_with fail
  refine KC.mono ?_
  rintro x w3 ⟨B1, f1, B2, f2, B3, f3, B4, f4, rfl, hown, b3⟩
  have hw3 := b3.size
  have hst0 : EngSt W.heap.size w3.heap.size (w3.alloc (.cells (engA e B1 f1 B2 f2 B3 f3 B4 f4) 96)) e B1 f1 B2 f2 B3 f3 B4 f4 :=
    EngSt.mk_ hown (fun k hk => ⟨hk.1, hk.2⟩) ((Below.refl _ _).alloc (Nat.le_refl _) _) (Nat.le_refl _) hw3 (Blk.new _ _ _)
  have bX0 : Below W.heap.size W (w3.alloc (.cells (engA e B1 f1 B2 f2 B3 f3 B4 f4) 96)) := b3.alloc hw3 _
  obtain ⟨X, hX⟩ : ∃ X : World, X = w3.alloc (.cells (engA e B1 f1 B2 f2 B3 f3 B4 f4) 96) := ⟨_, rfl⟩
  obtain ⟨g, hg⟩ : ∃ g, g = w3.heap.size := ⟨_, rfl⟩
  have hgw : W.heap.size ≤ g := by omega
  rw [← hX] at hst0 bX0
  rw [← hg] at hst0
  simp only [engA] at hX
  have HST := hide (fun (w' : World) (hb : Below X.heap.size X w') => hst0.new hb)
  clear y0 y1 y2 y3 hown KC b3 hw3
  have HX := hide hX
  have HG := hide hg
  clear hX hg
  go_upto_region 2 with fail
  rw [← unhide HX, ← unhide HG]
  obtain ⟨y0, y1, y2, y3⟩ := unhide HK0 X bX0
  obtain ⟨x0, x1, x2, x3, -⟩ := hst0.cells
  have hgX := hst0.lt
  have hgw0 : w.heap.size < g := by omega
  have hgw1 : w.heap.size + 1 < g := by omega
  have hwX : w.heap.size < X.heap.size := by omega
  clear hst0
  obtain ⟨b, off, P0, d0, P1, d1, P2, d2, hA4, -, hbb, ⟨q0, q1, q2, q3, q4, q5⟩, -, -, -⟩ := (unhide HR X bX0).slots.slt hn
  rw [← slAt_get e hn] at q0 q1 q2 q3 q4 q5
  have HA4 := hide hA4
  rw [hA4] at y3
  clear hA4
  rw [unhide HA4]
  have hin : inB (n : Int) 0 ((e.slots.length : Int) - 1) = true := inB_true.2 (by omega)
  have i0 : (n : Int) < (e.slots.length : Int) := by omega
  obtain ⟨V, hV⟩ : ∃ V : World, V = X.alloc (.cells (sltV (slAt e n) P0 d0 P1 d1 P2 d2).toArray 141) := ⟨_, rfl⟩
  have bXV : Below X.heap.size X V := by rw [hV]; exact (Below.refl _ _).alloc (Nat.le_refl _) _
  have KS : Blk V X.heap.size 141 (sltV (slAt e n) P0 d0 P1 d1 P2 d2).toArray := by rw [hV]; exact Blk.new _ _ _
  have bWV := bthen bX0 bXV
  have HKS := hide (fun (w' : World) (hb : Below V.heap.size V w') => slt_cells (KS.new_ hb))
  have hXV := bXV.size
  have hXl := KS.lt
  simp only [sltV] at hV
  have HV := hide hV
  clear hV KS
  go_upto_region 5 with (go_at_call 93; refine (l1In_any _ _ _ _).mono ?_; rintro x w' ⟨rfl, rfl⟩)
  rw [← unhide HV]
  clear q0 q1 q2 q3 q4 q5 x0 x1 x2 x3 y0 y1 y2 y3
  obtain ⟨sc0, sc1, sc2, sc3, sc4, sc5⟩ := unhide HKS V (Below.refl _ _)
  obtain ⟨y0, y1, y2, y3⟩ := unhide HK0 V bWV
  rw [unhide HA4] at y3
  have hst := unhide HST V bXV
  have h0 := unhide H_h0
  have h1 := unhide H_h1
  have hc := unhide H_hc
  have z1 : decide (0 < n) = false := by simp [h1]
  clear h1
  have e0 : ((slAt e n).stage == 0) = false := by simp [h0]
  have e1 : ((slAt e n).stage == 1) = true := by simp [h0]
  have KM := same_spec e A1 c1 A2 c2 A3 c3 A4 c4 n V (unhide HR V bWV) (unhide HOK) hn (by omega)
  rw [hc] at KM
  simp only [engA] at KM
  rw [unhide HA4] at KM
  clear h0 hc
  generalize hs : slAt e n = s at *
  have HS := hide hs
  clear hs
  go_wp2_with fail
  refine KM.mono ?_
  rintro x w5 ⟨rfl, b5⟩
  clear KM y0 y1 y2 y3 sc0 sc1 sc2 sc3 sc4 sc5
  have hst5 := hst.new b5
  obtain ⟨gs, hgs, hBg, hgl⟩ := hst5.row hn
  subst hgs
  obtain ⟨O0, o0, O1, o1, O2, o2, ⟨r0, r1, r2, r3, r4, r5⟩, -, m0, m1, m2, m3, m4, m5⟩ := hst5.at_ hn
  obtain ⟨x0, x1, x2, x3, -⟩ := hst5.cells
  have hg5 := hst5.lt
  have HNE := hide hst5.ne
  have hne : g ≠ gs := fun he => unhide HNE (by rw [he])
  have hne' : gs ≠ g := fun he => hne he.symm
  have b05 := bthen bWV b5
  obtain ⟨sc0, sc1, sc2, sc3, sc4, sc5⟩ := unhide HKS w5 b5
  have hX5 : X.heap.size < w5.heap.size := by have := b5.size; omega
  have hst6 := hst5.slot hn ⟨0, s.tries, [], zEff⟩ none 0 none 0 none 0 (RdP.nil _ _ _) (RdP.nil _ _ _) (RdP.nil _ _ _)
  obtain ⟨w6, hw6⟩ : ∃ w6, w6 = set6 w5 gs (n * 6) ⟨0, s.tries, [], zEff⟩ none 0 none 0 none 0 := ⟨_, rfl⟩
  have hch : Chg (fun q => q = gs) w5 w6 := by rw [hw6]; exact set6_chg _ _ _ _ _ _ _ _ _ _
  rw [← hw6] at hst6
  simp only [set6, zEff, List.length_nil] at hw6
  have b6 : Below W.heap.size W w6 := b05.trans (hch.below (fun q hq e => by omega) (by have := b05.size; omega))
  rw [unhide HS] at r0 r1 r2 r3 r4 r5
  have HW6 := hide hw6
  clear hw6
  go_upto_region 20 with fail
  rw [← unhide HW6]
  clear x0 x1 x2 x3 r0 r1 r2 r3 r4 r5 m0 m1 m2 m3 m4 m5 sc0 sc1 sc2 sc3 sc4 sc5
  obtain ⟨y0, y1, y2, y3⟩ := unhide HK0 w6 b6
  have HST6 := hide (fun (w' : World) (hb : Below w6.heap.size w6 w') => hst6.new hb)
  have hg6 := hst6.lt
  have hgs6 : gs < w6.heap.size := by have := hch.size; omega
  have KD := drop_spec A3 c3 e.vers (n : Int) w6 (unhide HR w6 b6).vers (by omega)
  clear hst6
  go_wp2_with fail
  refine KD.mono ?_
  rintro x w7 ⟨g8, c8, rfl, o8, b7⟩
  have hst7 := unhide HST6 w7 b7
  have hst9 := hst7.vers (dropV e.vers (n : Int)) (some ⟨g8, 0, none⟩) c8 (own_out o8 hg6 (by have := b6.size; omega) (gs_lt hgs6))
  obtain ⟨x0, x1, x2, x3, -⟩ := hst7.cells
  have fg : w7.frozen? ⟨g, 2, none⟩ = false := hst7.box.frozen 2
  have hg7 := hst7.lt
  have b67 := bthen b6 b7
  obtain ⟨w9, hw9⟩ : ∃ w9, w9 = w7.setCell ⟨g, 2, none⟩ (.slice (some ⟨g8, 0, none⟩) (dropV e.vers (n : Int)).length c8) := ⟨_, rfl⟩
  rw [← hw9] at hst9
  have b9 : Below W.heap.size W w9 := by rw [hw9]; exact b67.trans (((Chg.refl (fun q => q = g) w7).setCell (.inl rfl) _).below (fun q hq e => by omega) (by have := b67.size; omega))
  have HW9 := hide hw9
  clear hw9 hst7
  go_upto_region 21 with fail
  rw [← unhide HW9]
  clear x0 x1 x2 x3
  obtain ⟨x0, x1, x2, x3, -⟩ := hst9.cells
  have hg9 := hst9.lt
  simp only [List.length_set] at x3
  have HNN := hide (show newN e n = ⟨e.base, e.list, dropV e.vers (n : Int), e.slots.set n ⟨0, s.tries, [], zEff⟩⟩ from by unfold newN; rw [unhide HS])

  have kR := unhide HK1 w9 b9
  have h9 := b9.size
  have hown9 := hst9.own.keep (w' := w9.setRow (w.heap.size + 1) #[.slice B1 e.base.length f1, .slice B2 e.list.length f2, .slice (some ⟨g8, 0, none⟩) (dropV e.vers (n : Int)).length c8, .slice (some ⟨gs, 0, none⟩) e.slots.length f4]) ⟨by rw [size_setRow]; exact Nat.le_refl _, fun q hq _ => setRow_other w9 (w.heap.size + 1) q _ (by have := hq.1; omega)⟩ (fun q hq _ => setRow_other w9 (w.heap.size + 1) q _ (by have := (hst9.own.rng q hq).1; omega))
  have HOWN := hide ((hown9.mono (Q := fun k => w.heap.size ≤ k) fun k hk _ => by have := hk.1; omega).lower (show w.heap.size ≤ W.heap.size by omega))
  clear hst9 hown9
  go_wp2_with (refine wpList_store_row rfl 96 (.tmp 4) (.tmp 101) rfl (w.heap.size + 1) #[.slice B1 e.base.length f1, .slice B2 e.list.length f2, .slice (some ⟨g8, 0, none⟩) (dropV e.vers (n : Int)).length c8, .slice (some ⟨gs, 0, none⟩) e.slots.length f4] rfl rfl 96 #[.slice none 0 0, .slice none 0 0, .slice none 0 0, .slice none 0 0] kR info_eng4 rfl (sl4_one _ _ _ _ _ _ _ _ _ _ _ _) ?_)
  refine bodyPost_ret (v := .tuple #[.agg #[.slice B1 e.base.length f1, .slice B2 e.list.length f2, .slice (some ⟨g8, 0, none⟩) (dropV e.vers (n : Int)).length c8, .slice (some ⟨gs, 0, none⟩) e.slots.length f4], .bool true]) (results_cell_tmp (p := 4) (q := 5) (ty := 96) rfl _ _ (w.heap.size + 1) 96 #[.slice B1 e.base.length f1, .slice B2 e.list.length f2, .slice (some ⟨g8, 0, none⟩) (dropV e.vers (n : Int)).length c8, .slice (some ⟨gs, 0, none⟩) e.slots.length f4] (0, 0) _ rfl (blk_setRow kR) Tryz.underlying96 rfl info_eng4) rfl ?_
  exact stepEnd (B1 := B1) (B2 := B2) (B3 := (some ⟨g8, 0, none⟩)) (B4 := (some ⟨gs, 0, none⟩)) (f1 := f1) (f2 := f2) (f3 := c8) (f4 := f4) (by rw [unhide HNN]; simp only [engA, List.length_set]) (by rw [unhide HNN]; exact unhide HOWN) (below_setRow (bthen' hb0 b9) (by omega) _)
set_option maxRecDepth 100000 in
set_option maxHeartbeats 8000000 in
theorem stepS_chk (e : Eng) (A1 : Option Addr) (c1 : Nat) (A2 : Option Addr) (c2 : Nat) (A3 : Option Addr) (c3 : Nat) (A4 : Option Addr) (c4 : Nat) (n : Nat) (w : World) (h : EngRd w e A1 A2 A3 A4) (hok : EngOk e) (hn : n < e.slots.length) (h0 : (slAt e n).stage = 1) (h1 : 0 < n) (h2 : (slAt e (n - 1)).stage = 2) (hc : curE e n = true) :
    Calls Tryz.prog 118 #[.agg (engA e A1 c1 A2 c2 A3 c3 A4 c4), .int .i64 (n : Int)] w fun x w' => StepEnd w (chkN e n) true x w' := by
  obtain ⟨p, rfl⟩ : ∃ p, n = p + 1 := ⟨n - 1, by omega⟩
  rw [show p + 1 - 1 = p by omega] at h2
  have H_h0 := hide h0
  clear h0
  have H_h1 := hide h1
  clear h1
  have H_h2 := hide h2
  clear h2
  have H_hc := hide hc
  clear hc
  have hn10 := hok.len10
  have hll : e.list.length ≤ 10 := by rw [← hok.len]; exact hn10
  have hvl := hok.vlen
  obtain ⟨W, hW⟩ : ∃ W : World, W = (w.alloc (.cells (engA e A1 c1 A2 c2 A3 c3 A4 c4) 96)).alloc (.cells #[.slice none 0 0, .slice none 0 0, .slice none 0 0, .slice none 0 0] 96) := ⟨_, rfl⟩
  have hb0 : Below w.heap.size w W := by rw [hW]; exact ((Below.refl _ _).alloc (Nat.le_refl _) _).alloc (by simp) _
  have K0 : Blk W w.heap.size 96 (engA e A1 c1 A2 c2 A3 c3 A4 c4) := by rw [hW]; exact (Blk.new _ _ _).alloc _
  have K1 : Blk W (w.heap.size + 1) 96 #[.slice none 0 0, .slice none 0 0, .slice none 0 0, .slice none 0 0] := by
    rw [hW]
    have := Blk.new (w.alloc (.cells (engA e A1 c1 A2 c2 A3 c3 A4 c4) 96)) 96 #[.slice none 0 0, .slice none 0 0, .slice none 0 0, .slice none 0 0]
    simpa using this
  have hW1 := K1.lt
  have hW0 : w.heap.size < W.heap.size := by omega
  have KC := ecopy_spec e A1 c1 A2 c2 A3 c3 A4 c4 W (h.new hb0) hok
  have HK0 := hide (fun (w' : World) (hb : Below W.heap.size W w') => (⟨(K0.new_ hb).cell 0, (K0.new_ hb).cell 1, (K0.new_ hb).cell 2, (K0.new_ hb).cell 3⟩ : w'.cell? ⟨w.heap.size, 0, none⟩ = some (.slice A1 e.base.length c1) ∧ w'.cell? ⟨w.heap.size, 1, none⟩ = some (.slice A2 e.list.length c2) ∧ w'.cell? ⟨w.heap.size, 2, none⟩ = some (.slice A3 e.vers.length c3) ∧ w'.cell? ⟨w.heap.size, 3, none⟩ = some (.slice A4 e.slots.length c4)))
  have HK1 := hide (fun (w' : World) (hb : Below W.heap.size W w') => K1.new_ hb)
  have HR := hide (fun (w' : World) (hb : Below W.heap.size W w') => h.new (bthen hb0 hb))
  obtain ⟨y0, y1, y2, y3⟩ := unhide HK0 W (Below.refl _ _)
  have HOK := hide hok
  simp only [engA] at hW KC ⊢
  clear K0 K1 h hok
  go_enter Tryz.func118, Tryz.ntmps118
  go_upto_region 1 with fail
  rw [← hW]
  clear hW
  go_wp2_with fail
  refine KC.mono ?_
  rintro x w3 ⟨B1, f1, B2, f2, B3, f3, B4, f4, rfl, hown, b3⟩
  have hw3 := b3.size
  have hst0 : EngSt W.heap.size w3.heap.size (w3.alloc (.cells (engA e B1 f1 B2 f2 B3 f3 B4 f4) 96)) e B1 f1 B2 f2 B3 f3 B4 f4 :=
    EngSt.mk_ hown (fun k hk => ⟨hk.1, hk.2⟩) ((Below.refl _ _).alloc (Nat.le_refl _) _) (Nat.le_refl _) hw3 (Blk.new _ _ _)
  have bX0 : Below W.heap.size W (w3.alloc (.cells (engA e B1 f1 B2 f2 B3 f3 B4 f4) 96)) := b3.alloc hw3 _
  obtain ⟨X, hX⟩ : ∃ X : World, X = w3.alloc (.cells (engA e B1 f1 B2 f2 B3 f3 B4 f4) 96) := ⟨_, rfl⟩
  obtain ⟨g, hg⟩ : ∃ g, g = w3.heap.size := ⟨_, rfl⟩
  have hgw : W.heap.size ≤ g := by omega
  rw [← hX] at hst0 bX0
  rw [← hg] at hst0
  simp only [engA] at hX
  have HST := hide (fun (w' : World) (hb : Below X.heap.size X w') => hst0.new hb)
  clear y0 y1 y2 y3 hown KC b3 hw3
  have HX := hide hX
  have HG := hide hg
  clear hX hg
  go_upto_region 2 with fail
  rw [← unhide HX, ← unhide HG]
  obtain ⟨y0, y1, y2, y3⟩ := unhide HK0 X bX0
  obtain ⟨x0, x1, x2, x3, -⟩ := hst0.cells
  have hgX := hst0.lt
  have hgw0 : w.heap.size < g := by omega
  have hgw1 : w.heap.size + 1 < g := by omega
  have hwX : w.heap.size < X.heap.size := by omega
  clear hst0
  obtain ⟨b, off, P0, d0, P1, d1, P2, d2, hA4, -, hbb, ⟨q0, q1, q2, q3, q4, q5⟩, -, -, -⟩ := (unhide HR X bX0).slots.slt hn
  rw [← slAt_get e hn] at q0 q1 q2 q3 q4 q5
  have HA4 := hide hA4
  rw [hA4] at y3
  clear hA4
  rw [unhide HA4]
  have hin : inB ((p : Int) + 1) 0 ((e.slots.length : Int) - 1) = true := inB_true.2 (by omega)
  have i0 : ((p : Int) + 1) < (e.slots.length : Int) := by omega
  obtain ⟨V, hV⟩ : ∃ V : World, V = X.alloc (.cells (sltV (slAt e (p + 1)) P0 d0 P1 d1 P2 d2).toArray 141) := ⟨_, rfl⟩
  have bXV : Below X.heap.size X V := by rw [hV]; exact (Below.refl _ _).alloc (Nat.le_refl _) _
  have KS : Blk V X.heap.size 141 (sltV (slAt e (p + 1)) P0 d0 P1 d1 P2 d2).toArray := by rw [hV]; exact Blk.new _ _ _
  have bWV := bthen bX0 bXV
  have HKS := hide (fun (w' : World) (hb : Below V.heap.size V w') => slt_cells (KS.new_ hb))
  have hXV := bXV.size
  have hXl := KS.lt
  simp only [sltV] at hV
  have HV := hide hV
  clear hV KS
  go_upto_region 5 with (go_at_call 93; refine (l1In_any _ _ _ _).mono ?_; rintro x w' ⟨rfl, rfl⟩)
  rw [← unhide HV]
  clear q0 q1 q2 q3 q4 q5 x0 x1 x2 x3 y0 y1 y2 y3
  obtain ⟨sc0, sc1, sc2, sc3, sc4, sc5⟩ := unhide HKS V (Below.refl _ _)
  obtain ⟨y0, y1, y2, y3⟩ := unhide HK0 V bWV
  rw [unhide HA4] at y3
  have hst := unhide HST V bXV
  have h0 := unhide H_h0
  have h1 := unhide H_h1
  have h2 := unhide H_h2
  have hc := unhide H_hc
  have hp : p < e.slots.length := by omega
  obtain ⟨b', off', _, _, _, _, _, _, hA4', -, hbb', ⟨p0, -, -, -, -, -⟩, -, -, -⟩ := (unhide HR V bWV).slots.slt hp
  rw [← slAt_get e hp] at p0
  rw [unhide HA4] at hA4'
  injection hA4' with hA4'
  injection hA4' with hA5 hA6
  subst hA5
  subst hA6
  have z1 : decide (0 < p + 1) = true := by simp
  have i2 : (p : Int) < (e.slots.length : Int) := by omega
  have e2 : ((slAt e p).stage != 2) = false := by simpa using h2
  clear h1 h2
  have e0 : ((slAt e (p + 1)).stage == 0) = false := by simp [h0]
  have e1 : ((slAt e (p + 1)).stage == 1) = true := by simp [h0]
  have KM := same_spec e A1 c1 A2 c2 A3 c3 A4 c4 (p + 1) V (unhide HR V bWV) (unhide HOK) hn (by omega)
  rw [hc] at KM
  simp only [engA] at KM
  rw [unhide HA4] at KM
  clear h0 hc
  generalize hs : slAt e (p + 1) = s at *
  have HS := hide hs
  clear hs
  go_wp2_with fail
  refine KM.mono ?_
  rintro x w5 ⟨rfl, b5⟩
  clear KM y0 y1 y2 y3 sc0 sc1 sc2 sc3 sc4 sc5 p0
  have hst5 := hst.new b5
  obtain ⟨gs, hgs, hBg, hgl⟩ := hst5.row hn
  subst hgs
  obtain ⟨O0, o0, O1, o1, O2, o2, ⟨r0, r1, r2, r3, r4, r5⟩, -, m0, m1, m2, m3, m4, m5⟩ := hst5.at_ hn
  obtain ⟨x0, x1, x2, x3, -⟩ := hst5.cells
  have hg5 := hst5.lt
  have HNE := hide hst5.ne
  have hne : g ≠ gs := fun he => unhide HNE (by rw [he])
  have hne' : gs ≠ g := fun he => hne he.symm
  have b05 := bthen bWV b5
  obtain ⟨sc0, sc1, sc2, sc3, sc4, sc5⟩ := unhide HKS w5 b5
  have hX5 : X.heap.size < w5.heap.size := by have := b5.size; omega
  have hst9 := hst5.stage hn 2
  obtain ⟨w9, hw9⟩ : ∃ w9, w9 = w5.setCell ⟨gs, (p + 1) * 6, none⟩ (.int .i64 2) := ⟨_, rfl⟩
  rw [← hw9] at hst9
  have b9 : Below W.heap.size W w9 := by rw [hw9]; exact b05.trans (((Chg.refl (fun q => q = gs) w5).setCell (.inl rfl) _).below (fun q hq e => by omega) (by have := b05.size; omega))
  have HW9 := hide hw9
  clear hw9
  go_upto_region 18 with fail
  rw [← unhide HW9]
  clear x0 x1 x2 x3
  obtain ⟨x0, x1, x2, x3, -⟩ := hst9.cells
  have hg9 := hst9.lt
  simp only [List.length_set] at x3
  have kR := unhide HK1 w9 b9
  have h9 := b9.size
  have hown9 := hst9.own.keep (w' := w9.setRow (w.heap.size + 1) #[.slice B1 e.base.length f1, .slice B2 e.list.length f2, .slice B3 e.vers.length f3, .slice (some ⟨gs, 0, none⟩) e.slots.length f4]) ⟨by rw [size_setRow]; exact Nat.le_refl _, fun q hq _ => setRow_other w9 (w.heap.size + 1) q _ (by have := hq.1; omega)⟩ (fun q hq _ => setRow_other w9 (w.heap.size + 1) q _ (by have := (hst9.own.rng q hq).1; omega))
  have HOWN := hide ((hown9.mono (Q := fun k => w.heap.size ≤ k) fun k hk _ => by have := hk.1; omega).lower (show w.heap.size ≤ W.heap.size by omega))
  clear hst9 hown9
  go_wp2_with (refine wpList_store_row rfl 96 (.tmp 4) (.tmp 88) rfl (w.heap.size + 1) #[.slice B1 e.base.length f1, .slice B2 e.list.length f2, .slice B3 e.vers.length f3, .slice (some ⟨gs, 0, none⟩) e.slots.length f4] rfl rfl 96 #[.slice none 0 0, .slice none 0 0, .slice none 0 0, .slice none 0 0] kR info_eng4 rfl (sl4_one _ _ _ _ _ _ _ _ _ _ _ _) ?_)
  refine bodyPost_ret (v := .tuple #[.agg #[.slice B1 e.base.length f1, .slice B2 e.list.length f2, .slice B3 e.vers.length f3, .slice (some ⟨gs, 0, none⟩) e.slots.length f4], .bool true]) (results_cell_tmp (p := 4) (q := 5) (ty := 96) rfl _ _ (w.heap.size + 1) 96 #[.slice B1 e.base.length f1, .slice B2 e.list.length f2, .slice B3 e.vers.length f3, .slice (some ⟨gs, 0, none⟩) e.slots.length f4] (0, 0) _ rfl (blk_setRow kR) Tryz.underlying96 rfl info_eng4) rfl ?_
  exact stepEnd (B1 := B1) (B2 := B2) (B3 := B3) (B4 := (some ⟨gs, 0, none⟩)) (f1 := f1) (f2 := f2) (f3 := f3) (f4 := f4) (by simp only [engA, chkN, List.length_set]) (unhide HOWN) (below_setRow (bthen' hb0 b9) (by omega) _)
set_option maxRecDepth 100000 in
set_option maxHeartbeats 8000000 in
theorem stepS_new (e : Eng) (A1 : Option Addr) (c1 : Nat) (A2 : Option Addr) (c2 : Nat) (A3 : Option Addr) (c3 : Nat) (A4 : Option Addr) (c4 : Nat) (n : Nat) (w : World) (h : EngRd w e A1 A2 A3 A4) (hok : EngOk e) (hn : n < e.slots.length) (h0 : (slAt e n).stage = 1) (h1 : 0 < n) (h2 : (slAt e (n - 1)).stage = 2) (hc : curE e n = false) :
    Calls Tryz.prog 118 #[.agg (engA e A1 c1 A2 c2 A3 c3 A4 c4), .int .i64 (n : Int)] w fun x w' => StepEnd w (newN e n) true x w' := by
  obtain ⟨p, rfl⟩ : ∃ p, n = p + 1 := ⟨n - 1, by omega⟩
  rw [show p + 1 - 1 = p by omega] at h2
  have H_h0 := hide h0
  clear h0
  have H_h1 := hide h1
  clear h1
  have H_h2 := hide h2
  clear h2
  have H_hc := hide hc
  clear hc
  have hn10 := hok.len10
  have hll : e.list.length ≤ 10 := by rw [← hok.len]; exact hn10
  have hvl := hok.vlen
  obtain ⟨W, hW⟩ : ∃ W : World, W = (w.alloc (.cells (engA e A1 c1 A2 c2 A3 c3 A4 c4) 96)).alloc (.cells #[.slice none 0 0, .slice none 0 0, .slice none 0 0, .slice none 0 0] 96) := ⟨_, rfl⟩
  have hb0 : Below w.heap.size w W := by rw [hW]; exact ((Below.refl _ _).alloc (Nat.le_refl _) _).alloc (by simp) _
  have K0 : Blk W w.heap.size 96 (engA e A1 c1 A2 c2 A3 c3 A4 c4) := by rw [hW]; exact (Blk.new _ _ _).alloc _
  have K1 : Blk W (w.heap.size + 1) 96 #[.slice none 0 0, .slice none 0 0, .slice none 0 0, .slice none 0 0] := by
    rw [hW]
    have := Blk.new (w.alloc (.cells (engA e A1 c1 A2 c2 A3 c3 A4 c4) 96)) 96 #[.slice none 0 0, .slice none 0 0, .slice none 0 0, .slice none 0 0]
    simpa using this
  have hW1 := K1.lt
  have hW0 : w.heap.size < W.heap.size := by omega
  have KC := ecopy_spec e A1 c1 A2 c2 A3 c3 A4 c4 W (h.new hb0) hok
  have HK0 := hide (fun (w' : World) (hb : Below W.heap.size W w') => (⟨(K0.new_ hb).cell 0, (K0.new_ hb).cell 1, (K0.new_ hb).cell 2, (K0.new_ hb).cell 3⟩ : w'.cell? ⟨w.heap.size, 0, none⟩ = some (.slice A1 e.base.length c1) ∧ w'.cell? ⟨w.heap.size, 1, none⟩ = some (.slice A2 e.list.length c2) ∧ w'.cell? ⟨w.heap.size, 2, none⟩ = some (.slice A3 e.vers.length c3) ∧ w'.cell? ⟨w.heap.size, 3, none⟩ = some (.slice A4 e.slots.length c4)))
  have HK1 := hide (fun (w' : World) (hb : Below W.heap.size W w') => K1.new_ hb)
  have HR := hide (fun (w' : World) (hb : Below W.heap.size W w') => h.new (bthen hb0 hb))
  obtain ⟨y0, y1, y2, y3⟩ := unhide HK0 W (Below.refl _ _)
  have HOK := hide hok
  simp only [engA] at hW KC ⊢
  clear K0 K1 h hok
  go_enter Tryz.func118, Tryz.ntmps118
  go_upto_region 1 with fail
  rw [← hW]
  clear hW
  go_wp2_with fail
  refine KC.mono ?_
  rintro x w3 ⟨B1, f1, B2, f2, B3, f3, B4, f4, rfl, hown, b3⟩
  have hw3 := b3.size
  have hst0 : EngSt W.heap.size w3.heap.size (w3.alloc (.cells (engA e B1 f1 B2 f2 B3 f3 B4 f4) 96)) e B1 f1 B2 f2 B3 f3 B4 f4 :=
    EngSt.mk_ hown (fun k hk => ⟨hk.1, hk.2⟩) ((Below.refl _ _).alloc (Nat.le_refl _) _) (Nat.le_refl _) hw3 (Blk.new _ _ _)
  have bX0 : Below W.heap.size W (w3.alloc (.cells (engA e B1 f1 B2 f2 B3 f3 B4 f4) 96)) := b3.alloc hw3 _
  obtain ⟨X, hX⟩ : ∃ X : World, X = w3.alloc (.cells (engA e B1 f1 B2 f2 B3 f3 B4 f4) 96) := ⟨_, rfl⟩
  obtain ⟨g, hg⟩ : ∃ g, g = w3.heap.size := ⟨_, rfl⟩
  have hgw : W.heap.size ≤ g := by omega
  rw [← hX] at hst0 bX0
  rw [← hg] at hst0
  simp only [engA] at hX
  have HST := hide (fun (w' : World) (hb : Below X.heap.size X w') => hst0.new hb)
  clear y0 y1 y2 y3 hown KC b3 hw3
  have HX := hide hX
  have HG := hide hg
  clear hX hg
  go_upto_region 2 with fail
  rw [← unhide HX, ← unhide HG]
  obtain ⟨y0, y1, y2, y3⟩ := unhide HK0 X bX0
  obtain ⟨x0, x1, x2, x3, -⟩ := hst0.cells
  have hgX := hst0.lt
  have hgw0 : w.heap.size < g := by omega
  have hgw1 : w.heap.size + 1 < g := by omega
  have hwX : w.heap.size < X.heap.size := by omega
  clear hst0
  obtain ⟨b, off, P0, d0, P1, d1, P2, d2, hA4, -, hbb, ⟨q0, q1, q2, q3, q4, q5⟩, -, -, -⟩ := (unhide HR X bX0).slots.slt hn
  rw [← slAt_get e hn] at q0 q1 q2 q3 q4 q5
  have HA4 := hide hA4
  rw [hA4] at y3
  clear hA4
  rw [unhide HA4]
  have hin : inB ((p : Int) + 1) 0 ((e.slots.length : Int) - 1) = true := inB_true.2 (by omega)
  have i0 : ((p : Int) + 1) < (e.slots.length : Int) := by omega
  obtain ⟨V, hV⟩ : ∃ V : World, V = X.alloc (.cells (sltV (slAt e (p + 1)) P0 d0 P1 d1 P2 d2).toArray 141) := ⟨_, rfl⟩
  have bXV : Below X.heap.size X V := by rw [hV]; exact (Below.refl _ _).alloc (Nat.le_refl _) _
  have KS : Blk V X.heap.size 141 (sltV (slAt e (p + 1)) P0 d0 P1 d1 P2 d2).toArray := by rw [hV]; exact Blk.new _ _ _
  have bWV := bthen bX0 bXV
  have HKS := hide (fun (w' : World) (hb : Below V.heap.size V w') => slt_cells (KS.new_ hb))
  have hXV := bXV.size
  have hXl := KS.lt
  simp only [sltV] at hV
  have HV := hide hV
  clear hV KS
  go_upto_region 5 with (go_at_call 93; refine (l1In_any _ _ _ _).mono ?_; rintro x w' ⟨rfl, rfl⟩)
  rw [← unhide HV]
  clear q0 q1 q2 q3 q4 q5 x0 x1 x2 x3 y0 y1 y2 y3
  obtain ⟨sc0, sc1, sc2, sc3, sc4, sc5⟩ := unhide HKS V (Below.refl _ _)
  obtain ⟨y0, y1, y2, y3⟩ := unhide HK0 V bWV
  rw [unhide HA4] at y3
  have hst := unhide HST V bXV
  have h0 := unhide H_h0
  have h1 := unhide H_h1
  have h2 := unhide H_h2
  have hc := unhide H_hc
  have hp : p < e.slots.length := by omega
  obtain ⟨b', off', _, _, _, _, _, _, hA4', -, hbb', ⟨p0, -, -, -, -, -⟩, -, -, -⟩ := (unhide HR V bWV).slots.slt hp
  rw [← slAt_get e hp] at p0
  rw [unhide HA4] at hA4'
  injection hA4' with hA4'
  injection hA4' with hA5 hA6
  subst hA5
  subst hA6
  have z1 : decide (0 < p + 1) = true := by simp
  have i2 : (p : Int) < (e.slots.length : Int) := by omega
  have e2 : ((slAt e p).stage != 2) = false := by simpa using h2
  clear h1 h2
  have e0 : ((slAt e (p + 1)).stage == 0) = false := by simp [h0]
  have e1 : ((slAt e (p + 1)).stage == 1) = true := by simp [h0]
  have KM := same_spec e A1 c1 A2 c2 A3 c3 A4 c4 (p + 1) V (unhide HR V bWV) (unhide HOK) hn (by omega)
  rw [hc] at KM
  simp only [engA] at KM
  rw [unhide HA4] at KM
  clear h0 hc
  generalize hs : slAt e (p + 1) = s at *
  have HS := hide hs
  clear hs
  go_wp2_with fail
  refine KM.mono ?_
  rintro x w5 ⟨rfl, b5⟩
  clear KM y0 y1 y2 y3 sc0 sc1 sc2 sc3 sc4 sc5 p0
  have hst5 := hst.new b5
  obtain ⟨gs, hgs, hBg, hgl⟩ := hst5.row hn
  subst hgs
  obtain ⟨O0, o0, O1, o1, O2, o2, ⟨r0, r1, r2, r3, r4, r5⟩, -, m0, m1, m2, m3, m4, m5⟩ := hst5.at_ hn
  obtain ⟨x0, x1, x2, x3, -⟩ := hst5.cells
  have hg5 := hst5.lt
  have HNE := hide hst5.ne
  have hne : g ≠ gs := fun he => unhide HNE (by rw [he])
  have hne' : gs ≠ g := fun he => hne he.symm
  have b05 := bthen bWV b5
  obtain ⟨sc0, sc1, sc2, sc3, sc4, sc5⟩ := unhide HKS w5 b5
  have hX5 : X.heap.size < w5.heap.size := by have := b5.size; omega
  have hst6 := hst5.slot hn ⟨0, s.tries, [], zEff⟩ none 0 none 0 none 0 (RdP.nil _ _ _) (RdP.nil _ _ _) (RdP.nil _ _ _)
  obtain ⟨w6, hw6⟩ : ∃ w6, w6 = set6 w5 gs ((p + 1) * 6) ⟨0, s.tries, [], zEff⟩ none 0 none 0 none 0 := ⟨_, rfl⟩
  have hch : Chg (fun q => q = gs) w5 w6 := by rw [hw6]; exact set6_chg _ _ _ _ _ _ _ _ _ _
  rw [← hw6] at hst6
  simp only [set6, zEff, List.length_nil] at hw6
  have b6 : Below W.heap.size W w6 := b05.trans (hch.below (fun q hq e => by omega) (by have := b05.size; omega))
  rw [unhide HS] at r0 r1 r2 r3 r4 r5
  have HW6 := hide hw6
  clear hw6
  go_upto_region 20 with fail
  rw [← unhide HW6]
  clear x0 x1 x2 x3 r0 r1 r2 r3 r4 r5 m0 m1 m2 m3 m4 m5 sc0 sc1 sc2 sc3 sc4 sc5
  obtain ⟨y0, y1, y2, y3⟩ := unhide HK0 w6 b6
  have HST6 := hide (fun (w' : World) (hb : Below w6.heap.size w6 w') => hst6.new hb)
  have hg6 := hst6.lt
  have hgs6 : gs < w6.heap.size := by have := hch.size; omega
  have KD := drop_spec A3 c3 e.vers ((p : Int) + 1) w6 (unhide HR w6 b6).vers (by omega)
  clear hst6
  go_wp2_with fail
  refine KD.mono ?_
  rintro x w7 ⟨g8, c8, rfl, o8, b7⟩
  have hst7 := unhide HST6 w7 b7
  have hst9 := hst7.vers (dropV e.vers ((p : Int) + 1)) (some ⟨g8, 0, none⟩) c8 (own_out o8 hg6 (by have := b6.size; omega) (gs_lt hgs6))
  obtain ⟨x0, x1, x2, x3, -⟩ := hst7.cells
  have fg : w7.frozen? ⟨g, 2, none⟩ = false := hst7.box.frozen 2
  have hg7 := hst7.lt
  have b67 := bthen b6 b7
  obtain ⟨w9, hw9⟩ : ∃ w9, w9 = w7.setCell ⟨g, 2, none⟩ (.slice (some ⟨g8, 0, none⟩) (dropV e.vers ((p : Int) + 1)).length c8) := ⟨_, rfl⟩
  rw [← hw9] at hst9
  have b9 : Below W.heap.size W w9 := by rw [hw9]; exact b67.trans (((Chg.refl (fun q => q = g) w7).setCell (.inl rfl) _).below (fun q hq e => by omega) (by have := b67.size; omega))
  have HW9 := hide hw9
  clear hw9 hst7
  go_upto_region 21 with fail
  rw [← unhide HW9]
  clear x0 x1 x2 x3
  obtain ⟨x0, x1, x2, x3, -⟩ := hst9.cells
  have hg9 := hst9.lt
  simp only [List.length_set] at x3
  have HNN := hide (show newN e (p + 1) = ⟨e.base, e.list, dropV e.vers ((p : Int) + 1), e.slots.set (p + 1) ⟨0, s.tries, [], zEff⟩⟩ from by unfold newN; rw [unhide HS, show ((p + 1 : Nat) : Int) = (p : Int) + 1 by omega])

  have kR := unhide HK1 w9 b9
  have h9 := b9.size
  have hown9 := hst9.own.keep (w' := w9.setRow (w.heap.size + 1) #[.slice B1 e.base.length f1, .slice B2 e.list.length f2, .slice (some ⟨g8, 0, none⟩) (dropV e.vers ((p : Int) + 1)).length c8, .slice (some ⟨gs, 0, none⟩) e.slots.length f4]) ⟨by rw [size_setRow]; exact Nat.le_refl _, fun q hq _ => setRow_other w9 (w.heap.size + 1) q _ (by have := hq.1; omega)⟩ (fun q hq _ => setRow_other w9 (w.heap.size + 1) q _ (by have := (hst9.own.rng q hq).1; omega))
  have HOWN := hide ((hown9.mono (Q := fun k => w.heap.size ≤ k) fun k hk _ => by have := hk.1; omega).lower (show w.heap.size ≤ W.heap.size by omega))
  clear hst9 hown9
  go_wp2_with (refine wpList_store_row rfl 96 (.tmp 4) (.tmp 101) rfl (w.heap.size + 1) #[.slice B1 e.base.length f1, .slice B2 e.list.length f2, .slice (some ⟨g8, 0, none⟩) (dropV e.vers ((p : Int) + 1)).length c8, .slice (some ⟨gs, 0, none⟩) e.slots.length f4] rfl rfl 96 #[.slice none 0 0, .slice none 0 0, .slice none 0 0, .slice none 0 0] kR info_eng4 rfl (sl4_one _ _ _ _ _ _ _ _ _ _ _ _) ?_)
  refine bodyPost_ret (v := .tuple #[.agg #[.slice B1 e.base.length f1, .slice B2 e.list.length f2, .slice (some ⟨g8, 0, none⟩) (dropV e.vers ((p : Int) + 1)).length c8, .slice (some ⟨gs, 0, none⟩) e.slots.length f4], .bool true]) (results_cell_tmp (p := 4) (q := 5) (ty := 96) rfl _ _ (w.heap.size + 1) 96 #[.slice B1 e.base.length f1, .slice B2 e.list.length f2, .slice (some ⟨g8, 0, none⟩) (dropV e.vers ((p : Int) + 1)).length c8, .slice (some ⟨gs, 0, none⟩) e.slots.length f4] (0, 0) _ rfl (blk_setRow kR) Tryz.underlying96 rfl info_eng4) rfl ?_
  exact stepEnd (B1 := B1) (B2 := B2) (B3 := (some ⟨g8, 0, none⟩)) (B4 := (some ⟨gs, 0, none⟩)) (f1 := f1) (f2 := f2) (f3 := c8) (f4 := f4) (by rw [unhide HNN]; simp only [engA, List.length_set]) (by rw [unhide HNN]; exact unhide HOWN) (below_setRow (bthen' hb0 b9) (by omega) _)
set_option maxRecDepth 100000 in
set_option maxHeartbeats 8000000 in
theorem stepS_try (e : Eng) (A1 : Option Addr) (c1 : Nat) (A2 : Option Addr) (c2 : Nat) (A3 : Option Addr) (c3 : Nat) (A4 : Option Addr) (c4 : Nat) (n : Nat) (w : World) (h : EngRd w e A1 A2 A3 A4) (hok : EngOk e) (hn : n < e.slots.length) (h0 : (slAt e n).stage = 0) (ht : (slAt e n).tries ≠ 1000) :
    Calls Tryz.prog 118 #[.agg (engA e A1 c1 A2 c2 A3 c3 A4 c4), .int .i64 (n : Int)] w fun x w' => StepEnd w (tryN e n) true x w' := by
  have H_h0 := hide h0
  clear h0
  have H_ht := hide ht
  clear ht
  have hn10 := hok.len10
  have hll : e.list.length ≤ 10 := by rw [← hok.len]; exact hn10
  have hvl := hok.vlen
  obtain ⟨W, hW⟩ : ∃ W : World, W = (w.alloc (.cells (engA e A1 c1 A2 c2 A3 c3 A4 c4) 96)).alloc (.cells #[.slice none 0 0, .slice none 0 0, .slice none 0 0, .slice none 0 0] 96) := ⟨_, rfl⟩
  have hb0 : Below w.heap.size w W := by rw [hW]; exact ((Below.refl _ _).alloc (Nat.le_refl _) _).alloc (by simp) _
  have K0 : Blk W w.heap.size 96 (engA e A1 c1 A2 c2 A3 c3 A4 c4) := by rw [hW]; exact (Blk.new _ _ _).alloc _
  have K1 : Blk W (w.heap.size + 1) 96 #[.slice none 0 0, .slice none 0 0, .slice none 0 0, .slice none 0 0] := by
    rw [hW]
    have := Blk.new (w.alloc (.cells (engA e A1 c1 A2 c2 A3 c3 A4 c4) 96)) 96 #[.slice none 0 0, .slice none 0 0, .slice none 0 0, .slice none 0 0]
    simpa using this
  have hW1 := K1.lt
  have hW0 : w.heap.size < W.heap.size := by omega
  have KC := ecopy_spec e A1 c1 A2 c2 A3 c3 A4 c4 W (h.new hb0) hok
  have HK0 := hide (fun (w' : World) (hb : Below W.heap.size W w') => (⟨(K0.new_ hb).cell 0, (K0.new_ hb).cell 1, (K0.new_ hb).cell 2, (K0.new_ hb).cell 3⟩ : w'.cell? ⟨w.heap.size, 0, none⟩ = some (.slice A1 e.base.length c1) ∧ w'.cell? ⟨w.heap.size, 1, none⟩ = some (.slice A2 e.list.length c2) ∧ w'.cell? ⟨w.heap.size, 2, none⟩ = some (.slice A3 e.vers.length c3) ∧ w'.cell? ⟨w.heap.size, 3, none⟩ = some (.slice A4 e.slots.length c4)))
  have HK1 := hide (fun (w' : World) (hb : Below W.heap.size W w') => K1.new_ hb)
  have HR := hide (fun (w' : World) (hb : Below W.heap.size W w') => h.new (bthen hb0 hb))
  obtain ⟨y0, y1, y2, y3⟩ := unhide HK0 W (Below.refl _ _)
  have HOK := hide hok
  simp only [engA] at hW KC ⊢
  clear K0 K1 h hok
  go_enter Tryz.func118, Tryz.ntmps118
  go_upto_region 1 with fail
  rw [← hW]
  clear hW
  go_wp2_with fail
  refine KC.mono ?_
  rintro x w3 ⟨B1, f1, B2, f2, B3, f3, B4, f4, rfl, hown, b3⟩
  have hw3 := b3.size
  have hst0 : EngSt W.heap.size w3.heap.size (w3.alloc (.cells (engA e B1 f1 B2 f2 B3 f3 B4 f4) 96)) e B1 f1 B2 f2 B3 f3 B4 f4 :=
    EngSt.mk_ hown (fun k hk => ⟨hk.1, hk.2⟩) ((Below.refl _ _).alloc (Nat.le_refl _) _) (Nat.le_refl _) hw3 (Blk.new _ _ _)
  have bX0 : Below W.heap.size W (w3.alloc (.cells (engA e B1 f1 B2 f2 B3 f3 B4 f4) 96)) := b3.alloc hw3 _
  obtain ⟨X, hX⟩ : ∃ X : World, X = w3.alloc (.cells (engA e B1 f1 B2 f2 B3 f3 B4 f4) 96) := ⟨_, rfl⟩
  obtain ⟨g, hg⟩ : ∃ g, g = w3.heap.size := ⟨_, rfl⟩
  have hgw : W.heap.size ≤ g := by omega
  rw [← hX] at hst0 bX0
  rw [← hg] at hst0
  simp only [engA] at hX
  have HST := hide (fun (w' : World) (hb : Below X.heap.size X w') => hst0.new hb)
  clear y0 y1 y2 y3 hown KC b3 hw3
  have HX := hide hX
  have HG := hide hg
  clear hX hg
  go_upto_region 2 with fail
  rw [← unhide HX, ← unhide HG]
  obtain ⟨y0, y1, y2, y3⟩ := unhide HK0 X bX0
  obtain ⟨x0, x1, x2, x3, -⟩ := hst0.cells
  have hgX := hst0.lt
  have hgw0 : w.heap.size < g := by omega
  have hgw1 : w.heap.size + 1 < g := by omega
  have hwX : w.heap.size < X.heap.size := by omega
  clear hst0
  obtain ⟨b, off, P0, d0, P1, d1, P2, d2, hA4, -, hbb, ⟨q0, q1, q2, q3, q4, q5⟩, -, -, -⟩ := (unhide HR X bX0).slots.slt hn
  rw [← slAt_get e hn] at q0 q1 q2 q3 q4 q5
  have HA4 := hide hA4
  rw [hA4] at y3
  clear hA4
  rw [unhide HA4]
  have hin : inB (n : Int) 0 ((e.slots.length : Int) - 1) = true := inB_true.2 (by omega)
  have i0 : (n : Int) < (e.slots.length : Int) := by omega
  obtain ⟨V, hV⟩ : ∃ V : World, V = X.alloc (.cells (sltV (slAt e n) P0 d0 P1 d1 P2 d2).toArray 141) := ⟨_, rfl⟩
  have bXV : Below X.heap.size X V := by rw [hV]; exact (Below.refl _ _).alloc (Nat.le_refl _) _
  have KS : Blk V X.heap.size 141 (sltV (slAt e n) P0 d0 P1 d1 P2 d2).toArray := by rw [hV]; exact Blk.new _ _ _
  have bWV := bthen bX0 bXV
  have HKS := hide (fun (w' : World) (hb : Below V.heap.size V w') => slt_cells (KS.new_ hb))
  have hXV := bXV.size
  have hXl := KS.lt
  simp only [sltV] at hV
  have HV := hide hV
  clear hV KS
  go_upto_region 5 with (go_at_call 93; refine (l1In_any _ _ _ _).mono ?_; rintro x w' ⟨rfl, rfl⟩)
  rw [← unhide HV]
  clear q0 q1 q2 q3 q4 q5 x0 x1 x2 x3 y0 y1 y2 y3
  obtain ⟨sc0, sc1, sc2, sc3, sc4, sc5⟩ := unhide HKS V (Below.refl _ _)
  obtain ⟨y0, y1, y2, y3⟩ := unhide HK0 V bWV
  rw [unhide HA4] at y3
  have hst := unhide HST V bXV
  have h0 := unhide H_h0
  have ht := unhide H_ht
  have e0 : ((slAt e n).stage == 0) = true := by simp [h0]
  have e1 : ((slAt e n).tries == 1000) = false := by simp [ht]
  have htr : 0 ≤ (slAt e n).tries ∧ (slAt e n).tries ≤ 1000 := by
    rcases (unhide HOK).slot n hn with hs | hs
    · exact hs.2.1
    · have := hs.2.1; omega
  have hnl : n < e.list.length := by have := (unhide HOK).len; omega
  have i1 : (n : Int) < (e.list.length : Int) := by omega
  have HLA := hide (acAt_get e hnl)
  have HTRY := hide (fun (w' : World) (hb : Below W.heap.size W w') => try_spec e A1 c1 A3 c3 n w' (unhide HR w' hb).base (unhide HR w' hb).vers (unhide HOK) hn)
  have HTN := hide (show tryN e n = ⟨e.base, e.list, putW e.vers n (effN e n).writes, e.slots.set n ⟨1, (slAt e n).tries + 1, whoL e.base e.vers n (acAt e n), effN e n⟩⟩ from rfl)
  have hel := runV_len (nowV e.base e.vers n) (acAt e n)
  have hel2 : (effN e n).reads.length ≤ 2 ∧ (effN e n).writes.length ≤ 2 := hel
  have hwl : (whoL e.base e.vers n (acAt e n)).length ≤ 2 := by rw [whoL, List.length_map]; exact actReads_len _
  clear h0 ht hel
  generalize hs : slAt e n = s at *
  have HS := hide hs
  clear hs
  generalize whoL e.base e.vers n (acAt e n) = ww at *
  generalize effN e n = E at *
  generalize acAt e n = a at *
  have HY := hide (fun (w' : World) (hb : Below V.heap.size V w') => show (w'.cell? ⟨w.heap.size, 0, none⟩ = some (.slice A1 e.base.length c1) ∧ w'.cell? ⟨w.heap.size, 1, none⟩ = some (.slice A2 e.list.length c2) ∧ w'.cell? ⟨w.heap.size, 2, none⟩ = some (.slice A3 e.vers.length c3)) ∧ Below W.heap.size W w' ∧ Rd w' A2 (e.list.flatMap encA) from by
    obtain ⟨t0, t1, t2, -⟩ := unhide HK0 w' (bthen bWV hb)
    exact ⟨⟨t0, t1, t2⟩, bthen bWV hb, (unhide HR w' (bthen bWV hb)).list⟩)
  have hgV := hst.lt
  clear y0 y1 y2 y3
  have hF : StEL (EB V.heap.size 107) [bV (.pointer (some ⟨w.heap.size, 0, none⟩)), bV (.slice A1 e.base.length c1), bV (.pointer (some ⟨w.heap.size, 1, none⟩)), bV (.slice A2 e.list.length c2), bV (.int .i64 (n : Int)), (fun v _ => ∃ bl ol, v = .pointer (some ⟨bl, ol + n * 4, none⟩) ∧ A2 = some ⟨bl, ol, none⟩), bV (.agg #[.int .i64 a.kind, .int .i64 a.src, .int .i64 a.dst, .int .i64 a.amt]), bV (.pointer (some ⟨w.heap.size, 2, none⟩)), bV (.slice A3 e.vers.length c3), bV (.int .i64 (n : Int)), tryT V.heap.size E ww, tryT V.heap.size E ww, effT V.heap.size E, wwT V.heap.size ww, pV (fun v => v ≠ undef), pV (fun _ => True)] :=
    ⟨fun _ _ _ _ h => h, fun _ _ _ _ h => h, fun _ _ _ _ h => h, fun _ _ _ _ h => h, fun _ _ _ _ h => h, fun _ _ _ _ h => h, fun _ _ _ _ h => h, fun _ _ _ _ h => h, fun _ _ _ _ h => h, fun _ _ _ _ h => h, fun _ _ _ hE h => h.eb hE, fun _ _ _ hE h => h.eb hE, fun _ _ _ hE h => h.eb hE, fun _ _ _ hE h => h.eb hE, fun _ _ _ _ h => h, fun _ _ _ _ h => h, trivial⟩
  go_upto_region 9 with fail
  refine wp_region_box (by kernel_rfl) [(0, some 34), (1, some 35), (2, some 36), (3, some 37), (4, some 38), (5, some 39), (6, some 40), (7, some 41), (8, some 42), (9, some 43), (10, some 44), (11, some 33), (12, some 45), (13, some 46), (14, some 8), (15, none)] [[], [(0, some 34)], [], [(2, some 36)], [], [(3, some 37), (4, some 38)], [(5, some 39)], [], [(7, some 41)], [], [(1, some 35), (6, some 40), (8, some 42), (9, some 43)], [(10, some 44)], [(11, some 33)], [(11, some 33)], [], [(12, some 45), (14, some 8)]] (by kernel_rfl) 15 [0, 1, 2, 3, 4, 5, 6, 7, 8, 9, 10, 11, 12, 14] (by kernel_rfl) 14
    (locB [bV (.pointer (some ⟨w.heap.size, 0, none⟩)), bV (.slice A1 e.base.length c1), bV (.pointer (some ⟨w.heap.size, 1, none⟩)), bV (.slice A2 e.list.length c2), bV (.int .i64 (n : Int)), (fun v _ => ∃ bl ol, v = .pointer (some ⟨bl, ol + n * 4, none⟩) ∧ A2 = some ⟨bl, ol, none⟩), bV (.agg #[.int .i64 a.kind, .int .i64 a.src, .int .i64 a.dst, .int .i64 a.amt]), bV (.pointer (some ⟨w.heap.size, 2, none⟩)), bV (.slice A3 e.vers.length c3), bV (.int .i64 (n : Int)), tryT V.heap.size E ww, tryT V.heap.size E ww, effT V.heap.size E, wwT V.heap.size ww, pV (fun v => v ≠ undef), pV (fun _ => True)]) (EB V.heap.size 107) (BoxR V.heap.size 107 #[.bool false, .slice none 0 0, .slice none 0 0] (qEff V.heap.size E)) (EB.refl _ _) (fun _ _ _ => EB.trans) (locE_st hF _) (.inl ⟨rfl, .inl rfl⟩) ?_ ?_
  · refine steps_cons ?s0 ( steps_cons ?s1 ( steps_cons ?s2 ( steps_cons ?s3 ( steps_cons ?s4 ( steps_cons ?s5 ( steps_cons ?s6 ( steps_cons ?s7 ( steps_cons ?s8 ( steps_cons ?s9 ( steps_cons ?s10 ( steps_cons ?s11 ( steps_cons ?s12 ( steps_cons ?s13 ( steps_cons ?s14 ( steps_cons ?s15 steps_nil)))))))))))))))
    case s0 =>
      intro w' b vp hE hb hR
      obtain rfl := hb (by simp)
      intro Q hQ
      go_wp2
      exact hQ _ _ _ rfl rfl (EB.refl _ _ _) hR
    case s1 =>
      intro w' b vp hE hb hR
      obtain rfl := hb (by simp)
      rintro _ ⟨rfl, -⟩ Q hQ
      have bb := hE.undrew.below (Nat.le_refl _)
      obtain ⟨⟨t0, t1, t2⟩, bW, tl⟩ := unhide HY w' bb
      go_wp2
      exact hQ _ _ _ rfl rfl (EB.refl _ _ _) hR
    case s2 =>
      intro w' b vp hE hb hR
      obtain rfl := hb (by simp)
      intro Q hQ
      go_wp2
      exact hQ _ _ _ rfl rfl (EB.refl _ _ _) hR
    case s3 =>
      intro w' b vp hE hb hR
      obtain rfl := hb (by simp)
      rintro _ ⟨rfl, -⟩ Q hQ
      have bb := hE.undrew.below (Nat.le_refl _)
      obtain ⟨⟨t0, t1, t2⟩, bW, tl⟩ := unhide HY w' bb
      go_wp2
      exact hQ _ _ _ rfl rfl (EB.refl _ _ _) hR
    case s4 =>
      intro w' b vp hE hb hR
      obtain rfl := hb (by simp)
      intro Q hQ
      go_wp2
      exact hQ _ _ _ rfl rfl (EB.refl _ _ _) hR
    case s5 =>
      intro w' b vp hE hb hR
      obtain rfl := hb (by simp)
      rintro _ ⟨rfl, -⟩ _ ⟨rfl, -⟩ Q hQ
      have bb := hE.undrew.below (Nat.le_refl _)
      obtain ⟨⟨t0, t1, t2⟩, bW, tl⟩ := unhide HY w' bb
      obtain ⟨bl, ol, hAl, hbl, l0, l1, l2, l3⟩ := tl.act hnl
      subst hAl
      go_wp2
      exact hQ _ _ _ rfl ⟨bl, ol, rfl, rfl⟩ (EB.refl _ _ _) hR
    case s6 =>
      intro w' b vp hE hb hR
      obtain rfl := hb (by simp)
      rintro _ ⟨⟨bl, ol, rfl, hAl⟩, -⟩ Q hQ
      have bb := hE.undrew.below (Nat.le_refl _)
      obtain ⟨⟨t0, t1, t2⟩, bW, tl⟩ := unhide HY w' bb
      obtain ⟨bl', ol', hAl', hbl, l0, l1, l2, l3⟩ := tl.act hnl
      rw [hAl] at hAl'
      injection hAl' with hAl'
      injection hAl' with h8 h9
      subst h8
      subst h9
      rw [← unhide HLA] at l0 l1 l2 l3
      clear hAl
      go_wp2
      exact hQ _ _ _ rfl rfl (EB.refl _ _ _) hR
    case s7 =>
      intro w' b vp hE hb hR
      obtain rfl := hb (by simp)
      intro Q hQ
      go_wp2
      exact hQ _ _ _ rfl rfl (EB.refl _ _ _) hR
    case s8 =>
      intro w' b vp hE hb hR
      obtain rfl := hb (by simp)
      rintro _ ⟨rfl, -⟩ Q hQ
      have bb := hE.undrew.below (Nat.le_refl _)
      obtain ⟨⟨t0, t1, t2⟩, bW, tl⟩ := unhide HY w' bb
      go_wp2
      exact hQ _ _ _ rfl rfl (EB.refl _ _ _) hR
    case s9 =>
      intro w' b vp hE hb hR
      obtain rfl := hb (by simp)
      intro Q hQ
      go_wp2
      exact hQ _ _ _ rfl rfl (EB.refl _ _ _) hR
    case s10 =>
      intro w' b vp hE hb hR
      obtain rfl := hb (by simp)
      rintro _ ⟨rfl, -⟩ _ ⟨rfl, -⟩ _ ⟨rfl, -⟩ _ ⟨rfl, -⟩ Q hQ
      have bb := hE.undrew.below (Nat.le_refl _)
      obtain ⟨⟨t0, t1, t2⟩, bW, tl⟩ := unhide HY w' bb
      have hsz := bb.size
      go_wp2_with fail
      refine (unhide HTRY w' bW).mono ?_
      rintro x w5 ⟨X1, z1, X2, z2, X3, z3, rfl, o1, o2, o3, b5⟩
      go_wp2
      exact hQ _ _ _ rfl ⟨_, _, rfl, ⟨X1, z1, X2, z2, rfl, own_base o1 hsz, own_base o2 hsz⟩, X3, z3, rfl, own_base o3 hsz⟩ (EB.of_new b5) (hR.new b5 (fun _ h => effT.new h b5))
    case s11 =>
      intro w' b vp hE hb hR
      obtain rfl := hb (by simp)
      rintro _ ⟨⟨u1, u2, rfl, t3, t4⟩, -⟩ Q hQ
      go_wp2
      exact hQ _ _ _ rfl ⟨u1, u2, rfl, t3, t4⟩ (EB.refl _ _ _) hR
    case s12 =>
      intro w' b vp hE hb hR
      obtain rfl := hb (by simp)
      rintro _ ⟨⟨u1, u2, rfl, t3, t4⟩, -⟩ Q hQ
      go_wp2
      exact hQ _ _ _ rfl t3 (EB.refl _ _ _) hR
    case s13 =>
      intro w' b vp hE hbx hR
      clear hbx
      rintro _ ⟨⟨u1, u2, rfl, t3, t4⟩, -⟩ Q hQ
      go_wp2
      exact hQ _ _ _ rfl t4 (EB.refl _ _ _) hR
    case s14 =>
      intro w' b vp hE hb hR
      obtain rfl := hb (by simp)
      intro Q hQ
      have hsz := hE.size
      go_wp2
      exact hQ _ _ _ rfl (fun h => by cases h) (EB.of_new ((Below.refl _ _).alloc (Nat.le_refl _) _)) (.inl ⟨rfl, .inr ⟨w'.heap.size, rfl, hsz, Blk.new _ _ _⟩⟩)
    case s15 =>
      intro w' b vp hE hb hR
      obtain rfl := hb (by simp)
      rintro _ ⟨⟨X1, z1, X2, z2, rfl, o1, o2⟩, -⟩ _ ⟨hnu, hvp⟩ Q hQ
      obtain rfl := hvp rfl
      rcases hR with ⟨-, h | ⟨g8, rfl, hg8, hk9⟩⟩ | ⟨h, _⟩
      · exact absurd h hnu
      · refine wpList_store_row rfl 107 (.tmp 8) (.tmp 45) rfl g8 #[.bool E.done, .slice X1 E.reads.length z1, .slice X2 E.writes.length z2] rfl rfl 107 #[.bool false, .slice none 0 0, .slice none 0 0] hk9 info_eff3 rfl (eff3_one _ _ _ _ _ _ _) ?_
        go_wp2
        exact hQ undef _ _ rfl trivial (EB.setRow hk9 hg8 _) (.inr ⟨rfl, g8, _, rfl, hg8, blk_setRow hk9, X1, z1, X2, z2, rfl, own_EB o1 (EB.setRow hk9 hg8 _) ne_ef, own_EB o2 (EB.setRow hk9 hg8 _) ne_ef⟩)
      · cases h
  intro w5 vp hE hR
  rintro v0 - v1 - v2 - v3 - v4 - v5 - v6 - v7 - v8 - v9 - v10 - v11 - v12 - v13 ⟨⟨B3x, d3, rfl, o3⟩, -⟩ v14 ⟨hnu, hvp⟩ v15 -
  obtain rfl := hvp rfl
  rcases hR with ⟨h, _⟩ | ⟨-, g8, cs, rfl, hg8, k8, X1, z1, X2, z2, hcs, o1, o2⟩
  · cases h
  injection hcs with hcs
  subst hcs
  change wpList _ _ _ [_] _ _
  simp only [Act.put, List.setIfInBounds_toArray, List.set_cons_succ, List.set_cons_zero]
  have b5 := hE.undrew.below (Nat.le_refl _)
  clear hE hF hnu hvp
  have hst5 := hst.new b5
  obtain ⟨gs, hgs, hBg, hgl⟩ := hst5.row hn
  have hgsV : gs < V.heap.size := (hst.own.rng gs hgs).2
  subst hgs
  obtain ⟨O0, o0', O1, o1', O2, o2', ⟨r0, r1, r2, r3, r4, r5⟩, -, m0, m1, m2, m3, m4, m5⟩ := hst5.at_ hn
  obtain ⟨x0, x1, x2, x3, -⟩ := hst5.cells
  have hg5 := hst5.lt
  have HNE := hide hst5.ne
  have hne : g ≠ gs := fun he => unhide HNE (by rw [he])
  have hne' : gs ≠ g := fun he => hne he.symm
  have b05 := bthen bWV b5
  have hWV := bWV.size
  obtain ⟨sd0, sd1, sd2, sd3, sd4, sd5⟩ := unhide HKS w5 b5
  have k80 : w5.cell? ⟨g8, 0, none⟩ = some (.bool E.done) := k8.cell 0
  have k81 : w5.cell? ⟨g8, 1, none⟩ = some (.slice X1 E.reads.length z1) := k8.cell 1
  have k82 : w5.cell? ⟨g8, 2, none⟩ = some (.slice X2 E.writes.length z2) := k8.cell 2
  have hX5 : X.heap.size < w5.heap.size := by have := b5.size; omega
  have hst6 := hst5.slot hn ⟨1, s.tries + 1, ww, E⟩ B3x d3 X1 z1 X2 z2 (own_out o3 hgV hWV (gs_lt hgsV)) (own_out o1 hgV hWV (gs_lt hgsV)) (own_out o2 hgV hWV (gs_lt hgsV))
  obtain ⟨w6, hw6⟩ : ∃ w6, w6 = set6 w5 gs (n * 6) ⟨1, s.tries + 1, ww, E⟩ B3x d3 X1 z1 X2 z2 := ⟨_, rfl⟩
  have hch : Chg (fun q => q = gs) w5 w6 := by rw [hw6]; exact set6_chg _ _ _ _ _ _ _ _ _ _
  rw [← hw6] at hst6
  simp only [set6] at hw6
  have b6 : Below W.heap.size W w6 := b05.trans (hch.below (fun q hq e => by omega) (by have := b05.size; omega))
  rw [unhide HS] at r0 r1 r2 r3 r4 r5
  have k86 := k8.chg hch (show g8 ≠ gs by omega)
  have rW6 := own_rd (own_chg o2 hch (fun q hq e => by have := own_rng o2 q hq; omega))
  have HW6 := hide hw6
  clear hw6 sc0 sc1 sc2 sc3 sc4 sc5 o1 o2 o3
  go_upto_region 11 with fail
  rw [← unhide HW6]
  clear x0 x1 x2 x3 r0 r1 r2 r3 r4 r5 m0 m1 m2 m3 m4 m5 sd0 sd1 sd2 sd3 sd4 sd5 k80 k81 k82 k8
  have k82 : w6.cell? ⟨g8, 2, none⟩ = some (.slice X2 E.writes.length z2) := k86.cell 2
  obtain ⟨y0, y1, y2, -⟩ := unhide HK0 w6 b6
  have HST6 := hide (fun (w' : World) (hb : Below w6.heap.size w6 w') => hst6.new hb)
  have hg6 := hst6.lt
  have hgs6 : gs < w6.heap.size := by have := hch.size; omega
  have KP := put1_spec A3 c3 e.vers (n : Int) X2 z2 E.writes w6 (unhide HR w6 b6).vers (by omega) rW6 (by omega)
  clear hst6
  go_wp2_with fail
  refine KP.mono ?_
  rintro x w7 ⟨A8, c8, rfl, o8, b7⟩
  have hst7 := unhide HST6 w7 b7
  have hst9 := hst7.vers (putW e.vers (n : Int) E.writes) A8 c8 (own_out o8 hg6 (by have := b6.size; omega) (gs_lt hgs6))
  obtain ⟨x0, x1, x2, x3, -⟩ := hst7.cells
  have fg : w7.frozen? ⟨g, 2, none⟩ = false := hst7.box.frozen 2
  have hg7 := hst7.lt
  have b67 := bthen b6 b7
  obtain ⟨w9, hw9⟩ : ∃ w9, w9 = w7.setCell ⟨g, 2, none⟩ (.slice A8 (putW e.vers (n : Int) E.writes).length c8) := ⟨_, rfl⟩
  rw [← hw9] at hst9
  have b9 : Below W.heap.size W w9 := by rw [hw9]; exact b67.trans (((Chg.refl (fun q => q = g) w7).setCell (.inl rfl) _).below (fun q hq e => by omega) (by have := b67.size; omega))
  have HW9 := hide hw9
  clear hw9 hst7
  go_upto_region 12 with fail
  rw [← unhide HW9]
  clear x0 x1 x2 x3
  obtain ⟨x0, x1, x2, x3, -⟩ := hst9.cells
  have hg9 := hst9.lt
  simp only [List.length_set] at x3
  have kR := unhide HK1 w9 b9
  have h9 := b9.size
  have hown9 := hst9.own.keep (w' := w9.setRow (w.heap.size + 1) #[.slice B1 e.base.length f1, .slice B2 e.list.length f2, .slice A8 (putW e.vers (n : Int) E.writes).length c8, .slice (some ⟨gs, 0, none⟩) e.slots.length f4]) ⟨by rw [size_setRow]; exact Nat.le_refl _, fun q hq _ => setRow_other w9 (w.heap.size + 1) q _ (by have := hq.1; omega)⟩ (fun q hq _ => setRow_other w9 (w.heap.size + 1) q _ (by have := (hst9.own.rng q hq).1; omega))
  have HOWN := hide ((hown9.mono (Q := fun k => w.heap.size ≤ k) fun k hk _ => by have := hk.1; omega).lower (show w.heap.size ≤ W.heap.size by omega))
  clear hst9 hown9
  go_wp2_with (refine wpList_store_row rfl 96 (.tmp 4) (.tmp 64) rfl (w.heap.size + 1) #[.slice B1 e.base.length f1, .slice B2 e.list.length f2, .slice A8 (putW e.vers (n : Int) E.writes).length c8, .slice (some ⟨gs, 0, none⟩) e.slots.length f4] rfl rfl 96 #[.slice none 0 0, .slice none 0 0, .slice none 0 0, .slice none 0 0] kR info_eng4 rfl (sl4_one _ _ _ _ _ _ _ _ _ _ _ _) ?_)
  refine bodyPost_ret (v := .tuple #[.agg #[.slice B1 e.base.length f1, .slice B2 e.list.length f2, .slice A8 (putW e.vers (n : Int) E.writes).length c8, .slice (some ⟨gs, 0, none⟩) e.slots.length f4], .bool true]) (results_cell_tmp (p := 4) (q := 5) (ty := 96) rfl _ _ (w.heap.size + 1) 96 #[.slice B1 e.base.length f1, .slice B2 e.list.length f2, .slice A8 (putW e.vers (n : Int) E.writes).length c8, .slice (some ⟨gs, 0, none⟩) e.slots.length f4] (0, 0) _ rfl (blk_setRow kR) Tryz.underlying96 rfl info_eng4) rfl ?_
  exact stepEnd (B1 := B1) (B2 := B2) (B3 := A8) (B4 := (some ⟨gs, 0, none⟩)) (f1 := f1) (f2 := f2) (f3 := c8) (f4 := f4) (by rw [unhide HTN]; simp only [engA, List.length_set]) (by rw [unhide HTN]; exact unhide HOWN) (below_setRow (bthen' hb0 b9) (by omega) _)
theorem step_spec (e : Eng) (A1 : Option Addr) (c1 : Nat) (A2 : Option Addr) (c2 : Nat) (A3 : Option Addr) (c3 : Nat) (A4 : Option Addr) (c4 : Nat) (m : Int) (w : World) (h : EngRd w e A1 A2 A3 A4) (hok : EngOk e) :
    Calls Tryz.prog 118 #[.agg (engA e A1 c1 A2 c2 A3 c3 A4 c4), .int .i64 m] w fun x w' => StepEnd w (stepE e m).1 (stepE e m).2 x w' := by
  cases hm : inB m 0 ((e.slots.length : Int) - 1)
  · have hE : stepE e m = (e, false) := by unfold stepE; rw [if_neg (by simp [hm])]
    rw [hE]
    exact stepS_out e A1 c1 A2 c2 A3 c3 A4 c4 m w h hok hm
  · have hb := inB_true.1 hm
    obtain ⟨n, rfl⟩ := Int.eq_ofNat_of_zero_le hb.1
    have hn : n < e.slots.length := by omega
    have hE : stepE e (n : Int) = stepN e n := by unfold stepE; rw [if_pos hm]; rfl
    rw [hE]
    unfold stepN
    split
    · rename_i h0
      split
      · rename_i ht
        exact stepS_full e A1 c1 A2 c2 A3 c3 A4 c4 n w h hok hn h0 ht
      · rename_i ht
        exact stepS_try e A1 c1 A2 c2 A3 c3 A4 c4 n w h hok hn h0 ht
    · rename_i h0
      split
      · rename_i h1
        split
        · rename_i h2
          exact stepS_wait e A1 c1 A2 c2 A3 c3 A4 c4 n w h hok hn h1 h2.1 h2.2
        · rename_i h2
          by_cases hz : n = 0
          · split
            · rename_i hc
              exact stepS_chk0 e A1 c1 A2 c2 A3 c3 A4 c4 n w h hok hn h1 hz hc
            · rename_i hc
              exact stepS_new0 e A1 c1 A2 c2 A3 c3 A4 c4 n w h hok hn h1 hz (by simpa using hc)
          · have h3 : (slAt e (n - 1)).stage = 2 := by
              by_cases g2 : (slAt e (n - 1)).stage = 2
              · exact g2
              · exact absurd ⟨by omega, g2⟩ h2
            split
            · rename_i hc
              exact stepS_chk e A1 c1 A2 c2 A3 c3 A4 c4 n w h hok hn h1 (by omega) h3 hc
            · rename_i hc
              exact stepS_new e A1 c1 A2 c2 A3 c3 A4 c4 n w h hok hn h1 (by omega) h3 (by simpa using hc)
      · rename_i h1
        have h2 : (slAt e n).stage = 2 := by
          rcases hok.slot n hn with hs | hs
          · exact absurd hs.1 h0
          · rcases hs.1 with g1 | g1
            · exact absurd g1 h1
            · exact g1
        exact stepS_done e A1 c1 A2 c2 A3 c3 A4 c4 n w h hok hn h2
end Go.Proofs.YtihlhejencninaaGreat
