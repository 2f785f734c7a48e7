/- An answer that is drawn with a block (printed by gen_in.py from xdrawtr.in). -/
import Derived.Test.YtefdhlfljpppfaaGdrawt
namespace Go.Proofs.Ytefdhlfljpppfaa
open Go.RowKit
set_option linter.unusedVariables false
set_option linter.unusedSimpArgs false

theorem ask_len5 {t : Tr} {n : Nat} {key : Int} (h : treeB t = true) (hn : n < t.blocks.length) (hk : 0 ≤ key ∧ key ≤ 31) : 5 ≤ (askA t (n : Int) key).proof.length ∧ (askA t (n : Int) key).proof.length ≤ 5 := by
  have hok : askOk t (n : Int) key = true := by simp only [askOk, Bool.and_eq_true]; exact ⟨h, inB_true.2 (by omega), inB_true.2 hk⟩
  rw [askA_yes hok]
  show 5 ≤ (proofL _ _).length ∧ (proofL _ _).length ≤ 5
  unfold proofL
  rw [if_pos ⟨storeT_ok hok, inB_true.2 hk⟩, prN_len]
  omega
def sRA (B : Nat) (v : Value) (w : World) : Prop := ∃ (x : Ans) (A : Option Addr) (c : Nat), (5 ≤ x.proof.length ∧ x.proof.length ≤ 5) ∧ v = .agg #[.int .i64 x.key, .int .i64 x.value, .slice A x.proof.length c] ∧ w.ownsRow B 3 1 (.slice A x.proof.length c) x.proof.length (x.proof.map (.int .i64))
def sRAT (B : Nat) (v : Value) (w : World) : Prop := ∃ (x : Ans) (A : Option Addr) (c : Nat) (ok : Bool), (5 ≤ x.proof.length ∧ x.proof.length ≤ 5) ∧ v = .tuple #[.agg #[.int .i64 x.key, .int .i64 x.value, .slice A x.proof.length c], .bool ok] ∧ w.ownsRow B 3 1 (.slice A x.proof.length c) x.proof.length (x.proof.map (.int .i64))
def qRA (B : Nat) (cs : Array Value) (w : World) : Prop := ∃ (x : Ans) (A : Option Addr) (c : Nat), (5 ≤ x.proof.length ∧ x.proof.length ≤ 5) ∧ cs = #[.int .i64 x.key, .int .i64 x.value, .slice A x.proof.length c] ∧ w.ownsRow B 3 1 (.slice A x.proof.length c) x.proof.length (x.proof.map (.int .i64))
theorem ne_ia3 : (3 : TypeId) ≠ 43 := by decide
theorem info_ans4 : (Try.prog.info? 43).map (·.size) = some 3 := by kernel_rfl
theorem info_bk4 : (Try.prog.info? 41).map (·.size) = some 6 := by kernel_rfl
theorem ans_one4 (k v : Int) (A : Option Addr) (n c : Nat) : (#[Value.int .i64 k, .int .i64 v, .slice A n c]).all (·.oneCell') = true := by
  simp [Value.oneCell']
theorem bk_one4 (a b c : Int) (A : Option Addr) (n k : Nat) (d e : Int) : (#[Value.int .i64 a, .int .i64 b, .int .i64 c, .slice A n k, .int .i64 d, .int .i64 e]).all (·.oneCell') = true := by
  simp [Value.oneCell']
theorem sRA_EG {g B : Nat} (hg : g < B) (v : Value) (a b : World) (hE : EG g B 43 a b) : sRA B v a → sRA B v b := fun ⟨x, A, c, h0, h1, h2⟩ => ⟨x, A, c, h0, h1, own_EG h2 hE ne_ia3 hg⟩
theorem sRAT_EG {g B : Nat} (hg : g < B) (v : Value) (a b : World) (hE : EG g B 43 a b) : sRAT B v a → sRAT B v b := fun ⟨x, A, c, ok, h0, h1, h2⟩ => ⟨x, A, c, ok, h0, h1, own_EG h2 hE ne_ia3 hg⟩
theorem qRA_new {B : Nat} {w w' : World} (hb : Below w.heap.size w w') (cs : Array Value) (h : qRA B cs w) : qRA B cs w' := by
  obtain ⟨x, A, c, h0, h1, h2⟩ := h
  exact ⟨x, A, c, h0, h1, own_new h2 hb⟩
theorem qRA_chg {g B : Nat} (hg : g < B) {w w' : World} (hc : Chg (fun k => k = g) w w') (cs : Array Value) (h : qRA B cs w) : qRA B cs w' := by
  obtain ⟨x, A, c, h0, h1, h2⟩ := h
  exact ⟨x, A, c, h0, h1, own_reader h2 hc hg⟩
/-- the state of the region that draws an answer -/
def RA (g N0 B : Nat) (k : Nat) (b : Bool) (vp : Value) (w : World) : Prop := rdrR g N0 k w ∧ BoxR B 43 #[.int .i64 0, .int .i64 0, .slice none 0 0] (qRA B) b vp w
theorem RA.new {g N0 B k : Nat} {b : Bool} {vp : Value} {w w' : World} (h : RA g N0 B k b vp w) (hb : Below w.heap.size w w') : RA g N0 B k b vp w' := ⟨rdrR_new h.1 hb, h.2.new hb (qRA_new hb)⟩
theorem results_cells2 {P : Program} {fn : Func} {p q : Tmp} {ty ty2 : TypeId} (h : fn.results = #[.cell p ty, .cell q ty2]) (tmps : Array Value) (w : World) (g : Nat) (t : TypeId) (cs : Array Value) (fr : Nat × Nat) (d : TypeDesc) (g2 : Nat) (t2 : TypeId) (cs2 : Array Value) (fr2 : Nat × Nat) (d2 : TypeDesc)
    (hp : tmps.getD p undef = .pointer (some ⟨g, 0, none⟩)) (hg : w.heap[g]? = some (.cells cs t fr))
    (hu : P.underlying ty = some d) (hd : (match d with | .struct _ | .array _ _ => true | _ => false) = true) (hi : (P.info? ty).map (·.size) = some cs.size)
    (hp2 : tmps.getD q undef = .pointer (some ⟨g2, 0, none⟩)) (hg2 : w.heap[g2]? = some (.cells cs2 t2 fr2))
    (hu2 : P.underlying ty2 = some d2) (hd2 : (match d2 with | .struct _ | .array _ _ => true | _ => false) = true) (hi2 : (P.info? ty2).map (·.size) = some cs2.size) :
    (results fn tmps).run P w = .ok (.tuple #[.agg cs, .agg cs2]) w := by
  have hp' : tmps[p]?.getD undef = .pointer (some ⟨g, 0, none⟩) := by simpa using hp
  have hp2' : tmps[q]?.getD undef = .pointer (some ⟨g2, 0, none⟩) := by simpa using hp2
  simp [results, h, hp', hp2', asAddr, run_loadVar_row w g t ty cs fr d hg hu hd hi, run_loadVar_row w g2 t2 ty2 cs2 fr2 d2 hg2 hu2 hd2 hi2]
/-- a world whose block q holds nothing -/
def emptied (w : World) (q : Nat) : World := { w with heap := w.heap.setIfInBounds q (.cells #[] 0 (0, 0)) }
theorem emptied_chg (w : World) (q S : Nat) (h : q < S) : Chg (fun k => k < S) w (emptied w q) :=
  ⟨rfl, rfl, rfl, by simp [emptied], fun k hk hn => by
    show (w.heap.setIfInBounds q _)[k]? = _
    rw [Array.getElem?_setIfInBounds_ne (by omega)]⟩
theorem emptied_cell (w : World) (q o : Nat) : (emptied w q).cell? ⟨q, o, none⟩ = none := by
  by_cases h : q < w.heap.size <;> simp [emptied, World.cell?, Array.getElem?_setIfInBounds, h]
theorem emptied_other (w : World) (q b o : Nat) (h : b ≠ q) : (emptied w q).cell? ⟨b, o, none⟩ = w.cell? ⟨b, o, none⟩ := by
  simp [emptied, World.cell?, Array.getElem?_setIfInBounds_ne (Ne.symm h)]
/-- what can be read whatever happens below S lies at or above S -/
theorem tr_far {w : World} {t : Tr} {A1 A2 A3 : Option Addr} {S : Nat} (hR : ∀ w'', Chg (fun k => k < S) w w'' → TrR w'' t A1 A2 A3) {k : Nat} (hk : k < t.blocks.length) :
    ∃ b off A4 c4, A2 = some ⟨b, off, none⟩ ∧ S ≤ b ∧ b < w.heap.size ∧ w.cell? ⟨b, off + k * 6, none⟩ = some (.int .i64 t.blocks[k].before) ∧ w.cell? ⟨b, off + k * 6 + 1, none⟩ = some (.int .i64 t.blocks[k].height) ∧ w.cell? ⟨b, off + k * 6 + 2, none⟩ = some (.int .i64 t.blocks[k].view) ∧ w.cell? ⟨b, off + k * 6 + 3, none⟩ = some (.slice A4 t.blocks[k].list.length c4) ∧ w.cell? ⟨b, off + k * 6 + 4, none⟩ = some (.int .i64 t.blocks[k].root) ∧ w.cell? ⟨b, off + k * 6 + 5, none⟩ = some (.int .i64 t.blocks[k].eff) ∧ RdP (fun q => S ≤ q) w A4 (t.blocks[k].list.flatMap encA) := by
  obtain ⟨b, off, A4, c4, hA, -, hb, d0, d1, d2, d3, d4, d5, hl, r1⟩ := (hR w ⟨rfl, rfl, rfl, Nat.le_refl _, fun _ _ _ => rfl⟩).b2.bk hk
  have hS : S ≤ b := by
    refine Nat.le_of_not_lt fun h => ?_
    obtain ⟨b', off', A5, c5, hA', -, hb', e0, -⟩ := (hR _ (emptied_chg w b S h)).b2.bk hk
    rw [hA] at hA'
    injection hA' with hA'
    injection hA' with q1 q2
    subst q1
    rw [emptied_cell] at e0
    cases e0
  refine ⟨b, off, A4, c4, hA, hS, hb, d0, d1, d2, d3, d4, d5, fun h0 => ?_⟩
  obtain ⟨g, o, hA4, -, hg, hc⟩ := r1 h0
  refine ⟨g, o, hA4, Nat.le_of_not_lt fun h => ?_, hg, hc⟩
  obtain ⟨b', off', A5, c5, hA', -, hb', -, -, -, e3, -, -, -, r5⟩ := (hR _ (emptied_chg w g S h)).b2.bk hk
  rw [hA] at hA'
  injection hA' with hA'
  injection hA' with q1 q2
  subst q1 q2
  rw [emptied_other w g b _ (by omega), d3] at e3
  injection e3 with e3
  injection e3 with e3
  obtain ⟨g', o', hA5, -, hg', hc'⟩ := r5 h0
  rw [← e3, hA4] at hA5
  injection hA5 with hA5
  injection hA5 with q1 q2
  subst q1
  have := hc' 0 _ (List.getElem?_eq_getElem h0)
  rw [emptied_cell] at this
  cases this
/-- the state while an answer is drawn -/
structure SA (w0 wt : World) (B g bx qa N S : Nat) (t : Tr) (A1 : Option Addr) (c1 : Nat) (A2 : Option Addr) (c2 : Nat) (A3 : Option Addr) (c3 : Nat) (an : Ans) (P : Option Addr) (c : Nat) (w : World) : Prop where
  h : Rdr w g N
  kx : Blk w bx 27 #[.slice A1 t.base.length c1, .slice A2 t.blocks.length c2, .slice A3 t.before.length c3]
  ka : Blk w qa 43 #[.int .i64 an.key, .int .i64 an.value, .slice P an.proof.length c]
  kb : Blk w w0.heap.size 41 #[.int .i64 0, .int .i64 0, .int .i64 0, .slice none 0 0, .int .i64 0, .int .i64 0]
  kr : Blk w (w0.heap.size + 1) 43 #[.int .i64 0, .int .i64 0, .slice none 0 0]
  pr : RdP (fun k => B ≤ k ∧ k ≠ qa) w P (an.proof.map (.int .i64))
  pl : an.proof.length ≤ 5
  tr : ∀ w'', Chg (fun k => k < S) wt w'' → TrR w'' t A1 A2 A3
  q : Chg (fun k => k < S) wt w
  bl : Below w0.heap.size w0 w
  l1 : w0.heap.size + 1 < g ∧ g < S ∧ S ≤ bx ∧ bx < B ∧ B ≤ qa ∧ wt.heap.size ≤ B
section
variable {w0 wt : World} {B g bx qa N S : Nat} {t : Tr} {A1 A2 A3 P : Option Addr} {c1 c2 c3 c : Nat} {an : Ans} {w w' : World}
theorem SA.rdr {N' : Nat} (s : SA w0 wt B g bx qa N S t A1 c1 A2 c2 A3 c3 an P c w) (h : Rdr w' g N') (hc : Chg (fun k => k = g) w w') : SA w0 wt B g bx qa N' S t A1 c1 A2 c2 A3 c3 an P c w' := by
  have l := s.l1
  exact ⟨h, s.kx.chg hc (by omega), s.ka.chg hc (by omega), s.kb.chg hc (by omega), s.kr.chg hc (by omega), s.pr.keep (Kp.chg hc fun k hk e => by omega), s.pl, s.tr, chg_more s.q hc (fun k _ e => by omega), s.bl.trans (hc.below (fun k hk e => by omega) s.bl.size), l⟩
theorem SA.new (s : SA w0 wt B g bx qa N S t A1 c1 A2 c2 A3 c3 an P c w) (hb : Below w.heap.size w w') : SA w0 wt B g bx qa N S t A1 c1 A2 c2 A3 c3 an P c w' :=
  ⟨s.h.new hb, s.kx.new_ hb, s.ka.new_ hb, s.kb.new_ hb, s.kr.new_ hb, s.pr.keep (Kp.below hb), s.pl, s.tr, chg_more s.q (Chg.of_new (S := fun k => k < S) hb) (fun _ _ e => e), bthen s.bl hb, s.l1⟩
theorem SA.upd {an' : Ans} {P' : Option Addr} {c' : Nat} (s : SA w0 wt B g bx qa N S t A1 c1 A2 c2 A3 c3 an P c w) (hc : Chg (fun k => k = qa) w w') (ha : Blk w' qa 43 #[.int .i64 an'.key, .int .i64 an'.value, .slice P' an'.proof.length c']) (hp : RdP (fun k => B ≤ k ∧ k ≠ qa) w P' (an'.proof.map (.int .i64))) (hl : an'.proof.length ≤ 5) : SA w0 wt B g bx qa N S t A1 c1 A2 c2 A3 c3 an' P' c' w' := by
  have l := s.l1
  have l2 := s.kx.lt
  have l3 := s.ka.lt
  refine ⟨s.h.chg hc (fun k hk e => by omega), s.kx.chg hc (by omega), ha, s.kb.chg hc (by omega), s.kr.chg hc (by omega), hp.keep (Kp.chg hc fun k hk e => by omega), hl, s.tr, chg_more s.q hc (fun k hk e => by omega), s.bl.trans (hc.below (fun k hk e => by omega) s.bl.size), l⟩
end
set_option maxRecDepth 100000 in
set_option maxHeartbeats 8000000 in
theorem DrawAnswerRight_any (A : Option Addr) (c : Nat) (bs : List Int) (w : World) (h : Rd w A (bs.map (.int .u8))) (hw : ∀ b ∈ bs, 0 ≤ b ∧ b ≤ 255) (hc : bs.length ≤ c) (hm : c ≤ maxLen) :
    Calls Try.prog 17 #[.slice A bs.length c] w fun e w' => ∃ (y : Bk) (L : Option Addr) (e1 : Nat) (an : Ans) (P : Option Addr) (c1 : Nat), e = .returned (.tuple #[.agg #[.int .i64 y.before, .int .i64 y.height, .int .i64 y.view, .slice L y.list.length e1, .int .i64 y.root, .int .i64 y.eff], .agg #[.int .i64 an.key, .int .i64 an.value, .slice P an.proof.length c1]]) ∧ y.list.length ≤ 10 ∧ an.proof.length ≤ 5 ∧ Rd w' L (y.list.flatMap encA) ∧ Rd w' P (an.proof.map (.int .i64)) ∧ Below w.heap.size w w' := by
  have kb0 : Blk ((w.alloc (.cells #[.int .i64 0, .int .i64 0, .int .i64 0, .slice none 0 0, .int .i64 0, .int .i64 0] 41)).alloc (.cells #[.int .i64 0, .int .i64 0, .slice none 0 0] 43)) w.heap.size 41 #[.int .i64 0, .int .i64 0, .int .i64 0, .slice none 0 0, .int .i64 0, .int .i64 0] := (Blk.new _ _ _).alloc _
  have ka0 : Blk ((w.alloc (.cells #[.int .i64 0, .int .i64 0, .int .i64 0, .slice none 0 0, .int .i64 0, .int .i64 0] 41)).alloc (.cells #[.int .i64 0, .int .i64 0, .slice none 0 0] 43)) (w.heap.size + 1) 43 #[.int .i64 0, .int .i64 0, .slice none 0 0] := by
    have := Blk.new (w.alloc (.cells #[.int .i64 0, .int .i64 0, .int .i64 0, .slice none 0 0, .int .i64 0, .int .i64 0] 41)) 43 #[.int .i64 0, .int .i64 0, .slice none 0 0]
    simpa using this
  have hb0 : Below w.heap.size w ((w.alloc (.cells #[.int .i64 0, .int .i64 0, .int .i64 0, .slice none 0 0, .int .i64 0, .int .i64 0] 41)).alloc (.cells #[.int .i64 0, .int .i64 0, .slice none 0 0] 43)) := ((Below.refl _ _).alloc (Nat.le_refl _) _).alloc (by simp) _
  have hr0 : Rd ((w.alloc (.cells #[.int .i64 0, .int .i64 0, .int .i64 0, .slice none 0 0, .int .i64 0, .int .i64 0] 41)).alloc (.cells #[.int .i64 0, .int .i64 0, .slice none 0 0] 43)) A (bs.map (.int .u8)) := h.new hb0
  have hsz0 : ((w.alloc (.cells #[.int .i64 0, .int .i64 0, .int .i64 0, .slice none 0 0, .int .i64 0, .int .i64 0] 41)).alloc (.cells #[.int .i64 0, .int .i64 0, .slice none 0 0] 43)).heap.size = w.heap.size + 1 + 1 := by simp
  have HSZ0 := hide hsz0
  have HW := hide hw
  clear hw h hsz0
  go_enter Try.func17, Try.ntmps17
  go_wp2_with fail
  refine (open_any A c bs _ hr0 (unhide HW) hc hm).mono ?_
  rintro e w1 ⟨rfl, r1, b1⟩
  simp only [World.size_alloc] at r1 ⊢
  have kb1 := kb0.new_ b1
  have ka1 := ka0.new_ b1
  replace hb0 := bthen hb0 b1
  obtain ⟨g, hg⟩ : ∃ g, g = w.heap.size + 1 + 1 := ⟨_, rfl⟩
  rw [← hg] at r1 ⊢
  have hgw : w.heap.size + 1 < g := by omega
  have hgl := r1.lt
  clear hg hr0 HW kb0 ka0 b1
  go_wp2_with fail
  refine (l20Tree_any g _ 0 w1 r1 (by omega) (by omega) (by omega)).mono ?_
  rintro e w2 ⟨t, A1, c1, A2, c2, A3, c3, rfl, hbd, htv, hR, h2, ch2⟩
  have hv := htv rfl
  have hB := hb0.trans (ch2.below (fun k hk e => by omega) hb0.size)
  have kb2 := kb1.chg ch2 (by omega)
  have ka2 := ka1.chg ch2 (by omega)
  have HV := hide hv
  obtain ⟨hd1, ⟨hd2, hd2'⟩, hd3, hd4⟩ := hbd
  have HD4 := hide hd4
  simp only [trA]
  clear hd4 hv htv kb1 ka1
  go_wp2_with (refine wpList_store_row rfl 27 (.tmp 5) (.tmp 13) rfl w2.heap.size #[.slice A1 t.base.length c1, .slice A2 t.blocks.length c2, .slice A3 t.before.length c3] rfl rfl 27 #[.slice none 0 0, .slice none 0 0, .slice none 0 0] (box_new w2 27 #[.slice none 0 0, .slice none 0 0, .slice none 0 0] #[.slice A1 t.base.length c1, .slice A2 t.blocks.length c2, .slice A3 t.before.length c3]).1 info_tr rfl (sl3_one _ _ _ _ _ _ _ _ _) ?_; refine at_world (C := fun W => wpList _ _ _ _ _ W) (F := fun W => Blk W w2.heap.size 27 #[.slice A1 t.base.length c1, .slice A2 t.blocks.length c2, .slice A3 t.before.length c3] ∧ Below w2.heap.size w2 W) ⟨(box_new w2 27 #[.slice none 0 0, .slice none 0 0, .slice none 0 0] #[.slice A1 t.base.length c1, .slice A2 t.blocks.length c2, .slice A3 t.before.length c3]).2.1, (box_new w2 27 #[.slice none 0 0, .slice none 0 0, .slice none 0 0] #[.slice A1 t.base.length c1, .slice A2 t.blocks.length c2, .slice A3 t.before.length c3]).2.2⟩ ?_; rintro w3 ⟨kx3, b3⟩; obtain ⟨bx, hbx⟩ : ∃ bx, bx = w2.heap.size := ⟨_, rfl⟩; rw [← hbx] at kx3 ⊢; have HBX := hide hbx; clear hbx; have x1 : w3.cell? ⟨bx, 1, none⟩ = some (.slice A2 t.blocks.length c2) := kx3.cell 1)
  have hbx := unhide HBX
  have hs2 := ch2.size
  have hs3 := b3.size
  have hgx : g < bx := by omega
  have hwx : w1.heap.size ≤ bx := by omega
  have kb3 := kb2.new_ b3
  have ka3 := ka2.new_ b3
  have h3 := h2.new b3
  have hB3 := bthen hB b3
  have HR3 := hide (fun (w'' : World) (hc : Chg (fun k => k < w1.heap.size) w3 w'') => hR w'' (chg_more (Chg.of_new (S := fun k => k < w1.heap.size) b3) hc (fun _ _ e => e)))
  have hxl := kx3.lt
  clear hbx hB h2 ch2 b3 hR kb2 ka2 hb0 r1
  refine (pick_any g _ (t.blocks.length : Int) w3 h3 (by omega) (by omega) (by omega)).mono ?_
  rintro e w4 ⟨nn, hnn, rfl, h4, ch4⟩
  have kx4 := kx3.chg ch4 (by omega)
  have kb4 := kb3.chg ch4 (by omega)
  have ka4 := ka3.chg ch4 (by omega)
  have hB4 := hB3.trans (ch4.below (fun k hk e => by omega) hB3.size)
  have HR4 := hide (fun (w'' : World) (hc : Chg (fun k => k < w1.heap.size) w4 w'') => unhide HR3 w'' (chg_more (ch4.mono fun k hk e => by omega) hc (fun _ _ e => e)))
  have hs4 := ch4.size
  have hl5 := hide (fun (key : Nat) (hk : key ≤ 31) => ask_len5 (t := t) (n := nn) (key := (key : Int)) (unhide HV) (by omega) (by omega))
  clear kx3 kb3 ka3 h3 hB3 HR3 x1 ch4
  have HAS := hide (fun (w'' : World) (hc : Chg (fun k => k = g) w4 w'') (key : Int) => ask_spec t A1 c1 A2 c2 A3 c3 (nn : Int) key w'' (unhide HR4 w'' (hc.mono fun k hk e => by omega)) (by omega) (by omega) (fun x hx => by have := unhide HD4 x hx; omega) (by omega))
  simp only [trA] at HAS
  have hgm : g < w4.heap.size := by omega
  have hF : StEL (EG g w4.heap.size 43) [bV (.agg #[.slice A1 t.base.length c1, .slice A2 t.blocks.length c2, .slice A3 t.before.length c3]), bV (.int .i64 (nn : Int)), bV (.pointer (some ⟨g, 0, none⟩)), fun v _ => ∃ key : Nat, key ≤ 31 ∧ v = .int .i64 (key : Int), sRAT w4.heap.size, sRAT w4.heap.size, sRA w4.heap.size, fun _ _ => True, pV (fun v => v ≠ undef), pV (fun _ => True)] :=
    ⟨fun _ _ _ _ h => h, fun _ _ _ _ h => h, fun _ _ _ _ h => h, fun _ _ _ _ h => h, fun v a b hE => sRAT_EG hgm v a b hE, fun v a b hE => sRAT_EG hgm v a b hE, fun v a b hE => sRA_EG hgm v a b hE, fun _ _ _ _ h => h, fun _ _ _ _ h => h, fun _ _ _ _ h => h, trivial⟩
  go_upto_region 4 with fail
  refine wp_region_cost (by kernel_rfl) [(0, some 20), (1, some 21), (2, some 22), (3, some 23), (4, some 24), (5, some 19), (6, some 25), (7, some 26), (8, some 7), (9, none)] [[], [], [], [(2, some 22)], [(0, some 20), (1, some 21), (3, some 23)], [(4, some 24)], [(5, some 19)], [(5, some 19)], [], [(6, some 25), (8, some 7)]] (by kernel_rfl) 9 [0, 1, 2, 3, 4, 5, 6, 8] (by kernel_rfl) [0, 0, 0, 3, 0, 0, 0, 0, 0, 0] 3 (by kernel_rfl) 8
    (locB [bV (.agg #[.slice A1 t.base.length c1, .slice A2 t.blocks.length c2, .slice A3 t.before.length c3]), bV (.int .i64 (nn : Int)), bV (.pointer (some ⟨g, 0, none⟩)), fun v _ => ∃ key : Nat, key ≤ 31 ∧ v = .int .i64 (key : Int), sRAT w4.heap.size, sRAT w4.heap.size, sRA w4.heap.size, fun _ _ => True, pV (fun v => v ≠ undef), pV (fun _ => True)]) (EG g w4.heap.size 43) (fun k b vp w' => RA g (0 + 5000 + 1 + 3) w4.heap.size k b vp w') (EG.refl _ _ _) (fun _ _ _ => EG.trans) (locE_st hF _) ⟨⟨_, by omega, h4.drew⟩, .inl ⟨rfl, .inl rfl⟩⟩ ?_ ?_
  · refine steps_cons ?s0 ( steps_cons ?s1 ( steps_cons ?s2 ( steps_cons ?s3 ( steps_cons ?s4 ( steps_cons ?s5 ( steps_cons ?s6 ( steps_cons ?s7 ( steps_cons ?s8 ( steps_cons ?s9 steps_nil)))))))))
    case s0 =>
      intro w' m' b vp hE hbx hR
      obtain rfl := hbx (by simp)
      intro Q hQ
      have kx' := kx4.chg (hE.undrew.chg (Nat.le_refl _)) (by omega)
      have s0 : w'.cell? ⟨bx, 0, none⟩ = some (.slice A1 t.base.length c1) := kx'.cell 0
      have s1 : w'.cell? ⟨bx, 1, none⟩ = some (.slice A2 t.blocks.length c2) := kx'.cell 1
      have s2 : w'.cell? ⟨bx, 2, none⟩ = some (.slice A3 t.before.length c3) := kx'.cell 2
      go_wp2
      exact hQ _ _ _ rfl rfl (EG.refl _ _ _ _) hR
    case s1 =>
      intro w' m' b vp hE hbx hR
      obtain rfl := hbx (by simp)
      intro Q hQ
      go_wp2
      exact hQ _ _ _ rfl rfl (EG.refl _ _ _ _) hR
    case s2 =>
      intro w' m' b vp hE hbx hR
      obtain rfl := hbx (by simp)
      intro Q hQ
      go_wp2
      exact hQ _ _ _ rfl rfl (EG.refl _ _ _ _) hR
    case s3 =>
      intro w' m' b vp hE hbx hR
      obtain rfl := hbx (by simp)
      rintro _ ⟨rfl, -⟩ Q hQ
      obtain ⟨N1, hN1, hr1⟩ := rdrR_use hR.1
      simp only [List.getD_cons_succ, List.getD_cons_zero] at hN1
      go_wp2_with fail
      refine (l20Key_any g N1 w' hr1 (by omega)).mono ?_
      rintro e w5 ⟨v, hv, rfl, h5, ch5⟩
      go_wp2
      exact hQ _ _ _ rfl ⟨v, hv, rfl⟩ (EG.of_chg ch5) ⟨⟨N1 + 3, by omega, h5⟩, boxR_chg hR.2 ch5 (by omega) (fun cs => qRA_chg (by omega) ch5 cs)⟩
    case s4 =>
      intro w' m' b vp hE hbx hR
      obtain rfl := hbx (by simp)
      rintro _ ⟨rfl, -⟩ _ ⟨rfl, -⟩ _ ⟨⟨key, hky, rfl⟩, -⟩ Q hQ
      have hsz := hE.size
      have hl5 := unhide hl5 key hky
      go_wp2_with fail
      refine (unhide HAS w' (hE.undrew.chg (Nat.le_refl _)) (key : Int)).mono ?_
      rintro e w5 ⟨A5, c5, rfl, o5, b5⟩
      generalize askA t (nn : Int) (key : Int) = x at *
      go_wp2
      exact hQ _ _ _ rfl ⟨x, A5, c5, _, hl5, rfl, own_base o5 hsz⟩ (EG.of_new b5) (RA.new hR b5)
    case s5 =>
      intro w' m' b vp hE hbx hR
      obtain rfl := hbx (by simp)
      rintro _ ⟨⟨x, A5, c5, ok, hl5, rfl, o5⟩, -⟩ Q hQ
      go_wp2
      exact hQ _ _ _ rfl ⟨x, A5, c5, ok, hl5, rfl, o5⟩ (EG.refl _ _ _ _) hR
    case s6 =>
      intro w' m' b vp hE hbx hR
      obtain rfl := hbx (by simp)
      rintro _ ⟨⟨x, A5, c5, ok, hl5, rfl, o5⟩, -⟩ Q hQ
      go_wp2
      exact hQ _ _ _ rfl ⟨x, A5, c5, hl5, rfl, o5⟩ (EG.refl _ _ _ _) hR
    case s7 =>
      intro w' m' b vp hE hbx hR
      clear hbx
      rintro _ ⟨⟨x, A5, c5, ok, hl5, rfl, o5⟩, -⟩ Q hQ
      go_wp2
      exact hQ _ _ _ rfl trivial (EG.refl _ _ _ _) hR
    case s8 =>
      intro w' m' b vp hE hbx hR
      obtain rfl := hbx (by simp)
      intro Q hQ
      have hsz := hE.size
      go_wp2
      exact hQ _ _ _ rfl (fun h => by cases h) (EG.of_new ((Below.refl _ _).alloc (Nat.le_refl _) _)) ⟨rdrR_alloc hR.1 _, .inl ⟨rfl, .inr ⟨w'.heap.size, rfl, hsz, Blk.new _ _ _⟩⟩⟩
    case s9 =>
      intro w' m' b vp hE hbx hR
      obtain rfl := hbx (by simp)
      rintro _ ⟨⟨x, A5, c5, hl5, rfl, o5⟩, -⟩ _ ⟨hnu, hvp⟩ Q hQ
      obtain rfl := hvp rfl
      obtain ⟨hr, hBR⟩ := hR
      rcases hBR with ⟨-, h | ⟨gb, rfl, hgb, hk9⟩⟩ | ⟨h, _⟩
      · exact absurd h hnu
      · refine wpList_store_row rfl 43 (.tmp 7) (.tmp 25) rfl gb #[.int .i64 x.key, .int .i64 x.value, .slice A5 x.proof.length c5] rfl rfl 43 #[.int .i64 0, .int .i64 0, .slice none 0 0] hk9 info_ans4 rfl (ans_one4 _ _ _ _ _) ?_
        go_wp2
        exact hQ undef _ _ rfl trivial (EG.setRow hk9 hgb _) ⟨rdrR_far hr (chg_setRow (S := fun k => k = gb) rfl _) (fun k hk e => by omega), .inr ⟨rfl, gb, _, rfl, hgb, blk_setRow hk9, x, A5, c5, hl5, rfl, own_EG o5 (EG.setRow hk9 hgb _) ne_ia3 (by omega)⟩⟩
      · cases h
  intro w5 vp hE hR
  rintro v0 - v1 - v2 - v3 - v4 - v5 - v6 - v7 - v8 ⟨hnu, hvp⟩ v9 -
  obtain rfl := hvp rfl
  obtain ⟨⟨N5, hN5, h5⟩, hBR⟩ := hR
  rcases hBR with ⟨h, _⟩ | ⟨-, qa, cs, rfl, hqa, k5, x, A5, c5, hl5, rfl, o5⟩
  · cases h
  have hc5 := hE.undrew.chg (Nat.le_refl _)
  have hlt5 := k5.lt
  have hs5 := hc5.size
  have hcap := own_cap o5
  have hne := own_ne_blk o5 k5 ne_ia3
  have s5 : SA w w4 w4.heap.size g bx qa N5 w1.heap.size t A1 c1 A2 c2 A3 c3 x A5 c5 w5 := ⟨h5, kx4.chg hc5 (by omega), k5, kb4.chg hc5 (by omega), ka4.chg hc5 (by omega), (own_rdP o5).mono (fun k hk _ => ⟨hk.1, fun e => hne (by rw [← e]; exact hk.2)⟩), hl5.2, unhide HR4, hc5.mono (fun k _ e => by omega), hB4.trans (hc5.below (fun k hk e => by omega) hB4.size), by omega⟩
  have hnn0 : nn < t.blocks.length := by omega
  have HCAP := hide hcap
  have HL5 := hide hl5
  clear hE hF hnu kx4 kb4 ka4 o5 hB4 HR4 hc5 h4 h5 HAS k5 hl5 hne hcap
  change wpList _ _ _ [_] _ _
  simp only [Act.put, List.setIfInBounds_toArray, List.set_cons_succ, List.set_cons_zero]
  go_wp2_with fail
  refine (odd_any g _ 2 w5 s5.h (by omega) (by omega) (by omega)).mono ?_
  rintro e w6 ⟨b, rfl, -, h6, ch6⟩
  have s6 := s5.rdr h6 ch6
  clear s5 h6 ch6
  cases b
  · go_upto_region 14 with fail
    have hnl := hnn0
    obtain ⟨bb, ob, L9, e9, hA2, hSb, hbb, q0, q1, q2, q3, q4, q5, r9⟩ := tr_far (S := w1.heap.size) (fun w'' hc => s6.tr w'' (s6.q.trans hc)) hnl
    have hyl := unhide HD4 _ (List.getElem_mem hnl)
    have x1 : w6.cell? ⟨bx, 1, none⟩ = some (.slice A2 t.blocks.length c2) := s6.kx.cell 1
    rw [hA2] at x1
    clear hA2
    have hnb : (nn : Int) < (t.blocks.length : Int) := by omega
    generalize t.blocks[nn] = y at *
    have hll := s6.l1
    have hal := s6.ka.lt
    go_wp2_with (refine wpList_store_row rfl 41 (.tmp 9) (.tmp 56) rfl w6.heap.size #[.int .i64 y.before, .int .i64 y.height, .int .i64 y.view, .slice L9 y.list.length e9, .int .i64 y.root, .int .i64 y.eff] rfl rfl 41 #[.int .i64 0, .int .i64 0, .int .i64 0, .slice none 0 0, .int .i64 0, .int .i64 0] (box_new w6 41 #[.int .i64 0, .int .i64 0, .int .i64 0, .slice none 0 0, .int .i64 0, .int .i64 0] #[.int .i64 y.before, .int .i64 y.height, .int .i64 y.view, .slice L9 y.list.length e9, .int .i64 y.root, .int .i64 y.eff]).1 info_bk4 rfl (bk_one4 _ _ _ _ _ _ _ _) ?_; refine at_world (C := fun W => wpList _ _ _ _ _ W) (F := fun W => Blk W w6.heap.size 41 #[.int .i64 y.before, .int .i64 y.height, .int .i64 y.view, .slice L9 y.list.length e9, .int .i64 y.root, .int .i64 y.eff] ∧ Below w6.heap.size w6 W) ⟨(box_new w6 41 #[.int .i64 0, .int .i64 0, .int .i64 0, .slice none 0 0, .int .i64 0, .int .i64 0] #[.int .i64 y.before, .int .i64 y.height, .int .i64 y.view, .slice L9 y.list.length e9, .int .i64 y.root, .int .i64 y.eff]).2.1, (box_new w6 41 #[.int .i64 0, .int .i64 0, .int .i64 0, .slice none 0 0, .int .i64 0, .int .i64 0] #[.int .i64 y.before, .int .i64 y.height, .int .i64 y.view, .slice L9 y.list.length e9, .int .i64 y.root, .int .i64 y.eff]).2.2⟩ ?_; rintro wz ⟨kz, bz⟩; obtain ⟨qz, hqz⟩ : ∃ q, q = w6.heap.size := ⟨_, rfl⟩; rw [← hqz] at kz ⊢; have HQZ := hide hqz; clear hqz)
    have hqz : w6.heap.size ≤ qz := by have := unhide HQZ; omega
    have hz := s6.h.new bz
    clear x1 q0 q1 q2 q3 q4 q5
    refine (odd_any g _ 12 wz hz (by omega) (by omega) (by omega)).mono ?_
    rintro e wy ⟨b2, rfl, -, hy, chy⟩
    have ky := kz.chg chy (by omega)
    have hWy := (Chg.of_new (S := fun k => k = g) bz).trans chy
    clear kz bz hz hy chy
    cases b2
    · go_upto_region 17 with fail
      have kq := ky
      have hWv := hWy
      clear ky hWy
      have kav : Blk wy qa 43 #[.int .i64 x.key, .int .i64 x.value, .slice A5 x.proof.length c5] := s6.ka.chg hWv (by omega)
      have kbv := s6.kb.chg hWv (by omega)
      have krv := s6.kr.chg hWv (by omega)
      have prv := s6.pr.keep (Kp.chg hWv fun k hk e => by omega)
      have rv := r9.keep (Kp.chg hWv fun k hk e => by omega)
      have blv := s6.bl.trans (hWv.below (fun k hk e => by omega) s6.bl.size)
      have hpl : (x : Ans).proof.length ≤ 5 := s6.pl
      clear s6 r9 hWv
      have hF : StVL [bV (.agg #[.int .i64 y.before, .int .i64 y.height, .int .i64 y.view, .slice L9 y.list.length e9, .int .i64 y.root, .int .i64 y.eff]), bV (.agg #[.int .i64 x.key, .int .i64 x.value, .slice A5 x.proof.length c5]), fun _ _ => True] := ⟨fun _ _ _ h => h, fun _ _ _ h => h, fun _ _ _ h => h, trivial⟩
      refine wp_region_one (by kernel_rfl) [(0, some 60), (1, some 61), (2, none)] [[], [], [(0, some 60)]] (by kernel_rfl) 2 [0] (by kernel_rfl)
        (locB [bV (.agg #[.int .i64 y.before, .int .i64 y.height, .int .i64 y.view, .slice L9 y.list.length e9, .int .i64 y.root, .int .i64 y.eff]), bV (.agg #[.int .i64 x.key, .int .i64 x.value, .slice A5 x.proof.length c5]), fun _ _ => True]) (fun a b => Chg (fun q => q = w.heap.size) a b) (fun b w' => Blk w' w.heap.size 41 (cond b #[.int .i64 y.before, .int .i64 y.height, .int .i64 y.view, .slice L9 y.list.length e9, .int .i64 y.root, .int .i64 y.eff] #[.int .i64 0, .int .i64 0, .int .i64 0, .slice none 0 0, .int .i64 0, .int .i64 0])) (fun _ => Chg.refl _ _) (fun _ _ _ h1 h2 => h1.trans h2) (locV_st hF _) kbv ?_ ?_
      · refine steps_cons ?s0 ( steps_cons ?s1 ( steps_cons ?s2 steps_nil))
        case s0 =>
          intro w' b hE hb hR
          obtain rfl := hb (by simp)
          intro Q hQ
          have k' := kq.chg (chg_undrew hE) (by omega)
          have z0 : w'.cell? ⟨qz, 0, none⟩ = some (.int .i64 y.before) := k'.cell 0
          have z1 : w'.cell? ⟨qz, 1, none⟩ = some (.int .i64 y.height) := k'.cell 1
          have z2 : w'.cell? ⟨qz, 2, none⟩ = some (.int .i64 y.view) := k'.cell 2
          have z3 : w'.cell? ⟨qz, 3, none⟩ = some (.slice L9 y.list.length e9) := k'.cell 3
          have z4 : w'.cell? ⟨qz, 4, none⟩ = some (.int .i64 y.root) := k'.cell 4
          have z5 : w'.cell? ⟨qz, 5, none⟩ = some (.int .i64 y.eff) := k'.cell 5
          go_wp2
          exact hQ _ _ _ rfl rfl (Chg.refl _ _) hR
        case s1 =>
          intro w' b hE hbx hR
          clear hbx
          intro Q hQ
          have k' := kav.chg (chg_undrew hE) (by omega)
          have z0 : w'.cell? ⟨qa, 0, none⟩ = some (.int .i64 x.key) := k'.cell 0
          have z1 : w'.cell? ⟨qa, 1, none⟩ = some (.int .i64 x.value) := k'.cell 1
          have z2 : w'.cell? ⟨qa, 2, none⟩ = some (.slice A5 x.proof.length c5) := k'.cell 2
          go_wp2
          exact hQ _ _ _ rfl rfl (Chg.refl _ _) hR
        case s2 =>
          intro w' b hE hb hR
          obtain rfl := hb (by simp)
          rintro _ rfl Q hQ
          refine wpList_store_row rfl 41 (.tmp 2) (.tmp 60) rfl w.heap.size #[.int .i64 y.before, .int .i64 y.height, .int .i64 y.view, .slice L9 y.list.length e9, .int .i64 y.root, .int .i64 y.eff] rfl rfl 41 #[.int .i64 0, .int .i64 0, .int .i64 0, .slice none 0 0, .int .i64 0, .int .i64 0] hR info_bk4 rfl (bk_one4 _ _ _ _ _ _ _ _) ?_
          go_wp2
          exact hQ undef _ _ rfl trivial (chg_setRow (S := fun k => k = w.heap.size) rfl _) (blk_setRow hR)
      intro w9 hE hR
      have hR : Blk w9 w.heap.size 41 #[.int .i64 y.before, .int .i64 y.height, .int .i64 y.view, .slice L9 y.list.length e9, .int .i64 y.root, .int .i64 y.eff] := hR
      have hc9 := chg_undrew hE
      rintro v0 - v1 hv1 v2 -
      obtain rfl : v1 = _ := hv1
      have kr9 := krv.chg hc9 (by omega)
      clear hE hF
      change wpList _ _ _ [_] _ _
      simp only [Act.put, List.setIfInBounds_toArray, List.set_cons_succ, List.set_cons_zero]
      go_wp2_with (refine wpList_store_row rfl 43 (.tmp 3) (.tmp 61) rfl (w.heap.size + 1) #[.int .i64 x.key, .int .i64 x.value, .slice A5 x.proof.length c5] rfl rfl 43 #[.int .i64 0, .int .i64 0, .slice none 0 0] kr9 info_ans4 rfl (ans_one4 _ _ _ _ _) ?_)
      have hc10 : Chg (fun k => k = w.heap.size + 1) w9 (w9.setRow (w.heap.size + 1) #[.int .i64 x.key, .int .i64 x.value, .slice A5 x.proof.length c5]) := chg_setRow (S := fun k => k = w.heap.size + 1) rfl _
      refine bodyPost_ret (v := .tuple #[.agg #[.int .i64 y.before, .int .i64 y.height, .int .i64 y.view, .slice L9 y.list.length e9, .int .i64 y.root, .int .i64 y.eff], .agg #[.int .i64 x.key, .int .i64 x.value, .slice A5 x.proof.length c5]]) (results_cells2 (p := 2) (q := 3) (ty := 41) (ty2 := 43) rfl _ _ w.heap.size 41 #[.int .i64 y.before, .int .i64 y.height, .int .i64 y.view, .slice L9 y.list.length e9, .int .i64 y.root, .int .i64 y.eff] (0, 0) _ (w.heap.size + 1) 43 #[.int .i64 x.key, .int .i64 x.value, .slice A5 x.proof.length c5] (0, 0) _ rfl (hR.chg hc10 (by omega)) Try.underlying41 rfl info_bk4 rfl (blk_setRow kr9) Try.underlying43 rfl info_ans4) rfl ?_
      first | exact ⟨y, L9, e9, x, A5, c5, rfl, hyl, hpl, ((rv.keep (Kp.chg hc9 fun k hk e => by omega)).keep (Kp.chg hc10 fun k hk e => by omega)).rd, ((prv.keep (Kp.chg hc9 fun k hk e => by omega)).keep (Kp.chg hc10 fun k hk e => by omega)).rd, (blv.trans (hc9.below (fun k hk e => by omega) blv.size)).trans (hc10.below (fun k hk e => by omega) (Nat.le_trans blv.size hc9.size))⟩ | exact ⟨y, L9, e9, x, A5, ⟨c5, rfl⟩, hyl, hpl, ((rv.keep (Kp.chg hc9 fun k hk e => by omega)).keep (Kp.chg hc10 fun k hk e => by omega)).rd, ((prv.keep (Kp.chg hc9 fun k hk e => by omega)).keep (Kp.chg hc10 fun k hk e => by omega)).rd, (blv.trans (hc9.below (fun k hk e => by omega) blv.size)).trans (hc10.below (fun k hk e => by omega) (Nat.le_trans blv.size hc9.size))⟩
    · have f4 : wy.frozen? ⟨qz, 4, none⟩ = false := ky.frozen 4
      have z4 : wy.cell? ⟨qz, 4, none⟩ = some (.int .i64 y.root) := ky.cell 4
      go_upto_region 17 with fail
      have kq : Blk (wy.setCell ⟨qz, 4, none⟩ (.int .i64 (-1))) qz 41 #[.int .i64 y.before, .int .i64 y.height, .int .i64 y.view, .slice L9 y.list.length e9, .int .i64 (-1), .int .i64 y.eff] := by have := ky.set_ 4 (Value.int .i64 (-1)); simpa using this
      have hWv := chg_more hWy ((Chg.refl (fun k => k = qz) wy).setCell (p := ⟨qz, 4, none⟩) (.inl rfl) (Value.int .i64 (-1))) (fun k hk e => by omega)
      clear ky hWy f4 z4
      generalize wy.setCell ⟨qz, 4, none⟩ (.int .i64 (-1)) = wv at *
      have kav : Blk wv qa 43 #[.int .i64 x.key, .int .i64 x.value, .slice A5 x.proof.length c5] := s6.ka.chg hWv (by omega)
      have kbv := s6.kb.chg hWv (by omega)
      have krv := s6.kr.chg hWv (by omega)
      have prv := s6.pr.keep (Kp.chg hWv fun k hk e => by omega)
      have rv := r9.keep (Kp.chg hWv fun k hk e => by omega)
      have blv := s6.bl.trans (hWv.below (fun k hk e => by omega) s6.bl.size)
      have hpl : (x : Ans).proof.length ≤ 5 := s6.pl
      clear s6 r9 hWv
      have hF : StVL [bV (.agg #[.int .i64 y.before, .int .i64 y.height, .int .i64 y.view, .slice L9 y.list.length e9, .int .i64 (-1), .int .i64 y.eff]), bV (.agg #[.int .i64 x.key, .int .i64 x.value, .slice A5 x.proof.length c5]), fun _ _ => True] := ⟨fun _ _ _ h => h, fun _ _ _ h => h, fun _ _ _ h => h, trivial⟩
      refine wp_region_one (by kernel_rfl) [(0, some 60), (1, some 61), (2, none)] [[], [], [(0, some 60)]] (by kernel_rfl) 2 [0] (by kernel_rfl)
        (locB [bV (.agg #[.int .i64 y.before, .int .i64 y.height, .int .i64 y.view, .slice L9 y.list.length e9, .int .i64 (-1), .int .i64 y.eff]), bV (.agg #[.int .i64 x.key, .int .i64 x.value, .slice A5 x.proof.length c5]), fun _ _ => True]) (fun a b => Chg (fun q => q = w.heap.size) a b) (fun b w' => Blk w' w.heap.size 41 (cond b #[.int .i64 y.before, .int .i64 y.height, .int .i64 y.view, .slice L9 y.list.length e9, .int .i64 (-1), .int .i64 y.eff] #[.int .i64 0, .int .i64 0, .int .i64 0, .slice none 0 0, .int .i64 0, .int .i64 0])) (fun _ => Chg.refl _ _) (fun _ _ _ h1 h2 => h1.trans h2) (locV_st hF _) kbv ?_ ?_
      · refine steps_cons ?s0 ( steps_cons ?s1 ( steps_cons ?s2 steps_nil))
        case s0 =>
          intro w' b hE hb hR
          obtain rfl := hb (by simp)
          intro Q hQ
          have k' := kq.chg (chg_undrew hE) (by omega)
          have z0 : w'.cell? ⟨qz, 0, none⟩ = some (.int .i64 y.before) := k'.cell 0
          have z1 : w'.cell? ⟨qz, 1, none⟩ = some (.int .i64 y.height) := k'.cell 1
          have z2 : w'.cell? ⟨qz, 2, none⟩ = some (.int .i64 y.view) := k'.cell 2
          have z3 : w'.cell? ⟨qz, 3, none⟩ = some (.slice L9 y.list.length e9) := k'.cell 3
          have z4 : w'.cell? ⟨qz, 4, none⟩ = some (.int .i64 (-1)) := k'.cell 4
          have z5 : w'.cell? ⟨qz, 5, none⟩ = some (.int .i64 y.eff) := k'.cell 5
          go_wp2
          exact hQ _ _ _ rfl rfl (Chg.refl _ _) hR
        case s1 =>
          intro w' b hE hbx hR
          clear hbx
          intro Q hQ
          have k' := kav.chg (chg_undrew hE) (by omega)
          have z0 : w'.cell? ⟨qa, 0, none⟩ = some (.int .i64 x.key) := k'.cell 0
          have z1 : w'.cell? ⟨qa, 1, none⟩ = some (.int .i64 x.value) := k'.cell 1
          have z2 : w'.cell? ⟨qa, 2, none⟩ = some (.slice A5 x.proof.length c5) := k'.cell 2
          go_wp2
          exact hQ _ _ _ rfl rfl (Chg.refl _ _) hR
        case s2 =>
          intro w' b hE hb hR
          obtain rfl := hb (by simp)
          rintro _ rfl Q hQ
          refine wpList_store_row rfl 41 (.tmp 2) (.tmp 60) rfl w.heap.size #[.int .i64 y.before, .int .i64 y.height, .int .i64 y.view, .slice L9 y.list.length e9, .int .i64 (-1), .int .i64 y.eff] rfl rfl 41 #[.int .i64 0, .int .i64 0, .int .i64 0, .slice none 0 0, .int .i64 0, .int .i64 0] hR info_bk4 rfl (bk_one4 _ _ _ _ _ _ _ _) ?_
          go_wp2
          exact hQ undef _ _ rfl trivial (chg_setRow (S := fun k => k = w.heap.size) rfl _) (blk_setRow hR)
      intro w9 hE hR
      have hR : Blk w9 w.heap.size 41 #[.int .i64 y.before, .int .i64 y.height, .int .i64 y.view, .slice L9 y.list.length e9, .int .i64 (-1), .int .i64 y.eff] := hR
      have hc9 := chg_undrew hE
      rintro v0 - v1 hv1 v2 -
      obtain rfl : v1 = _ := hv1
      have kr9 := krv.chg hc9 (by omega)
      clear hE hF
      change wpList _ _ _ [_] _ _
      simp only [Act.put, List.setIfInBounds_toArray, List.set_cons_succ, List.set_cons_zero]
      go_wp2_with (refine wpList_store_row rfl 43 (.tmp 3) (.tmp 61) rfl (w.heap.size + 1) #[.int .i64 x.key, .int .i64 x.value, .slice A5 x.proof.length c5] rfl rfl 43 #[.int .i64 0, .int .i64 0, .slice none 0 0] kr9 info_ans4 rfl (ans_one4 _ _ _ _ _) ?_)
      have hc10 : Chg (fun k => k = w.heap.size + 1) w9 (w9.setRow (w.heap.size + 1) #[.int .i64 x.key, .int .i64 x.value, .slice A5 x.proof.length c5]) := chg_setRow (S := fun k => k = w.heap.size + 1) rfl _
      refine bodyPost_ret (v := .tuple #[.agg #[.int .i64 y.before, .int .i64 y.height, .int .i64 y.view, .slice L9 y.list.length e9, .int .i64 (-1), .int .i64 y.eff], .agg #[.int .i64 x.key, .int .i64 x.value, .slice A5 x.proof.length c5]]) (results_cells2 (p := 2) (q := 3) (ty := 41) (ty2 := 43) rfl _ _ w.heap.size 41 #[.int .i64 y.before, .int .i64 y.height, .int .i64 y.view, .slice L9 y.list.length e9, .int .i64 (-1), .int .i64 y.eff] (0, 0) _ (w.heap.size + 1) 43 #[.int .i64 x.key, .int .i64 x.value, .slice A5 x.proof.length c5] (0, 0) _ rfl (hR.chg hc10 (by omega)) Try.underlying41 rfl info_bk4 rfl (blk_setRow kr9) Try.underlying43 rfl info_ans4) rfl ?_
      first | exact ⟨⟨y.before, y.height, y.view, y.list, -1, y.eff⟩, L9, e9, x, A5, c5, rfl, hyl, hpl, ((rv.keep (Kp.chg hc9 fun k hk e => by omega)).keep (Kp.chg hc10 fun k hk e => by omega)).rd, ((prv.keep (Kp.chg hc9 fun k hk e => by omega)).keep (Kp.chg hc10 fun k hk e => by omega)).rd, (blv.trans (hc9.below (fun k hk e => by omega) blv.size)).trans (hc10.below (fun k hk e => by omega) (Nat.le_trans blv.size hc9.size))⟩ | exact ⟨⟨y.before, y.height, y.view, y.list, -1, y.eff⟩, L9, e9, x, A5, ⟨c5, rfl⟩, hyl, hpl, ((rv.keep (Kp.chg hc9 fun k hk e => by omega)).keep (Kp.chg hc10 fun k hk e => by omega)).rd, ((prv.keep (Kp.chg hc9 fun k hk e => by omega)).keep (Kp.chg hc10 fun k hk e => by omega)).rd, (blv.trans (hc9.below (fun k hk e => by omega) blv.size)).trans (hc10.below (fun k hk e => by omega) (Nat.le_trans blv.size hc9.size))⟩
  · go_wp2_with fail
    refine (pick_any g _ 4 w6 s6.h (by omega) (by omega) (by omega)).mono ?_
    rintro e w7 ⟨v, hv, rfl, h7, ch7⟩
    have s7 := s6.rdr h7 ch7
    clear s6 h7 ch7
    rcases (by omega : v = 0 ∨ v = 1 ∨ v = 2 ∨ v = 3) with rfl | rfl | rfl | rfl
    · go_wp2_with fail
      refine (l20Value_any g _ w7 s7.h (by omega)).mono ?_
      rintro e w8 ⟨v8, hv8, rfl, h8, ch8⟩
      have s8 := s7.rdr h8 ch8
      clear s7 h8 ch8
      have f1 : w8.frozen? ⟨qa, 1, none⟩ = false := s8.ka.frozen 1
      have z1 : w8.cell? ⟨qa, 1, none⟩ = some (.int .i64 x.value) := s8.ka.cell 1
      go_upto_region 14 with fail
      have s9 := s8.upd (an' := ⟨x.key, (v8 : Int), x.proof⟩) (P' := A5) (c' := c5) (((Chg.refl (fun k => k = qa) w8).setCell (p := ⟨qa, 1, none⟩) (.inl rfl) (.int .i64 (v8 : Int)))) (by have := s8.ka.set_ 1 (Value.int .i64 (v8 : Int)); simpa using this) s8.pr s8.pl
      clear s8 f1 z1
      generalize w8.setCell ⟨qa, 1, none⟩ (.int .i64 (v8 : Int)) = wn at *
      have hnl := hnn0
      obtain ⟨bb, ob, L9, e9, hA2, hSb, hbb, q0, q1, q2, q3, q4, q5, r9⟩ := tr_far (S := w1.heap.size) (fun w'' hc => s9.tr w'' (s9.q.trans hc)) hnl
      have hyl := unhide HD4 _ (List.getElem_mem hnl)
      have x1 : wn.cell? ⟨bx, 1, none⟩ = some (.slice A2 t.blocks.length c2) := s9.kx.cell 1
      rw [hA2] at x1
      clear hA2
      have hnb : (nn : Int) < (t.blocks.length : Int) := by omega
      generalize t.blocks[nn] = y at *
      have hll := s9.l1
      have hal := s9.ka.lt
      go_wp2_with (refine wpList_store_row rfl 41 (.tmp 9) (.tmp 56) rfl wn.heap.size #[.int .i64 y.before, .int .i64 y.height, .int .i64 y.view, .slice L9 y.list.length e9, .int .i64 y.root, .int .i64 y.eff] rfl rfl 41 #[.int .i64 0, .int .i64 0, .int .i64 0, .slice none 0 0, .int .i64 0, .int .i64 0] (box_new wn 41 #[.int .i64 0, .int .i64 0, .int .i64 0, .slice none 0 0, .int .i64 0, .int .i64 0] #[.int .i64 y.before, .int .i64 y.height, .int .i64 y.view, .slice L9 y.list.length e9, .int .i64 y.root, .int .i64 y.eff]).1 info_bk4 rfl (bk_one4 _ _ _ _ _ _ _ _) ?_; refine at_world (C := fun W => wpList _ _ _ _ _ W) (F := fun W => Blk W wn.heap.size 41 #[.int .i64 y.before, .int .i64 y.height, .int .i64 y.view, .slice L9 y.list.length e9, .int .i64 y.root, .int .i64 y.eff] ∧ Below wn.heap.size wn W) ⟨(box_new wn 41 #[.int .i64 0, .int .i64 0, .int .i64 0, .slice none 0 0, .int .i64 0, .int .i64 0] #[.int .i64 y.before, .int .i64 y.height, .int .i64 y.view, .slice L9 y.list.length e9, .int .i64 y.root, .int .i64 y.eff]).2.1, (box_new wn 41 #[.int .i64 0, .int .i64 0, .int .i64 0, .slice none 0 0, .int .i64 0, .int .i64 0] #[.int .i64 y.before, .int .i64 y.height, .int .i64 y.view, .slice L9 y.list.length e9, .int .i64 y.root, .int .i64 y.eff]).2.2⟩ ?_; rintro wz ⟨kz, bz⟩; obtain ⟨qz, hqz⟩ : ∃ q, q = wn.heap.size := ⟨_, rfl⟩; rw [← hqz] at kz ⊢; have HQZ := hide hqz; clear hqz)
      have hqz : wn.heap.size ≤ qz := by have := unhide HQZ; omega
      have hz := s9.h.new bz
      clear x1 q0 q1 q2 q3 q4 q5
      refine (odd_any g _ 12 wz hz (by omega) (by omega) (by omega)).mono ?_
      rintro e wy ⟨b2, rfl, -, hy, chy⟩
      have ky := kz.chg chy (by omega)
      have hWy := (Chg.of_new (S := fun k => k = g) bz).trans chy
      clear kz bz hz hy chy
      cases b2
      · go_upto_region 17 with fail
        have kq := ky
        have hWv := hWy
        clear ky hWy
        have kav : Blk wy qa 43 #[.int .i64 x.key, .int .i64 (v8 : Int), .slice A5 x.proof.length c5] := s9.ka.chg hWv (by omega)
        have kbv := s9.kb.chg hWv (by omega)
        have krv := s9.kr.chg hWv (by omega)
        have prv := s9.pr.keep (Kp.chg hWv fun k hk e => by omega)
        have rv := r9.keep (Kp.chg hWv fun k hk e => by omega)
        have blv := s9.bl.trans (hWv.below (fun k hk e => by omega) s9.bl.size)
        have hpl : (⟨x.key, (v8 : Int), x.proof⟩ : Ans).proof.length ≤ 5 := s9.pl
        clear s9 r9 hWv
        have hF : StVL [bV (.agg #[.int .i64 y.before, .int .i64 y.height, .int .i64 y.view, .slice L9 y.list.length e9, .int .i64 y.root, .int .i64 y.eff]), bV (.agg #[.int .i64 x.key, .int .i64 (v8 : Int), .slice A5 x.proof.length c5]), fun _ _ => True] := ⟨fun _ _ _ h => h, fun _ _ _ h => h, fun _ _ _ h => h, trivial⟩
        refine wp_region_one (by kernel_rfl) [(0, some 60), (1, some 61), (2, none)] [[], [], [(0, some 60)]] (by kernel_rfl) 2 [0] (by kernel_rfl)
          (locB [bV (.agg #[.int .i64 y.before, .int .i64 y.height, .int .i64 y.view, .slice L9 y.list.length e9, .int .i64 y.root, .int .i64 y.eff]), bV (.agg #[.int .i64 x.key, .int .i64 (v8 : Int), .slice A5 x.proof.length c5]), fun _ _ => True]) (fun a b => Chg (fun q => q = w.heap.size) a b) (fun b w' => Blk w' w.heap.size 41 (cond b #[.int .i64 y.before, .int .i64 y.height, .int .i64 y.view, .slice L9 y.list.length e9, .int .i64 y.root, .int .i64 y.eff] #[.int .i64 0, .int .i64 0, .int .i64 0, .slice none 0 0, .int .i64 0, .int .i64 0])) (fun _ => Chg.refl _ _) (fun _ _ _ h1 h2 => h1.trans h2) (locV_st hF _) kbv ?_ ?_
        · refine steps_cons ?s0 ( steps_cons ?s1 ( steps_cons ?s2 steps_nil))
          case s0 =>
            intro w' b hE hb hR
            obtain rfl := hb (by simp)
            intro Q hQ
            have k' := kq.chg (chg_undrew hE) (by omega)
            have z0 : w'.cell? ⟨qz, 0, none⟩ = some (.int .i64 y.before) := k'.cell 0
            have z1 : w'.cell? ⟨qz, 1, none⟩ = some (.int .i64 y.height) := k'.cell 1
            have z2 : w'.cell? ⟨qz, 2, none⟩ = some (.int .i64 y.view) := k'.cell 2
            have z3 : w'.cell? ⟨qz, 3, none⟩ = some (.slice L9 y.list.length e9) := k'.cell 3
            have z4 : w'.cell? ⟨qz, 4, none⟩ = some (.int .i64 y.root) := k'.cell 4
            have z5 : w'.cell? ⟨qz, 5, none⟩ = some (.int .i64 y.eff) := k'.cell 5
            go_wp2
            exact hQ _ _ _ rfl rfl (Chg.refl _ _) hR
          case s1 =>
            intro w' b hE hbx hR
            clear hbx
            intro Q hQ
            have k' := kav.chg (chg_undrew hE) (by omega)
            have z0 : w'.cell? ⟨qa, 0, none⟩ = some (.int .i64 x.key) := k'.cell 0
            have z1 : w'.cell? ⟨qa, 1, none⟩ = some (.int .i64 (v8 : Int)) := k'.cell 1
            have z2 : w'.cell? ⟨qa, 2, none⟩ = some (.slice A5 x.proof.length c5) := k'.cell 2
            go_wp2
            exact hQ _ _ _ rfl rfl (Chg.refl _ _) hR
          case s2 =>
            intro w' b hE hb hR
            obtain rfl := hb (by simp)
            rintro _ rfl Q hQ
            refine wpList_store_row rfl 41 (.tmp 2) (.tmp 60) rfl w.heap.size #[.int .i64 y.before, .int .i64 y.height, .int .i64 y.view, .slice L9 y.list.length e9, .int .i64 y.root, .int .i64 y.eff] rfl rfl 41 #[.int .i64 0, .int .i64 0, .int .i64 0, .slice none 0 0, .int .i64 0, .int .i64 0] hR info_bk4 rfl (bk_one4 _ _ _ _ _ _ _ _) ?_
            go_wp2
            exact hQ undef _ _ rfl trivial (chg_setRow (S := fun k => k = w.heap.size) rfl _) (blk_setRow hR)
        intro w9 hE hR
        have hR : Blk w9 w.heap.size 41 #[.int .i64 y.before, .int .i64 y.height, .int .i64 y.view, .slice L9 y.list.length e9, .int .i64 y.root, .int .i64 y.eff] := hR
        have hc9 := chg_undrew hE
        rintro v0 - v1 hv1 v2 -
        obtain rfl : v1 = _ := hv1
        have kr9 := krv.chg hc9 (by omega)
        clear hE hF
        change wpList _ _ _ [_] _ _
        simp only [Act.put, List.setIfInBounds_toArray, List.set_cons_succ, List.set_cons_zero]
        go_wp2_with (refine wpList_store_row rfl 43 (.tmp 3) (.tmp 61) rfl (w.heap.size + 1) #[.int .i64 x.key, .int .i64 (v8 : Int), .slice A5 x.proof.length c5] rfl rfl 43 #[.int .i64 0, .int .i64 0, .slice none 0 0] kr9 info_ans4 rfl (ans_one4 _ _ _ _ _) ?_)
        have hc10 : Chg (fun k => k = w.heap.size + 1) w9 (w9.setRow (w.heap.size + 1) #[.int .i64 x.key, .int .i64 (v8 : Int), .slice A5 x.proof.length c5]) := chg_setRow (S := fun k => k = w.heap.size + 1) rfl _
        refine bodyPost_ret (v := .tuple #[.agg #[.int .i64 y.before, .int .i64 y.height, .int .i64 y.view, .slice L9 y.list.length e9, .int .i64 y.root, .int .i64 y.eff], .agg #[.int .i64 x.key, .int .i64 (v8 : Int), .slice A5 x.proof.length c5]]) (results_cells2 (p := 2) (q := 3) (ty := 41) (ty2 := 43) rfl _ _ w.heap.size 41 #[.int .i64 y.before, .int .i64 y.height, .int .i64 y.view, .slice L9 y.list.length e9, .int .i64 y.root, .int .i64 y.eff] (0, 0) _ (w.heap.size + 1) 43 #[.int .i64 x.key, .int .i64 (v8 : Int), .slice A5 x.proof.length c5] (0, 0) _ rfl (hR.chg hc10 (by omega)) Try.underlying41 rfl info_bk4 rfl (blk_setRow kr9) Try.underlying43 rfl info_ans4) rfl ?_
        first | exact ⟨y, L9, e9, ⟨x.key, (v8 : Int), x.proof⟩, A5, c5, rfl, hyl, hpl, ((rv.keep (Kp.chg hc9 fun k hk e => by omega)).keep (Kp.chg hc10 fun k hk e => by omega)).rd, ((prv.keep (Kp.chg hc9 fun k hk e => by omega)).keep (Kp.chg hc10 fun k hk e => by omega)).rd, (blv.trans (hc9.below (fun k hk e => by omega) blv.size)).trans (hc10.below (fun k hk e => by omega) (Nat.le_trans blv.size hc9.size))⟩ | exact ⟨y, L9, e9, ⟨x.key, (v8 : Int), x.proof⟩, A5, ⟨c5, rfl⟩, hyl, hpl, ((rv.keep (Kp.chg hc9 fun k hk e => by omega)).keep (Kp.chg hc10 fun k hk e => by omega)).rd, ((prv.keep (Kp.chg hc9 fun k hk e => by omega)).keep (Kp.chg hc10 fun k hk e => by omega)).rd, (blv.trans (hc9.below (fun k hk e => by omega) blv.size)).trans (hc10.below (fun k hk e => by omega) (Nat.le_trans blv.size hc9.size))⟩
      · have f4 : wy.frozen? ⟨qz, 4, none⟩ = false := ky.frozen 4
        have z4 : wy.cell? ⟨qz, 4, none⟩ = some (.int .i64 y.root) := ky.cell 4
        go_upto_region 17 with fail
        have kq : Blk (wy.setCell ⟨qz, 4, none⟩ (.int .i64 (-1))) qz 41 #[.int .i64 y.before, .int .i64 y.height, .int .i64 y.view, .slice L9 y.list.length e9, .int .i64 (-1), .int .i64 y.eff] := by have := ky.set_ 4 (Value.int .i64 (-1)); simpa using this
        have hWv := chg_more hWy ((Chg.refl (fun k => k = qz) wy).setCell (p := ⟨qz, 4, none⟩) (.inl rfl) (Value.int .i64 (-1))) (fun k hk e => by omega)
        clear ky hWy f4 z4
        generalize wy.setCell ⟨qz, 4, none⟩ (.int .i64 (-1)) = wv at *
        have kav : Blk wv qa 43 #[.int .i64 x.key, .int .i64 (v8 : Int), .slice A5 x.proof.length c5] := s9.ka.chg hWv (by omega)
        have kbv := s9.kb.chg hWv (by omega)
        have krv := s9.kr.chg hWv (by omega)
        have prv := s9.pr.keep (Kp.chg hWv fun k hk e => by omega)
        have rv := r9.keep (Kp.chg hWv fun k hk e => by omega)
        have blv := s9.bl.trans (hWv.below (fun k hk e => by omega) s9.bl.size)
        have hpl : (⟨x.key, (v8 : Int), x.proof⟩ : Ans).proof.length ≤ 5 := s9.pl
        clear s9 r9 hWv
        have hF : StVL [bV (.agg #[.int .i64 y.before, .int .i64 y.height, .int .i64 y.view, .slice L9 y.list.length e9, .int .i64 (-1), .int .i64 y.eff]), bV (.agg #[.int .i64 x.key, .int .i64 (v8 : Int), .slice A5 x.proof.length c5]), fun _ _ => True] := ⟨fun _ _ _ h => h, fun _ _ _ h => h, fun _ _ _ h => h, trivial⟩
        refine wp_region_one (by kernel_rfl) [(0, some 60), (1, some 61), (2, none)] [[], [], [(0, some 60)]] (by kernel_rfl) 2 [0] (by kernel_rfl)
          (locB [bV (.agg #[.int .i64 y.before, .int .i64 y.height, .int .i64 y.view, .slice L9 y.list.length e9, .int .i64 (-1), .int .i64 y.eff]), bV (.agg #[.int .i64 x.key, .int .i64 (v8 : Int), .slice A5 x.proof.length c5]), fun _ _ => True]) (fun a b => Chg (fun q => q = w.heap.size) a b) (fun b w' => Blk w' w.heap.size 41 (cond b #[.int .i64 y.before, .int .i64 y.height, .int .i64 y.view, .slice L9 y.list.length e9, .int .i64 (-1), .int .i64 y.eff] #[.int .i64 0, .int .i64 0, .int .i64 0, .slice none 0 0, .int .i64 0, .int .i64 0])) (fun _ => Chg.refl _ _) (fun _ _ _ h1 h2 => h1.trans h2) (locV_st hF _) kbv ?_ ?_
        · refine steps_cons ?s0 ( steps_cons ?s1 ( steps_cons ?s2 steps_nil))
          case s0 =>
            intro w' b hE hb hR
            obtain rfl := hb (by simp)
            intro Q hQ
            have k' := kq.chg (chg_undrew hE) (by omega)
            have z0 : w'.cell? ⟨qz, 0, none⟩ = some (.int .i64 y.before) := k'.cell 0
            have z1 : w'.cell? ⟨qz, 1, none⟩ = some (.int .i64 y.height) := k'.cell 1
            have z2 : w'.cell? ⟨qz, 2, none⟩ = some (.int .i64 y.view) := k'.cell 2
            have z3 : w'.cell? ⟨qz, 3, none⟩ = some (.slice L9 y.list.length e9) := k'.cell 3
            have z4 : w'.cell? ⟨qz, 4, none⟩ = some (.int .i64 (-1)) := k'.cell 4
            have z5 : w'.cell? ⟨qz, 5, none⟩ = some (.int .i64 y.eff) := k'.cell 5
            go_wp2
            exact hQ _ _ _ rfl rfl (Chg.refl _ _) hR
          case s1 =>
            intro w' b hE hbx hR
            clear hbx
            intro Q hQ
            have k' := kav.chg (chg_undrew hE) (by omega)
            have z0 : w'.cell? ⟨qa, 0, none⟩ = some (.int .i64 x.key) := k'.cell 0
            have z1 : w'.cell? ⟨qa, 1, none⟩ = some (.int .i64 (v8 : Int)) := k'.cell 1
            have z2 : w'.cell? ⟨qa, 2, none⟩ = some (.slice A5 x.proof.length c5) := k'.cell 2
            go_wp2
            exact hQ _ _ _ rfl rfl (Chg.refl _ _) hR
          case s2 =>
            intro w' b hE hb hR
            obtain rfl := hb (by simp)
            rintro _ rfl Q hQ
            refine wpList_store_row rfl 41 (.tmp 2) (.tmp 60) rfl w.heap.size #[.int .i64 y.before, .int .i64 y.height, .int .i64 y.view, .slice L9 y.list.length e9, .int .i64 (-1), .int .i64 y.eff] rfl rfl 41 #[.int .i64 0, .int .i64 0, .int .i64 0, .slice none 0 0, .int .i64 0, .int .i64 0] hR info_bk4 rfl (bk_one4 _ _ _ _ _ _ _ _) ?_
            go_wp2
            exact hQ undef _ _ rfl trivial (chg_setRow (S := fun k => k = w.heap.size) rfl _) (blk_setRow hR)
        intro w9 hE hR
        have hR : Blk w9 w.heap.size 41 #[.int .i64 y.before, .int .i64 y.height, .int .i64 y.view, .slice L9 y.list.length e9, .int .i64 (-1), .int .i64 y.eff] := hR
        have hc9 := chg_undrew hE
        rintro v0 - v1 hv1 v2 -
        obtain rfl : v1 = _ := hv1
        have kr9 := krv.chg hc9 (by omega)
        clear hE hF
        change wpList _ _ _ [_] _ _
        simp only [Act.put, List.setIfInBounds_toArray, List.set_cons_succ, List.set_cons_zero]
        go_wp2_with (refine wpList_store_row rfl 43 (.tmp 3) (.tmp 61) rfl (w.heap.size + 1) #[.int .i64 x.key, .int .i64 (v8 : Int), .slice A5 x.proof.length c5] rfl rfl 43 #[.int .i64 0, .int .i64 0, .slice none 0 0] kr9 info_ans4 rfl (ans_one4 _ _ _ _ _) ?_)
        have hc10 : Chg (fun k => k = w.heap.size + 1) w9 (w9.setRow (w.heap.size + 1) #[.int .i64 x.key, .int .i64 (v8 : Int), .slice A5 x.proof.length c5]) := chg_setRow (S := fun k => k = w.heap.size + 1) rfl _
        refine bodyPost_ret (v := .tuple #[.agg #[.int .i64 y.before, .int .i64 y.height, .int .i64 y.view, .slice L9 y.list.length e9, .int .i64 (-1), .int .i64 y.eff], .agg #[.int .i64 x.key, .int .i64 (v8 : Int), .slice A5 x.proof.length c5]]) (results_cells2 (p := 2) (q := 3) (ty := 41) (ty2 := 43) rfl _ _ w.heap.size 41 #[.int .i64 y.before, .int .i64 y.height, .int .i64 y.view, .slice L9 y.list.length e9, .int .i64 (-1), .int .i64 y.eff] (0, 0) _ (w.heap.size + 1) 43 #[.int .i64 x.key, .int .i64 (v8 : Int), .slice A5 x.proof.length c5] (0, 0) _ rfl (hR.chg hc10 (by omega)) Try.underlying41 rfl info_bk4 rfl (blk_setRow kr9) Try.underlying43 rfl info_ans4) rfl ?_
        first | exact ⟨⟨y.before, y.height, y.view, y.list, -1, y.eff⟩, L9, e9, ⟨x.key, (v8 : Int), x.proof⟩, A5, c5, rfl, hyl, hpl, ((rv.keep (Kp.chg hc9 fun k hk e => by omega)).keep (Kp.chg hc10 fun k hk e => by omega)).rd, ((prv.keep (Kp.chg hc9 fun k hk e => by omega)).keep (Kp.chg hc10 fun k hk e => by omega)).rd, (blv.trans (hc9.below (fun k hk e => by omega) blv.size)).trans (hc10.below (fun k hk e => by omega) (Nat.le_trans blv.size hc9.size))⟩ | exact ⟨⟨y.before, y.height, y.view, y.list, -1, y.eff⟩, L9, e9, ⟨x.key, (v8 : Int), x.proof⟩, A5, ⟨c5, rfl⟩, hyl, hpl, ((rv.keep (Kp.chg hc9 fun k hk e => by omega)).keep (Kp.chg hc10 fun k hk e => by omega)).rd, ((prv.keep (Kp.chg hc9 fun k hk e => by omega)).keep (Kp.chg hc10 fun k hk e => by omega)).rd, (blv.trans (hc9.below (fun k hk e => by omega) blv.size)).trans (hc10.below (fun k hk e => by omega) (Nat.le_trans blv.size hc9.size))⟩
    · go_wp2_with fail
      refine (l20Key_any g _ w7 s7.h (by omega)).mono ?_
      rintro e w8 ⟨v8, hv8, rfl, h8, ch8⟩
      have s8 := s7.rdr h8 ch8
      clear s7 h8 ch8
      have f1 : w8.frozen? ⟨qa, 0, none⟩ = false := s8.ka.frozen 0
      have z1 : w8.cell? ⟨qa, 0, none⟩ = some (.int .i64 x.key) := s8.ka.cell 0
      go_upto_region 14 with fail
      have s9 := s8.upd (an' := ⟨(v8 : Int), x.value, x.proof⟩) (P' := A5) (c' := c5) (((Chg.refl (fun k => k = qa) w8).setCell (p := ⟨qa, 0, none⟩) (.inl rfl) (.int .i64 (v8 : Int)))) (by have := s8.ka.set_ 0 (Value.int .i64 (v8 : Int)); simpa using this) s8.pr s8.pl
      clear s8 f1 z1
      generalize w8.setCell ⟨qa, 0, none⟩ (.int .i64 (v8 : Int)) = wn at *
      have hnl := hnn0
      obtain ⟨bb, ob, L9, e9, hA2, hSb, hbb, q0, q1, q2, q3, q4, q5, r9⟩ := tr_far (S := w1.heap.size) (fun w'' hc => s9.tr w'' (s9.q.trans hc)) hnl
      have hyl := unhide HD4 _ (List.getElem_mem hnl)
      have x1 : wn.cell? ⟨bx, 1, none⟩ = some (.slice A2 t.blocks.length c2) := s9.kx.cell 1
      rw [hA2] at x1
      clear hA2
      have hnb : (nn : Int) < (t.blocks.length : Int) := by omega
      generalize t.blocks[nn] = y at *
      have hll := s9.l1
      have hal := s9.ka.lt
      go_wp2_with (refine wpList_store_row rfl 41 (.tmp 9) (.tmp 56) rfl wn.heap.size #[.int .i64 y.before, .int .i64 y.height, .int .i64 y.view, .slice L9 y.list.length e9, .int .i64 y.root, .int .i64 y.eff] rfl rfl 41 #[.int .i64 0, .int .i64 0, .int .i64 0, .slice none 0 0, .int .i64 0, .int .i64 0] (box_new wn 41 #[.int .i64 0, .int .i64 0, .int .i64 0, .slice none 0 0, .int .i64 0, .int .i64 0] #[.int .i64 y.before, .int .i64 y.height, .int .i64 y.view, .slice L9 y.list.length e9, .int .i64 y.root, .int .i64 y.eff]).1 info_bk4 rfl (bk_one4 _ _ _ _ _ _ _ _) ?_; refine at_world (C := fun W => wpList _ _ _ _ _ W) (F := fun W => Blk W wn.heap.size 41 #[.int .i64 y.before, .int .i64 y.height, .int .i64 y.view, .slice L9 y.list.length e9, .int .i64 y.root, .int .i64 y.eff] ∧ Below wn.heap.size wn W) ⟨(box_new wn 41 #[.int .i64 0, .int .i64 0, .int .i64 0, .slice none 0 0, .int .i64 0, .int .i64 0] #[.int .i64 y.before, .int .i64 y.height, .int .i64 y.view, .slice L9 y.list.length e9, .int .i64 y.root, .int .i64 y.eff]).2.1, (box_new wn 41 #[.int .i64 0, .int .i64 0, .int .i64 0, .slice none 0 0, .int .i64 0, .int .i64 0] #[.int .i64 y.before, .int .i64 y.height, .int .i64 y.view, .slice L9 y.list.length e9, .int .i64 y.root, .int .i64 y.eff]).2.2⟩ ?_; rintro wz ⟨kz, bz⟩; obtain ⟨qz, hqz⟩ : ∃ q, q = wn.heap.size := ⟨_, rfl⟩; rw [← hqz] at kz ⊢; have HQZ := hide hqz; clear hqz)
      have hqz : wn.heap.size ≤ qz := by have := unhide HQZ; omega
      have hz := s9.h.new bz
      clear x1 q0 q1 q2 q3 q4 q5
      refine (odd_any g _ 12 wz hz (by omega) (by omega) (by omega)).mono ?_
      rintro e wy ⟨b2, rfl, -, hy, chy⟩
      have ky := kz.chg chy (by omega)
      have hWy := (Chg.of_new (S := fun k => k = g) bz).trans chy
      clear kz bz hz hy chy
      cases b2
      · go_upto_region 17 with fail
        have kq := ky
        have hWv := hWy
        clear ky hWy
        have kav : Blk wy qa 43 #[.int .i64 (v8 : Int), .int .i64 x.value, .slice A5 x.proof.length c5] := s9.ka.chg hWv (by omega)
        have kbv := s9.kb.chg hWv (by omega)
        have krv := s9.kr.chg hWv (by omega)
        have prv := s9.pr.keep (Kp.chg hWv fun k hk e => by omega)
        have rv := r9.keep (Kp.chg hWv fun k hk e => by omega)
        have blv := s9.bl.trans (hWv.below (fun k hk e => by omega) s9.bl.size)
        have hpl : (⟨(v8 : Int), x.value, x.proof⟩ : Ans).proof.length ≤ 5 := s9.pl
        clear s9 r9 hWv
        have hF : StVL [bV (.agg #[.int .i64 y.before, .int .i64 y.height, .int .i64 y.view, .slice L9 y.list.length e9, .int .i64 y.root, .int .i64 y.eff]), bV (.agg #[.int .i64 (v8 : Int), .int .i64 x.value, .slice A5 x.proof.length c5]), fun _ _ => True] := ⟨fun _ _ _ h => h, fun _ _ _ h => h, fun _ _ _ h => h, trivial⟩
        refine wp_region_one (by kernel_rfl) [(0, some 60), (1, some 61), (2, none)] [[], [], [(0, some 60)]] (by kernel_rfl) 2 [0] (by kernel_rfl)
          (locB [bV (.agg #[.int .i64 y.before, .int .i64 y.height, .int .i64 y.view, .slice L9 y.list.length e9, .int .i64 y.root, .int .i64 y.eff]), bV (.agg #[.int .i64 (v8 : Int), .int .i64 x.value, .slice A5 x.proof.length c5]), fun _ _ => True]) (fun a b => Chg (fun q => q = w.heap.size) a b) (fun b w' => Blk w' w.heap.size 41 (cond b #[.int .i64 y.before, .int .i64 y.height, .int .i64 y.view, .slice L9 y.list.length e9, .int .i64 y.root, .int .i64 y.eff] #[.int .i64 0, .int .i64 0, .int .i64 0, .slice none 0 0, .int .i64 0, .int .i64 0])) (fun _ => Chg.refl _ _) (fun _ _ _ h1 h2 => h1.trans h2) (locV_st hF _) kbv ?_ ?_
        · refine steps_cons ?s0 ( steps_cons ?s1 ( steps_cons ?s2 steps_nil))
          case s0 =>
            intro w' b hE hb hR
            obtain rfl := hb (by simp)
            intro Q hQ
            have k' := kq.chg (chg_undrew hE) (by omega)
            have z0 : w'.cell? ⟨qz, 0, none⟩ = some (.int .i64 y.before) := k'.cell 0
            have z1 : w'.cell? ⟨qz, 1, none⟩ = some (.int .i64 y.height) := k'.cell 1
            have z2 : w'.cell? ⟨qz, 2, none⟩ = some (.int .i64 y.view) := k'.cell 2
            have z3 : w'.cell? ⟨qz, 3, none⟩ = some (.slice L9 y.list.length e9) := k'.cell 3
            have z4 : w'.cell? ⟨qz, 4, none⟩ = some (.int .i64 y.root) := k'.cell 4
            have z5 : w'.cell? ⟨qz, 5, none⟩ = some (.int .i64 y.eff) := k'.cell 5
            go_wp2
            exact hQ _ _ _ rfl rfl (Chg.refl _ _) hR
          case s1 =>
            intro w' b hE hbx hR
            clear hbx
            intro Q hQ
            have k' := kav.chg (chg_undrew hE) (by omega)
            have z0 : w'.cell? ⟨qa, 0, none⟩ = some (.int .i64 (v8 : Int)) := k'.cell 0
            have z1 : w'.cell? ⟨qa, 1, none⟩ = some (.int .i64 x.value) := k'.cell 1
            have z2 : w'.cell? ⟨qa, 2, none⟩ = some (.slice A5 x.proof.length c5) := k'.cell 2
            go_wp2
            exact hQ _ _ _ rfl rfl (Chg.refl _ _) hR
          case s2 =>
            intro w' b hE hb hR
            obtain rfl := hb (by simp)
            rintro _ rfl Q hQ
            refine wpList_store_row rfl 41 (.tmp 2) (.tmp 60) rfl w.heap.size #[.int .i64 y.before, .int .i64 y.height, .int .i64 y.view, .slice L9 y.list.length e9, .int .i64 y.root, .int .i64 y.eff] rfl rfl 41 #[.int .i64 0, .int .i64 0, .int .i64 0, .slice none 0 0, .int .i64 0, .int .i64 0] hR info_bk4 rfl (bk_one4 _ _ _ _ _ _ _ _) ?_
            go_wp2
            exact hQ undef _ _ rfl trivial (chg_setRow (S := fun k => k = w.heap.size) rfl _) (blk_setRow hR)
        intro w9 hE hR
        have hR : Blk w9 w.heap.size 41 #[.int .i64 y.before, .int .i64 y.height, .int .i64 y.view, .slice L9 y.list.length e9, .int .i64 y.root, .int .i64 y.eff] := hR
        have hc9 := chg_undrew hE
        rintro v0 - v1 hv1 v2 -
        obtain rfl : v1 = _ := hv1
        have kr9 := krv.chg hc9 (by omega)
        clear hE hF
        change wpList _ _ _ [_] _ _
        simp only [Act.put, List.setIfInBounds_toArray, List.set_cons_succ, List.set_cons_zero]
        go_wp2_with (refine wpList_store_row rfl 43 (.tmp 3) (.tmp 61) rfl (w.heap.size + 1) #[.int .i64 (v8 : Int), .int .i64 x.value, .slice A5 x.proof.length c5] rfl rfl 43 #[.int .i64 0, .int .i64 0, .slice none 0 0] kr9 info_ans4 rfl (ans_one4 _ _ _ _ _) ?_)
        have hc10 : Chg (fun k => k = w.heap.size + 1) w9 (w9.setRow (w.heap.size + 1) #[.int .i64 (v8 : Int), .int .i64 x.value, .slice A5 x.proof.length c5]) := chg_setRow (S := fun k => k = w.heap.size + 1) rfl _
        refine bodyPost_ret (v := .tuple #[.agg #[.int .i64 y.before, .int .i64 y.height, .int .i64 y.view, .slice L9 y.list.length e9, .int .i64 y.root, .int .i64 y.eff], .agg #[.int .i64 (v8 : Int), .int .i64 x.value, .slice A5 x.proof.length c5]]) (results_cells2 (p := 2) (q := 3) (ty := 41) (ty2 := 43) rfl _ _ w.heap.size 41 #[.int .i64 y.before, .int .i64 y.height, .int .i64 y.view, .slice L9 y.list.length e9, .int .i64 y.root, .int .i64 y.eff] (0, 0) _ (w.heap.size + 1) 43 #[.int .i64 (v8 : Int), .int .i64 x.value, .slice A5 x.proof.length c5] (0, 0) _ rfl (hR.chg hc10 (by omega)) Try.underlying41 rfl info_bk4 rfl (blk_setRow kr9) Try.underlying43 rfl info_ans4) rfl ?_
        first | exact ⟨y, L9, e9, ⟨(v8 : Int), x.value, x.proof⟩, A5, c5, rfl, hyl, hpl, ((rv.keep (Kp.chg hc9 fun k hk e => by omega)).keep (Kp.chg hc10 fun k hk e => by omega)).rd, ((prv.keep (Kp.chg hc9 fun k hk e => by omega)).keep (Kp.chg hc10 fun k hk e => by omega)).rd, (blv.trans (hc9.below (fun k hk e => by omega) blv.size)).trans (hc10.below (fun k hk e => by omega) (Nat.le_trans blv.size hc9.size))⟩ | exact ⟨y, L9, e9, ⟨(v8 : Int), x.value, x.proof⟩, A5, ⟨c5, rfl⟩, hyl, hpl, ((rv.keep (Kp.chg hc9 fun k hk e => by omega)).keep (Kp.chg hc10 fun k hk e => by omega)).rd, ((prv.keep (Kp.chg hc9 fun k hk e => by omega)).keep (Kp.chg hc10 fun k hk e => by omega)).rd, (blv.trans (hc9.below (fun k hk e => by omega) blv.size)).trans (hc10.below (fun k hk e => by omega) (Nat.le_trans blv.size hc9.size))⟩
      · have f4 : wy.frozen? ⟨qz, 4, none⟩ = false := ky.frozen 4
        have z4 : wy.cell? ⟨qz, 4, none⟩ = some (.int .i64 y.root) := ky.cell 4
        go_upto_region 17 with fail
        have kq : Blk (wy.setCell ⟨qz, 4, none⟩ (.int .i64 (-1))) qz 41 #[.int .i64 y.before, .int .i64 y.height, .int .i64 y.view, .slice L9 y.list.length e9, .int .i64 (-1), .int .i64 y.eff] := by have := ky.set_ 4 (Value.int .i64 (-1)); simpa using this
        have hWv := chg_more hWy ((Chg.refl (fun k => k = qz) wy).setCell (p := ⟨qz, 4, none⟩) (.inl rfl) (Value.int .i64 (-1))) (fun k hk e => by omega)
        clear ky hWy f4 z4
        generalize wy.setCell ⟨qz, 4, none⟩ (.int .i64 (-1)) = wv at *
        have kav : Blk wv qa 43 #[.int .i64 (v8 : Int), .int .i64 x.value, .slice A5 x.proof.length c5] := s9.ka.chg hWv (by omega)
        have kbv := s9.kb.chg hWv (by omega)
        have krv := s9.kr.chg hWv (by omega)
        have prv := s9.pr.keep (Kp.chg hWv fun k hk e => by omega)
        have rv := r9.keep (Kp.chg hWv fun k hk e => by omega)
        have blv := s9.bl.trans (hWv.below (fun k hk e => by omega) s9.bl.size)
        have hpl : (⟨(v8 : Int), x.value, x.proof⟩ : Ans).proof.length ≤ 5 := s9.pl
        clear s9 r9 hWv
        have hF : StVL [bV (.agg #[.int .i64 y.before, .int .i64 y.height, .int .i64 y.view, .slice L9 y.list.length e9, .int .i64 (-1), .int .i64 y.eff]), bV (.agg #[.int .i64 (v8 : Int), .int .i64 x.value, .slice A5 x.proof.length c5]), fun _ _ => True] := ⟨fun _ _ _ h => h, fun _ _ _ h => h, fun _ _ _ h => h, trivial⟩
        refine wp_region_one (by kernel_rfl) [(0, some 60), (1, some 61), (2, none)] [[], [], [(0, some 60)]] (by kernel_rfl) 2 [0] (by kernel_rfl)
          (locB [bV (.agg #[.int .i64 y.before, .int .i64 y.height, .int .i64 y.view, .slice L9 y.list.length e9, .int .i64 (-1), .int .i64 y.eff]), bV (.agg #[.int .i64 (v8 : Int), .int .i64 x.value, .slice A5 x.proof.length c5]), fun _ _ => True]) (fun a b => Chg (fun q => q = w.heap.size) a b) (fun b w' => Blk w' w.heap.size 41 (cond b #[.int .i64 y.before, .int .i64 y.height, .int .i64 y.view, .slice L9 y.list.length e9, .int .i64 (-1), .int .i64 y.eff] #[.int .i64 0, .int .i64 0, .int .i64 0, .slice none 0 0, .int .i64 0, .int .i64 0])) (fun _ => Chg.refl _ _) (fun _ _ _ h1 h2 => h1.trans h2) (locV_st hF _) kbv ?_ ?_
        · refine steps_cons ?s0 ( steps_cons ?s1 ( steps_cons ?s2 steps_nil))
          case s0 =>
            intro w' b hE hb hR
            obtain rfl := hb (by simp)
            intro Q hQ
            have k' := kq.chg (chg_undrew hE) (by omega)
            have z0 : w'.cell? ⟨qz, 0, none⟩ = some (.int .i64 y.before) := k'.cell 0
            have z1 : w'.cell? ⟨qz, 1, none⟩ = some (.int .i64 y.height) := k'.cell 1
            have z2 : w'.cell? ⟨qz, 2, none⟩ = some (.int .i64 y.view) := k'.cell 2
            have z3 : w'.cell? ⟨qz, 3, none⟩ = some (.slice L9 y.list.length e9) := k'.cell 3
            have z4 : w'.cell? ⟨qz, 4, none⟩ = some (.int .i64 (-1)) := k'.cell 4
            have z5 : w'.cell? ⟨qz, 5, none⟩ = some (.int .i64 y.eff) := k'.cell 5
            go_wp2
            exact hQ _ _ _ rfl rfl (Chg.refl _ _) hR
          case s1 =>
            intro w' b hE hbx hR
            clear hbx
            intro Q hQ
            have k' := kav.chg (chg_undrew hE) (by omega)
            have z0 : w'.cell? ⟨qa, 0, none⟩ = some (.int .i64 (v8 : Int)) := k'.cell 0
            have z1 : w'.cell? ⟨qa, 1, none⟩ = some (.int .i64 x.value) := k'.cell 1
            have z2 : w'.cell? ⟨qa, 2, none⟩ = some (.slice A5 x.proof.length c5) := k'.cell 2
            go_wp2
            exact hQ _ _ _ rfl rfl (Chg.refl _ _) hR
          case s2 =>
            intro w' b hE hb hR
            obtain rfl := hb (by simp)
            rintro _ rfl Q hQ
            refine wpList_store_row rfl 41 (.tmp 2) (.tmp 60) rfl w.heap.size #[.int .i64 y.before, .int .i64 y.height, .int .i64 y.view, .slice L9 y.list.length e9, .int .i64 (-1), .int .i64 y.eff] rfl rfl 41 #[.int .i64 0, .int .i64 0, .int .i64 0, .slice none 0 0, .int .i64 0, .int .i64 0] hR info_bk4 rfl (bk_one4 _ _ _ _ _ _ _ _) ?_
            go_wp2
            exact hQ undef _ _ rfl trivial (chg_setRow (S := fun k => k = w.heap.size) rfl _) (blk_setRow hR)
        intro w9 hE hR
        have hR : Blk w9 w.heap.size 41 #[.int .i64 y.before, .int .i64 y.height, .int .i64 y.view, .slice L9 y.list.length e9, .int .i64 (-1), .int .i64 y.eff] := hR
        have hc9 := chg_undrew hE
        rintro v0 - v1 hv1 v2 -
        obtain rfl : v1 = _ := hv1
        have kr9 := krv.chg hc9 (by omega)
        clear hE hF
        change wpList _ _ _ [_] _ _
        simp only [Act.put, List.setIfInBounds_toArray, List.set_cons_succ, List.set_cons_zero]
        go_wp2_with (refine wpList_store_row rfl 43 (.tmp 3) (.tmp 61) rfl (w.heap.size + 1) #[.int .i64 (v8 : Int), .int .i64 x.value, .slice A5 x.proof.length c5] rfl rfl 43 #[.int .i64 0, .int .i64 0, .slice none 0 0] kr9 info_ans4 rfl (ans_one4 _ _ _ _ _) ?_)
        have hc10 : Chg (fun k => k = w.heap.size + 1) w9 (w9.setRow (w.heap.size + 1) #[.int .i64 (v8 : Int), .int .i64 x.value, .slice A5 x.proof.length c5]) := chg_setRow (S := fun k => k = w.heap.size + 1) rfl _
        refine bodyPost_ret (v := .tuple #[.agg #[.int .i64 y.before, .int .i64 y.height, .int .i64 y.view, .slice L9 y.list.length e9, .int .i64 (-1), .int .i64 y.eff], .agg #[.int .i64 (v8 : Int), .int .i64 x.value, .slice A5 x.proof.length c5]]) (results_cells2 (p := 2) (q := 3) (ty := 41) (ty2 := 43) rfl _ _ w.heap.size 41 #[.int .i64 y.before, .int .i64 y.height, .int .i64 y.view, .slice L9 y.list.length e9, .int .i64 (-1), .int .i64 y.eff] (0, 0) _ (w.heap.size + 1) 43 #[.int .i64 (v8 : Int), .int .i64 x.value, .slice A5 x.proof.length c5] (0, 0) _ rfl (hR.chg hc10 (by omega)) Try.underlying41 rfl info_bk4 rfl (blk_setRow kr9) Try.underlying43 rfl info_ans4) rfl ?_
        first | exact ⟨⟨y.before, y.height, y.view, y.list, -1, y.eff⟩, L9, e9, ⟨(v8 : Int), x.value, x.proof⟩, A5, c5, rfl, hyl, hpl, ((rv.keep (Kp.chg hc9 fun k hk e => by omega)).keep (Kp.chg hc10 fun k hk e => by omega)).rd, ((prv.keep (Kp.chg hc9 fun k hk e => by omega)).keep (Kp.chg hc10 fun k hk e => by omega)).rd, (blv.trans (hc9.below (fun k hk e => by omega) blv.size)).trans (hc10.below (fun k hk e => by omega) (Nat.le_trans blv.size hc9.size))⟩ | exact ⟨⟨y.before, y.height, y.view, y.list, -1, y.eff⟩, L9, e9, ⟨(v8 : Int), x.value, x.proof⟩, A5, ⟨c5, rfl⟩, hyl, hpl, ((rv.keep (Kp.chg hc9 fun k hk e => by omega)).keep (Kp.chg hc10 fun k hk e => by omega)).rd, ((prv.keep (Kp.chg hc9 fun k hk e => by omega)).keep (Kp.chg hc10 fun k hk e => by omega)).rd, (blv.trans (hc9.below (fun k hk e => by omega) blv.size)).trans (hc10.below (fun k hk e => by omega) (Nat.le_trans blv.size hc9.size))⟩
    · obtain ⟨pb, po, rfl, -⟩ := s7.pr (by have := unhide HL5; simp; omega)
      have hl5 := unhide HL5
      have hcap := unhide HCAP
      have z2 : w7.cell? ⟨qa, 2, none⟩ = some (.slice (some ⟨pb, po, none⟩) x.proof.length c5) := s7.ka.cell 2
      have f2 : w7.frozen? ⟨qa, 2, none⟩ = false := s7.ka.frozen 2
      go_upto_region 14 with fail
      have prd := s7.pr.drop 1
      rw [← List.map_drop] at prd
      have hpl1 : x.proof.length - 1 = (x.proof.drop 1).length := by simp
      rw [hpl1]
      have hpl2 : (x.proof.drop 1).length ≤ 5 := by simp; omega
      clear hpl1
      generalize x.proof.drop 1 = ps at *
      have s9 := s7.upd (an' := ⟨x.key, x.value, ps⟩) (P' := some ⟨pb, po + 1, none⟩) (c' := c5 - 1) (((Chg.refl (fun k => k = qa) w7).setCell (p := ⟨qa, 2, none⟩) (.inl rfl) (.slice (some ⟨pb, po + 1, none⟩) ps.length (c5 - 1)))) (by have := s7.ka.set_ 2 (Value.slice (some ⟨pb, po + 1, none⟩) ps.length (c5 - 1)); simpa using this) prd hpl2
      clear s7 f2 z2 prd hpl2
      generalize w7.setCell ⟨qa, 2, none⟩ (.slice (some ⟨pb, po + 1, none⟩) ps.length (c5 - 1)) = wn at *
      generalize (some (⟨pb, po + 1, none⟩ : Addr)) = P5 at *
      generalize c5 - 1 = c6 at *
      have hnl := hnn0
      obtain ⟨bb, ob, L9, e9, hA2, hSb, hbb, q0, q1, q2, q3, q4, q5, r9⟩ := tr_far (S := w1.heap.size) (fun w'' hc => s9.tr w'' (s9.q.trans hc)) hnl
      have hyl := unhide HD4 _ (List.getElem_mem hnl)
      have x1 : wn.cell? ⟨bx, 1, none⟩ = some (.slice A2 t.blocks.length c2) := s9.kx.cell 1
      rw [hA2] at x1
      clear hA2
      have hnb : (nn : Int) < (t.blocks.length : Int) := by omega
      generalize t.blocks[nn] = y at *
      have hll := s9.l1
      have hal := s9.ka.lt
      go_wp2_with (refine wpList_store_row rfl 41 (.tmp 9) (.tmp 56) rfl wn.heap.size #[.int .i64 y.before, .int .i64 y.height, .int .i64 y.view, .slice L9 y.list.length e9, .int .i64 y.root, .int .i64 y.eff] rfl rfl 41 #[.int .i64 0, .int .i64 0, .int .i64 0, .slice none 0 0, .int .i64 0, .int .i64 0] (box_new wn 41 #[.int .i64 0, .int .i64 0, .int .i64 0, .slice none 0 0, .int .i64 0, .int .i64 0] #[.int .i64 y.before, .int .i64 y.height, .int .i64 y.view, .slice L9 y.list.length e9, .int .i64 y.root, .int .i64 y.eff]).1 info_bk4 rfl (bk_one4 _ _ _ _ _ _ _ _) ?_; refine at_world (C := fun W => wpList _ _ _ _ _ W) (F := fun W => Blk W wn.heap.size 41 #[.int .i64 y.before, .int .i64 y.height, .int .i64 y.view, .slice L9 y.list.length e9, .int .i64 y.root, .int .i64 y.eff] ∧ Below wn.heap.size wn W) ⟨(box_new wn 41 #[.int .i64 0, .int .i64 0, .int .i64 0, .slice none 0 0, .int .i64 0, .int .i64 0] #[.int .i64 y.before, .int .i64 y.height, .int .i64 y.view, .slice L9 y.list.length e9, .int .i64 y.root, .int .i64 y.eff]).2.1, (box_new wn 41 #[.int .i64 0, .int .i64 0, .int .i64 0, .slice none 0 0, .int .i64 0, .int .i64 0] #[.int .i64 y.before, .int .i64 y.height, .int .i64 y.view, .slice L9 y.list.length e9, .int .i64 y.root, .int .i64 y.eff]).2.2⟩ ?_; rintro wz ⟨kz, bz⟩; obtain ⟨qz, hqz⟩ : ∃ q, q = wn.heap.size := ⟨_, rfl⟩; rw [← hqz] at kz ⊢; have HQZ := hide hqz; clear hqz)
      have hqz : wn.heap.size ≤ qz := by have := unhide HQZ; omega
      have hz := s9.h.new bz
      clear x1 q0 q1 q2 q3 q4 q5
      refine (odd_any g _ 12 wz hz (by omega) (by omega) (by omega)).mono ?_
      rintro e wy ⟨b2, rfl, -, hy, chy⟩
      have ky := kz.chg chy (by omega)
      have hWy := (Chg.of_new (S := fun k => k = g) bz).trans chy
      clear kz bz hz hy chy
      cases b2
      · go_upto_region 17 with fail
        have kq := ky
        have hWv := hWy
        clear ky hWy
        have kav : Blk wy qa 43 #[.int .i64 x.key, .int .i64 x.value, .slice P5 ps.length c6] := s9.ka.chg hWv (by omega)
        have kbv := s9.kb.chg hWv (by omega)
        have krv := s9.kr.chg hWv (by omega)
        have prv := s9.pr.keep (Kp.chg hWv fun k hk e => by omega)
        have rv := r9.keep (Kp.chg hWv fun k hk e => by omega)
        have blv := s9.bl.trans (hWv.below (fun k hk e => by omega) s9.bl.size)
        have hpl : (⟨x.key, x.value, ps⟩ : Ans).proof.length ≤ 5 := s9.pl
        clear s9 r9 hWv
        have hF : StVL [bV (.agg #[.int .i64 y.before, .int .i64 y.height, .int .i64 y.view, .slice L9 y.list.length e9, .int .i64 y.root, .int .i64 y.eff]), bV (.agg #[.int .i64 x.key, .int .i64 x.value, .slice P5 ps.length c6]), fun _ _ => True] := ⟨fun _ _ _ h => h, fun _ _ _ h => h, fun _ _ _ h => h, trivial⟩
        refine wp_region_one (by kernel_rfl) [(0, some 60), (1, some 61), (2, none)] [[], [], [(0, some 60)]] (by kernel_rfl) 2 [0] (by kernel_rfl)
          (locB [bV (.agg #[.int .i64 y.before, .int .i64 y.height, .int .i64 y.view, .slice L9 y.list.length e9, .int .i64 y.root, .int .i64 y.eff]), bV (.agg #[.int .i64 x.key, .int .i64 x.value, .slice P5 ps.length c6]), fun _ _ => True]) (fun a b => Chg (fun q => q = w.heap.size) a b) (fun b w' => Blk w' w.heap.size 41 (cond b #[.int .i64 y.before, .int .i64 y.height, .int .i64 y.view, .slice L9 y.list.length e9, .int .i64 y.root, .int .i64 y.eff] #[.int .i64 0, .int .i64 0, .int .i64 0, .slice none 0 0, .int .i64 0, .int .i64 0])) (fun _ => Chg.refl _ _) (fun _ _ _ h1 h2 => h1.trans h2) (locV_st hF _) kbv ?_ ?_
        · refine steps_cons ?s0 ( steps_cons ?s1 ( steps_cons ?s2 steps_nil))
          case s0 =>
            intro w' b hE hb hR
            obtain rfl := hb (by simp)
            intro Q hQ
            have k' := kq.chg (chg_undrew hE) (by omega)
            have z0 : w'.cell? ⟨qz, 0, none⟩ = some (.int .i64 y.before) := k'.cell 0
            have z1 : w'.cell? ⟨qz, 1, none⟩ = some (.int .i64 y.height) := k'.cell 1
            have z2 : w'.cell? ⟨qz, 2, none⟩ = some (.int .i64 y.view) := k'.cell 2
            have z3 : w'.cell? ⟨qz, 3, none⟩ = some (.slice L9 y.list.length e9) := k'.cell 3
            have z4 : w'.cell? ⟨qz, 4, none⟩ = some (.int .i64 y.root) := k'.cell 4
            have z5 : w'.cell? ⟨qz, 5, none⟩ = some (.int .i64 y.eff) := k'.cell 5
            go_wp2
            exact hQ _ _ _ rfl rfl (Chg.refl _ _) hR
          case s1 =>
            intro w' b hE hbx hR
            clear hbx
            intro Q hQ
            have k' := kav.chg (chg_undrew hE) (by omega)
            have z0 : w'.cell? ⟨qa, 0, none⟩ = some (.int .i64 x.key) := k'.cell 0
            have z1 : w'.cell? ⟨qa, 1, none⟩ = some (.int .i64 x.value) := k'.cell 1
            have z2 : w'.cell? ⟨qa, 2, none⟩ = some (.slice P5 ps.length c6) := k'.cell 2
            go_wp2
            exact hQ _ _ _ rfl rfl (Chg.refl _ _) hR
          case s2 =>
            intro w' b hE hb hR
            obtain rfl := hb (by simp)
            rintro _ rfl Q hQ
            refine wpList_store_row rfl 41 (.tmp 2) (.tmp 60) rfl w.heap.size #[.int .i64 y.before, .int .i64 y.height, .int .i64 y.view, .slice L9 y.list.length e9, .int .i64 y.root, .int .i64 y.eff] rfl rfl 41 #[.int .i64 0, .int .i64 0, .int .i64 0, .slice none 0 0, .int .i64 0, .int .i64 0] hR info_bk4 rfl (bk_one4 _ _ _ _ _ _ _ _) ?_
            go_wp2
            exact hQ undef _ _ rfl trivial (chg_setRow (S := fun k => k = w.heap.size) rfl _) (blk_setRow hR)
        intro w9 hE hR
        have hR : Blk w9 w.heap.size 41 #[.int .i64 y.before, .int .i64 y.height, .int .i64 y.view, .slice L9 y.list.length e9, .int .i64 y.root, .int .i64 y.eff] := hR
        have hc9 := chg_undrew hE
        rintro v0 - v1 hv1 v2 -
        obtain rfl : v1 = _ := hv1
        have kr9 := krv.chg hc9 (by omega)
        clear hE hF
        change wpList _ _ _ [_] _ _
        simp only [Act.put, List.setIfInBounds_toArray, List.set_cons_succ, List.set_cons_zero]
        go_wp2_with (refine wpList_store_row rfl 43 (.tmp 3) (.tmp 61) rfl (w.heap.size + 1) #[.int .i64 x.key, .int .i64 x.value, .slice P5 ps.length c6] rfl rfl 43 #[.int .i64 0, .int .i64 0, .slice none 0 0] kr9 info_ans4 rfl (ans_one4 _ _ _ _ _) ?_)
        have hc10 : Chg (fun k => k = w.heap.size + 1) w9 (w9.setRow (w.heap.size + 1) #[.int .i64 x.key, .int .i64 x.value, .slice P5 ps.length c6]) := chg_setRow (S := fun k => k = w.heap.size + 1) rfl _
        refine bodyPost_ret (v := .tuple #[.agg #[.int .i64 y.before, .int .i64 y.height, .int .i64 y.view, .slice L9 y.list.length e9, .int .i64 y.root, .int .i64 y.eff], .agg #[.int .i64 x.key, .int .i64 x.value, .slice P5 ps.length c6]]) (results_cells2 (p := 2) (q := 3) (ty := 41) (ty2 := 43) rfl _ _ w.heap.size 41 #[.int .i64 y.before, .int .i64 y.height, .int .i64 y.view, .slice L9 y.list.length e9, .int .i64 y.root, .int .i64 y.eff] (0, 0) _ (w.heap.size + 1) 43 #[.int .i64 x.key, .int .i64 x.value, .slice P5 ps.length c6] (0, 0) _ rfl (hR.chg hc10 (by omega)) Try.underlying41 rfl info_bk4 rfl (blk_setRow kr9) Try.underlying43 rfl info_ans4) rfl ?_
        first | exact ⟨y, L9, e9, ⟨x.key, x.value, ps⟩, P5, c6, rfl, hyl, hpl, ((rv.keep (Kp.chg hc9 fun k hk e => by omega)).keep (Kp.chg hc10 fun k hk e => by omega)).rd, ((prv.keep (Kp.chg hc9 fun k hk e => by omega)).keep (Kp.chg hc10 fun k hk e => by omega)).rd, (blv.trans (hc9.below (fun k hk e => by omega) blv.size)).trans (hc10.below (fun k hk e => by omega) (Nat.le_trans blv.size hc9.size))⟩ | exact ⟨y, L9, e9, ⟨x.key, x.value, ps⟩, P5, ⟨c6, rfl⟩, hyl, hpl, ((rv.keep (Kp.chg hc9 fun k hk e => by omega)).keep (Kp.chg hc10 fun k hk e => by omega)).rd, ((prv.keep (Kp.chg hc9 fun k hk e => by omega)).keep (Kp.chg hc10 fun k hk e => by omega)).rd, (blv.trans (hc9.below (fun k hk e => by omega) blv.size)).trans (hc10.below (fun k hk e => by omega) (Nat.le_trans blv.size hc9.size))⟩
      · have f4 : wy.frozen? ⟨qz, 4, none⟩ = false := ky.frozen 4
        have z4 : wy.cell? ⟨qz, 4, none⟩ = some (.int .i64 y.root) := ky.cell 4
        go_upto_region 17 with fail
        have kq : Blk (wy.setCell ⟨qz, 4, none⟩ (.int .i64 (-1))) qz 41 #[.int .i64 y.before, .int .i64 y.height, .int .i64 y.view, .slice L9 y.list.length e9, .int .i64 (-1), .int .i64 y.eff] := by have := ky.set_ 4 (Value.int .i64 (-1)); simpa using this
        have hWv := chg_more hWy ((Chg.refl (fun k => k = qz) wy).setCell (p := ⟨qz, 4, none⟩) (.inl rfl) (Value.int .i64 (-1))) (fun k hk e => by omega)
        clear ky hWy f4 z4
        generalize wy.setCell ⟨qz, 4, none⟩ (.int .i64 (-1)) = wv at *
        have kav : Blk wv qa 43 #[.int .i64 x.key, .int .i64 x.value, .slice P5 ps.length c6] := s9.ka.chg hWv (by omega)
        have kbv := s9.kb.chg hWv (by omega)
        have krv := s9.kr.chg hWv (by omega)
        have prv := s9.pr.keep (Kp.chg hWv fun k hk e => by omega)
        have rv := r9.keep (Kp.chg hWv fun k hk e => by omega)
        have blv := s9.bl.trans (hWv.below (fun k hk e => by omega) s9.bl.size)
        have hpl : (⟨x.key, x.value, ps⟩ : Ans).proof.length ≤ 5 := s9.pl
        clear s9 r9 hWv
        have hF : StVL [bV (.agg #[.int .i64 y.before, .int .i64 y.height, .int .i64 y.view, .slice L9 y.list.length e9, .int .i64 (-1), .int .i64 y.eff]), bV (.agg #[.int .i64 x.key, .int .i64 x.value, .slice P5 ps.length c6]), fun _ _ => True] := ⟨fun _ _ _ h => h, fun _ _ _ h => h, fun _ _ _ h => h, trivial⟩
        refine wp_region_one (by kernel_rfl) [(0, some 60), (1, some 61), (2, none)] [[], [], [(0, some 60)]] (by kernel_rfl) 2 [0] (by kernel_rfl)
          (locB [bV (.agg #[.int .i64 y.before, .int .i64 y.height, .int .i64 y.view, .slice L9 y.list.length e9, .int .i64 (-1), .int .i64 y.eff]), bV (.agg #[.int .i64 x.key, .int .i64 x.value, .slice P5 ps.length c6]), fun _ _ => True]) (fun a b => Chg (fun q => q = w.heap.size) a b) (fun b w' => Blk w' w.heap.size 41 (cond b #[.int .i64 y.before, .int .i64 y.height, .int .i64 y.view, .slice L9 y.list.length e9, .int .i64 (-1), .int .i64 y.eff] #[.int .i64 0, .int .i64 0, .int .i64 0, .slice none 0 0, .int .i64 0, .int .i64 0])) (fun _ => Chg.refl _ _) (fun _ _ _ h1 h2 => h1.trans h2) (locV_st hF _) kbv ?_ ?_
        · refine steps_cons ?s0 ( steps_cons ?s1 ( steps_cons ?s2 steps_nil))
          case s0 =>
            intro w' b hE hb hR
            obtain rfl := hb (by simp)
            intro Q hQ
            have k' := kq.chg (chg_undrew hE) (by omega)
            have z0 : w'.cell? ⟨qz, 0, none⟩ = some (.int .i64 y.before) := k'.cell 0
            have z1 : w'.cell? ⟨qz, 1, none⟩ = some (.int .i64 y.height) := k'.cell 1
            have z2 : w'.cell? ⟨qz, 2, none⟩ = some (.int .i64 y.view) := k'.cell 2
            have z3 : w'.cell? ⟨qz, 3, none⟩ = some (.slice L9 y.list.length e9) := k'.cell 3
            have z4 : w'.cell? ⟨qz, 4, none⟩ = some (.int .i64 (-1)) := k'.cell 4
            have z5 : w'.cell? ⟨qz, 5, none⟩ = some (.int .i64 y.eff) := k'.cell 5
            go_wp2
            exact hQ _ _ _ rfl rfl (Chg.refl _ _) hR
          case s1 =>
            intro w' b hE hbx hR
            clear hbx
            intro Q hQ
            have k' := kav.chg (chg_undrew hE) (by omega)
            have z0 : w'.cell? ⟨qa, 0, none⟩ = some (.int .i64 x.key) := k'.cell 0
            have z1 : w'.cell? ⟨qa, 1, none⟩ = some (.int .i64 x.value) := k'.cell 1
            have z2 : w'.cell? ⟨qa, 2, none⟩ = some (.slice P5 ps.length c6) := k'.cell 2
            go_wp2
            exact hQ _ _ _ rfl rfl (Chg.refl _ _) hR
          case s2 =>
            intro w' b hE hb hR
            obtain rfl := hb (by simp)
            rintro _ rfl Q hQ
            refine wpList_store_row rfl 41 (.tmp 2) (.tmp 60) rfl w.heap.size #[.int .i64 y.before, .int .i64 y.height, .int .i64 y.view, .slice L9 y.list.length e9, .int .i64 (-1), .int .i64 y.eff] rfl rfl 41 #[.int .i64 0, .int .i64 0, .int .i64 0, .slice none 0 0, .int .i64 0, .int .i64 0] hR info_bk4 rfl (bk_one4 _ _ _ _ _ _ _ _) ?_
            go_wp2
            exact hQ undef _ _ rfl trivial (chg_setRow (S := fun k => k = w.heap.size) rfl _) (blk_setRow hR)
        intro w9 hE hR
        have hR : Blk w9 w.heap.size 41 #[.int .i64 y.before, .int .i64 y.height, .int .i64 y.view, .slice L9 y.list.length e9, .int .i64 (-1), .int .i64 y.eff] := hR
        have hc9 := chg_undrew hE
        rintro v0 - v1 hv1 v2 -
        obtain rfl : v1 = _ := hv1
        have kr9 := krv.chg hc9 (by omega)
        clear hE hF
        change wpList _ _ _ [_] _ _
        simp only [Act.put, List.setIfInBounds_toArray, List.set_cons_succ, List.set_cons_zero]
        go_wp2_with (refine wpList_store_row rfl 43 (.tmp 3) (.tmp 61) rfl (w.heap.size + 1) #[.int .i64 x.key, .int .i64 x.value, .slice P5 ps.length c6] rfl rfl 43 #[.int .i64 0, .int .i64 0, .slice none 0 0] kr9 info_ans4 rfl (ans_one4 _ _ _ _ _) ?_)
        have hc10 : Chg (fun k => k = w.heap.size + 1) w9 (w9.setRow (w.heap.size + 1) #[.int .i64 x.key, .int .i64 x.value, .slice P5 ps.length c6]) := chg_setRow (S := fun k => k = w.heap.size + 1) rfl _
        refine bodyPost_ret (v := .tuple #[.agg #[.int .i64 y.before, .int .i64 y.height, .int .i64 y.view, .slice L9 y.list.length e9, .int .i64 (-1), .int .i64 y.eff], .agg #[.int .i64 x.key, .int .i64 x.value, .slice P5 ps.length c6]]) (results_cells2 (p := 2) (q := 3) (ty := 41) (ty2 := 43) rfl _ _ w.heap.size 41 #[.int .i64 y.before, .int .i64 y.height, .int .i64 y.view, .slice L9 y.list.length e9, .int .i64 (-1), .int .i64 y.eff] (0, 0) _ (w.heap.size + 1) 43 #[.int .i64 x.key, .int .i64 x.value, .slice P5 ps.length c6] (0, 0) _ rfl (hR.chg hc10 (by omega)) Try.underlying41 rfl info_bk4 rfl (blk_setRow kr9) Try.underlying43 rfl info_ans4) rfl ?_
        first | exact ⟨⟨y.before, y.height, y.view, y.list, -1, y.eff⟩, L9, e9, ⟨x.key, x.value, ps⟩, P5, c6, rfl, hyl, hpl, ((rv.keep (Kp.chg hc9 fun k hk e => by omega)).keep (Kp.chg hc10 fun k hk e => by omega)).rd, ((prv.keep (Kp.chg hc9 fun k hk e => by omega)).keep (Kp.chg hc10 fun k hk e => by omega)).rd, (blv.trans (hc9.below (fun k hk e => by omega) blv.size)).trans (hc10.below (fun k hk e => by omega) (Nat.le_trans blv.size hc9.size))⟩ | exact ⟨⟨y.before, y.height, y.view, y.list, -1, y.eff⟩, L9, e9, ⟨x.key, x.value, ps⟩, P5, ⟨c6, rfl⟩, hyl, hpl, ((rv.keep (Kp.chg hc9 fun k hk e => by omega)).keep (Kp.chg hc10 fun k hk e => by omega)).rd, ((prv.keep (Kp.chg hc9 fun k hk e => by omega)).keep (Kp.chg hc10 fun k hk e => by omega)).rd, (blv.trans (hc9.below (fun k hk e => by omega) blv.size)).trans (hc10.below (fun k hk e => by omega) (Nat.le_trans blv.size hc9.size))⟩
    · have x1 : w7.cell? ⟨bx, 1, none⟩ = some (.slice A2 t.blocks.length c2) := s7.kx.cell 1
      go_wp2_with fail
      refine (pick_any g _ (t.blocks.length : Int) w7 s7.h (by omega) (by omega) (by omega)).mono ?_
      rintro e w8 ⟨n2, hn2, rfl, h8, ch8⟩
      have s8 := s7.rdr h8 ch8
      have hn20 : n2 < t.blocks.length := by omega
      clear s7 h8 ch8 x1
      go_upto_region 14 with fail
      have hnl := hn20
      obtain ⟨bb, ob, L9, e9, hA2, hSb, hbb, q0, q1, q2, q3, q4, q5, r9⟩ := tr_far (S := w1.heap.size) (fun w'' hc => s8.tr w'' (s8.q.trans hc)) hnl
      have hyl := unhide HD4 _ (List.getElem_mem hnl)
      have x1 : w8.cell? ⟨bx, 1, none⟩ = some (.slice A2 t.blocks.length c2) := s8.kx.cell 1
      rw [hA2] at x1
      clear hA2
      have hnb : (n2 : Int) < (t.blocks.length : Int) := by omega
      generalize t.blocks[n2] = y at *
      have hll := s8.l1
      have hal := s8.ka.lt
      go_wp2_with (refine wpList_store_row rfl 41 (.tmp 9) (.tmp 56) rfl w8.heap.size #[.int .i64 y.before, .int .i64 y.height, .int .i64 y.view, .slice L9 y.list.length e9, .int .i64 y.root, .int .i64 y.eff] rfl rfl 41 #[.int .i64 0, .int .i64 0, .int .i64 0, .slice none 0 0, .int .i64 0, .int .i64 0] (box_new w8 41 #[.int .i64 0, .int .i64 0, .int .i64 0, .slice none 0 0, .int .i64 0, .int .i64 0] #[.int .i64 y.before, .int .i64 y.height, .int .i64 y.view, .slice L9 y.list.length e9, .int .i64 y.root, .int .i64 y.eff]).1 info_bk4 rfl (bk_one4 _ _ _ _ _ _ _ _) ?_; refine at_world (C := fun W => wpList _ _ _ _ _ W) (F := fun W => Blk W w8.heap.size 41 #[.int .i64 y.before, .int .i64 y.height, .int .i64 y.view, .slice L9 y.list.length e9, .int .i64 y.root, .int .i64 y.eff] ∧ Below w8.heap.size w8 W) ⟨(box_new w8 41 #[.int .i64 0, .int .i64 0, .int .i64 0, .slice none 0 0, .int .i64 0, .int .i64 0] #[.int .i64 y.before, .int .i64 y.height, .int .i64 y.view, .slice L9 y.list.length e9, .int .i64 y.root, .int .i64 y.eff]).2.1, (box_new w8 41 #[.int .i64 0, .int .i64 0, .int .i64 0, .slice none 0 0, .int .i64 0, .int .i64 0] #[.int .i64 y.before, .int .i64 y.height, .int .i64 y.view, .slice L9 y.list.length e9, .int .i64 y.root, .int .i64 y.eff]).2.2⟩ ?_; rintro wz ⟨kz, bz⟩; obtain ⟨qz, hqz⟩ : ∃ q, q = w8.heap.size := ⟨_, rfl⟩; rw [← hqz] at kz ⊢; have HQZ := hide hqz; clear hqz)
      have hqz : w8.heap.size ≤ qz := by have := unhide HQZ; omega
      have hz := s8.h.new bz
      clear x1 q0 q1 q2 q3 q4 q5
      refine (odd_any g _ 12 wz hz (by omega) (by omega) (by omega)).mono ?_
      rintro e wy ⟨b2, rfl, -, hy, chy⟩
      have ky := kz.chg chy (by omega)
      have hWy := (Chg.of_new (S := fun k => k = g) bz).trans chy
      clear kz bz hz hy chy
      cases b2
      · go_upto_region 17 with fail
        have kq := ky
        have hWv := hWy
        clear ky hWy
        have kav : Blk wy qa 43 #[.int .i64 x.key, .int .i64 x.value, .slice A5 x.proof.length c5] := s8.ka.chg hWv (by omega)
        have kbv := s8.kb.chg hWv (by omega)
        have krv := s8.kr.chg hWv (by omega)
        have prv := s8.pr.keep (Kp.chg hWv fun k hk e => by omega)
        have rv := r9.keep (Kp.chg hWv fun k hk e => by omega)
        have blv := s8.bl.trans (hWv.below (fun k hk e => by omega) s8.bl.size)
        have hpl : (x : Ans).proof.length ≤ 5 := s8.pl
        clear s8 r9 hWv
        have hF : StVL [bV (.agg #[.int .i64 y.before, .int .i64 y.height, .int .i64 y.view, .slice L9 y.list.length e9, .int .i64 y.root, .int .i64 y.eff]), bV (.agg #[.int .i64 x.key, .int .i64 x.value, .slice A5 x.proof.length c5]), fun _ _ => True] := ⟨fun _ _ _ h => h, fun _ _ _ h => h, fun _ _ _ h => h, trivial⟩
        refine wp_region_one (by kernel_rfl) [(0, some 60), (1, some 61), (2, none)] [[], [], [(0, some 60)]] (by kernel_rfl) 2 [0] (by kernel_rfl)
          (locB [bV (.agg #[.int .i64 y.before, .int .i64 y.height, .int .i64 y.view, .slice L9 y.list.length e9, .int .i64 y.root, .int .i64 y.eff]), bV (.agg #[.int .i64 x.key, .int .i64 x.value, .slice A5 x.proof.length c5]), fun _ _ => True]) (fun a b => Chg (fun q => q = w.heap.size) a b) (fun b w' => Blk w' w.heap.size 41 (cond b #[.int .i64 y.before, .int .i64 y.height, .int .i64 y.view, .slice L9 y.list.length e9, .int .i64 y.root, .int .i64 y.eff] #[.int .i64 0, .int .i64 0, .int .i64 0, .slice none 0 0, .int .i64 0, .int .i64 0])) (fun _ => Chg.refl _ _) (fun _ _ _ h1 h2 => h1.trans h2) (locV_st hF _) kbv ?_ ?_
        · refine steps_cons ?s0 ( steps_cons ?s1 ( steps_cons ?s2 steps_nil))
          case s0 =>
            intro w' b hE hb hR
            obtain rfl := hb (by simp)
            intro Q hQ
            have k' := kq.chg (chg_undrew hE) (by omega)
            have z0 : w'.cell? ⟨qz, 0, none⟩ = some (.int .i64 y.before) := k'.cell 0
            have z1 : w'.cell? ⟨qz, 1, none⟩ = some (.int .i64 y.height) := k'.cell 1
            have z2 : w'.cell? ⟨qz, 2, none⟩ = some (.int .i64 y.view) := k'.cell 2
            have z3 : w'.cell? ⟨qz, 3, none⟩ = some (.slice L9 y.list.length e9) := k'.cell 3
            have z4 : w'.cell? ⟨qz, 4, none⟩ = some (.int .i64 y.root) := k'.cell 4
            have z5 : w'.cell? ⟨qz, 5, none⟩ = some (.int .i64 y.eff) := k'.cell 5
            go_wp2
            exact hQ _ _ _ rfl rfl (Chg.refl _ _) hR
          case s1 =>
            intro w' b hE hbx hR
            clear hbx
            intro Q hQ
            have k' := kav.chg (chg_undrew hE) (by omega)
            have z0 : w'.cell? ⟨qa, 0, none⟩ = some (.int .i64 x.key) := k'.cell 0
            have z1 : w'.cell? ⟨qa, 1, none⟩ = some (.int .i64 x.value) := k'.cell 1
            have z2 : w'.cell? ⟨qa, 2, none⟩ = some (.slice A5 x.proof.length c5) := k'.cell 2
            go_wp2
            exact hQ _ _ _ rfl rfl (Chg.refl _ _) hR
          case s2 =>
            intro w' b hE hb hR
            obtain rfl := hb (by simp)
            rintro _ rfl Q hQ
            refine wpList_store_row rfl 41 (.tmp 2) (.tmp 60) rfl w.heap.size #[.int .i64 y.before, .int .i64 y.height, .int .i64 y.view, .slice L9 y.list.length e9, .int .i64 y.root, .int .i64 y.eff] rfl rfl 41 #[.int .i64 0, .int .i64 0, .int .i64 0, .slice none 0 0, .int .i64 0, .int .i64 0] hR info_bk4 rfl (bk_one4 _ _ _ _ _ _ _ _) ?_
            go_wp2
            exact hQ undef _ _ rfl trivial (chg_setRow (S := fun k => k = w.heap.size) rfl _) (blk_setRow hR)
        intro w9 hE hR
        have hR : Blk w9 w.heap.size 41 #[.int .i64 y.before, .int .i64 y.height, .int .i64 y.view, .slice L9 y.list.length e9, .int .i64 y.root, .int .i64 y.eff] := hR
        have hc9 := chg_undrew hE
        rintro v0 - v1 hv1 v2 -
        obtain rfl : v1 = _ := hv1
        have kr9 := krv.chg hc9 (by omega)
        clear hE hF
        change wpList _ _ _ [_] _ _
        simp only [Act.put, List.setIfInBounds_toArray, List.set_cons_succ, List.set_cons_zero]
        go_wp2_with (refine wpList_store_row rfl 43 (.tmp 3) (.tmp 61) rfl (w.heap.size + 1) #[.int .i64 x.key, .int .i64 x.value, .slice A5 x.proof.length c5] rfl rfl 43 #[.int .i64 0, .int .i64 0, .slice none 0 0] kr9 info_ans4 rfl (ans_one4 _ _ _ _ _) ?_)
        have hc10 : Chg (fun k => k = w.heap.size + 1) w9 (w9.setRow (w.heap.size + 1) #[.int .i64 x.key, .int .i64 x.value, .slice A5 x.proof.length c5]) := chg_setRow (S := fun k => k = w.heap.size + 1) rfl _
        refine bodyPost_ret (v := .tuple #[.agg #[.int .i64 y.before, .int .i64 y.height, .int .i64 y.view, .slice L9 y.list.length e9, .int .i64 y.root, .int .i64 y.eff], .agg #[.int .i64 x.key, .int .i64 x.value, .slice A5 x.proof.length c5]]) (results_cells2 (p := 2) (q := 3) (ty := 41) (ty2 := 43) rfl _ _ w.heap.size 41 #[.int .i64 y.before, .int .i64 y.height, .int .i64 y.view, .slice L9 y.list.length e9, .int .i64 y.root, .int .i64 y.eff] (0, 0) _ (w.heap.size + 1) 43 #[.int .i64 x.key, .int .i64 x.value, .slice A5 x.proof.length c5] (0, 0) _ rfl (hR.chg hc10 (by omega)) Try.underlying41 rfl info_bk4 rfl (blk_setRow kr9) Try.underlying43 rfl info_ans4) rfl ?_
        first | exact ⟨y, L9, e9, x, A5, c5, rfl, hyl, hpl, ((rv.keep (Kp.chg hc9 fun k hk e => by omega)).keep (Kp.chg hc10 fun k hk e => by omega)).rd, ((prv.keep (Kp.chg hc9 fun k hk e => by omega)).keep (Kp.chg hc10 fun k hk e => by omega)).rd, (blv.trans (hc9.below (fun k hk e => by omega) blv.size)).trans (hc10.below (fun k hk e => by omega) (Nat.le_trans blv.size hc9.size))⟩ | exact ⟨y, L9, e9, x, A5, ⟨c5, rfl⟩, hyl, hpl, ((rv.keep (Kp.chg hc9 fun k hk e => by omega)).keep (Kp.chg hc10 fun k hk e => by omega)).rd, ((prv.keep (Kp.chg hc9 fun k hk e => by omega)).keep (Kp.chg hc10 fun k hk e => by omega)).rd, (blv.trans (hc9.below (fun k hk e => by omega) blv.size)).trans (hc10.below (fun k hk e => by omega) (Nat.le_trans blv.size hc9.size))⟩
      · have f4 : wy.frozen? ⟨qz, 4, none⟩ = false := ky.frozen 4
        have z4 : wy.cell? ⟨qz, 4, none⟩ = some (.int .i64 y.root) := ky.cell 4
        go_upto_region 17 with fail
        have kq : Blk (wy.setCell ⟨qz, 4, none⟩ (.int .i64 (-1))) qz 41 #[.int .i64 y.before, .int .i64 y.height, .int .i64 y.view, .slice L9 y.list.length e9, .int .i64 (-1), .int .i64 y.eff] := by have := ky.set_ 4 (Value.int .i64 (-1)); simpa using this
        have hWv := chg_more hWy ((Chg.refl (fun k => k = qz) wy).setCell (p := ⟨qz, 4, none⟩) (.inl rfl) (Value.int .i64 (-1))) (fun k hk e => by omega)
        clear ky hWy f4 z4
        generalize wy.setCell ⟨qz, 4, none⟩ (.int .i64 (-1)) = wv at *
        have kav : Blk wv qa 43 #[.int .i64 x.key, .int .i64 x.value, .slice A5 x.proof.length c5] := s8.ka.chg hWv (by omega)
        have kbv := s8.kb.chg hWv (by omega)
        have krv := s8.kr.chg hWv (by omega)
        have prv := s8.pr.keep (Kp.chg hWv fun k hk e => by omega)
        have rv := r9.keep (Kp.chg hWv fun k hk e => by omega)
        have blv := s8.bl.trans (hWv.below (fun k hk e => by omega) s8.bl.size)
        have hpl : (x : Ans).proof.length ≤ 5 := s8.pl
        clear s8 r9 hWv
        have hF : StVL [bV (.agg #[.int .i64 y.before, .int .i64 y.height, .int .i64 y.view, .slice L9 y.list.length e9, .int .i64 (-1), .int .i64 y.eff]), bV (.agg #[.int .i64 x.key, .int .i64 x.value, .slice A5 x.proof.length c5]), fun _ _ => True] := ⟨fun _ _ _ h => h, fun _ _ _ h => h, fun _ _ _ h => h, trivial⟩
        refine wp_region_one (by kernel_rfl) [(0, some 60), (1, some 61), (2, none)] [[], [], [(0, some 60)]] (by kernel_rfl) 2 [0] (by kernel_rfl)
          (locB [bV (.agg #[.int .i64 y.before, .int .i64 y.height, .int .i64 y.view, .slice L9 y.list.length e9, .int .i64 (-1), .int .i64 y.eff]), bV (.agg #[.int .i64 x.key, .int .i64 x.value, .slice A5 x.proof.length c5]), fun _ _ => True]) (fun a b => Chg (fun q => q = w.heap.size) a b) (fun b w' => Blk w' w.heap.size 41 (cond b #[.int .i64 y.before, .int .i64 y.height, .int .i64 y.view, .slice L9 y.list.length e9, .int .i64 (-1), .int .i64 y.eff] #[.int .i64 0, .int .i64 0, .int .i64 0, .slice none 0 0, .int .i64 0, .int .i64 0])) (fun _ => Chg.refl _ _) (fun _ _ _ h1 h2 => h1.trans h2) (locV_st hF _) kbv ?_ ?_
        · refine steps_cons ?s0 ( steps_cons ?s1 ( steps_cons ?s2 steps_nil))
          case s0 =>
            intro w' b hE hb hR
            obtain rfl := hb (by simp)
            intro Q hQ
            have k' := kq.chg (chg_undrew hE) (by omega)
            have z0 : w'.cell? ⟨qz, 0, none⟩ = some (.int .i64 y.before) := k'.cell 0
            have z1 : w'.cell? ⟨qz, 1, none⟩ = some (.int .i64 y.height) := k'.cell 1
            have z2 : w'.cell? ⟨qz, 2, none⟩ = some (.int .i64 y.view) := k'.cell 2
            have z3 : w'.cell? ⟨qz, 3, none⟩ = some (.slice L9 y.list.length e9) := k'.cell 3
            have z4 : w'.cell? ⟨qz, 4, none⟩ = some (.int .i64 (-1)) := k'.cell 4
            have z5 : w'.cell? ⟨qz, 5, none⟩ = some (.int .i64 y.eff) := k'.cell 5
            go_wp2
            exact hQ _ _ _ rfl rfl (Chg.refl _ _) hR
          case s1 =>
            intro w' b hE hbx hR
            clear hbx
            intro Q hQ
            have k' := kav.chg (chg_undrew hE) (by omega)
            have z0 : w'.cell? ⟨qa, 0, none⟩ = some (.int .i64 x.key) := k'.cell 0
            have z1 : w'.cell? ⟨qa, 1, none⟩ = some (.int .i64 x.value) := k'.cell 1
            have z2 : w'.cell? ⟨qa, 2, none⟩ = some (.slice A5 x.proof.length c5) := k'.cell 2
            go_wp2
            exact hQ _ _ _ rfl rfl (Chg.refl _ _) hR
          case s2 =>
            intro w' b hE hb hR
            obtain rfl := hb (by simp)
            rintro _ rfl Q hQ
            refine wpList_store_row rfl 41 (.tmp 2) (.tmp 60) rfl w.heap.size #[.int .i64 y.before, .int .i64 y.height, .int .i64 y.view, .slice L9 y.list.length e9, .int .i64 (-1), .int .i64 y.eff] rfl rfl 41 #[.int .i64 0, .int .i64 0, .int .i64 0, .slice none 0 0, .int .i64 0, .int .i64 0] hR info_bk4 rfl (bk_one4 _ _ _ _ _ _ _ _) ?_
            go_wp2
            exact hQ undef _ _ rfl trivial (chg_setRow (S := fun k => k = w.heap.size) rfl _) (blk_setRow hR)
        intro w9 hE hR
        have hR : Blk w9 w.heap.size 41 #[.int .i64 y.before, .int .i64 y.height, .int .i64 y.view, .slice L9 y.list.length e9, .int .i64 (-1), .int .i64 y.eff] := hR
        have hc9 := chg_undrew hE
        rintro v0 - v1 hv1 v2 -
        obtain rfl : v1 = _ := hv1
        have kr9 := krv.chg hc9 (by omega)
        clear hE hF
        change wpList _ _ _ [_] _ _
        simp only [Act.put, List.setIfInBounds_toArray, List.set_cons_succ, List.set_cons_zero]
        go_wp2_with (refine wpList_store_row rfl 43 (.tmp 3) (.tmp 61) rfl (w.heap.size + 1) #[.int .i64 x.key, .int .i64 x.value, .slice A5 x.proof.length c5] rfl rfl 43 #[.int .i64 0, .int .i64 0, .slice none 0 0] kr9 info_ans4 rfl (ans_one4 _ _ _ _ _) ?_)
        have hc10 : Chg (fun k => k = w.heap.size + 1) w9 (w9.setRow (w.heap.size + 1) #[.int .i64 x.key, .int .i64 x.value, .slice A5 x.proof.length c5]) := chg_setRow (S := fun k => k = w.heap.size + 1) rfl _
        refine bodyPost_ret (v := .tuple #[.agg #[.int .i64 y.before, .int .i64 y.height, .int .i64 y.view, .slice L9 y.list.length e9, .int .i64 (-1), .int .i64 y.eff], .agg #[.int .i64 x.key, .int .i64 x.value, .slice A5 x.proof.length c5]]) (results_cells2 (p := 2) (q := 3) (ty := 41) (ty2 := 43) rfl _ _ w.heap.size 41 #[.int .i64 y.before, .int .i64 y.height, .int .i64 y.view, .slice L9 y.list.length e9, .int .i64 (-1), .int .i64 y.eff] (0, 0) _ (w.heap.size + 1) 43 #[.int .i64 x.key, .int .i64 x.value, .slice A5 x.proof.length c5] (0, 0) _ rfl (hR.chg hc10 (by omega)) Try.underlying41 rfl info_bk4 rfl (blk_setRow kr9) Try.underlying43 rfl info_ans4) rfl ?_
        first | exact ⟨⟨y.before, y.height, y.view, y.list, -1, y.eff⟩, L9, e9, x, A5, c5, rfl, hyl, hpl, ((rv.keep (Kp.chg hc9 fun k hk e => by omega)).keep (Kp.chg hc10 fun k hk e => by omega)).rd, ((prv.keep (Kp.chg hc9 fun k hk e => by omega)).keep (Kp.chg hc10 fun k hk e => by omega)).rd, (blv.trans (hc9.below (fun k hk e => by omega) blv.size)).trans (hc10.below (fun k hk e => by omega) (Nat.le_trans blv.size hc9.size))⟩ | exact ⟨⟨y.before, y.height, y.view, y.list, -1, y.eff⟩, L9, e9, x, A5, ⟨c5, rfl⟩, hyl, hpl, ((rv.keep (Kp.chg hc9 fun k hk e => by omega)).keep (Kp.chg hc10 fun k hk e => by omega)).rd, ((prv.keep (Kp.chg hc9 fun k hk e => by omega)).keep (Kp.chg hc10 fun k hk e => by omega)).rd, (blv.trans (hc9.below (fun k hk e => by omega) blv.size)).trans (hc10.below (fun k hk e => by omega) (Nat.le_trans blv.size hc9.size))⟩
end Go.Proofs.Ytefdhlfljpppfaa
