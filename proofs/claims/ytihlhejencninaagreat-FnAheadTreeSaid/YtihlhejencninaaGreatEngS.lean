/- The state of an engine that is changed in its place: a variable, and a row of slots of the call's own. No program is in sight here. -/
import Derived.Test.YtihlhejencninaaGreatSlotI
import Derived.Test.YtihlhejencninaaGreatGeff
import Derived.Test.YtihlhejencninaaGreatDeepSet
namespace Go.Proofs.YtihlhejencninaaGreat
open Go.RowKit
set_option linter.unusedVariables false
set_option linter.unusedSimpArgs false

/-- the blocks at or above B that neither the variable nor the row of slots uses -/
def Out (B g : Nat) (A : Option Addr) (k : Nat) : Prop := B ≤ k ∧ k ≠ g ∧ A ≠ some ⟨k, 0, none⟩
/-- an engine by value: its row of slots is the call's own, all else lies in blocks of P -/
structure EngOwn (P : Nat → Prop) (B : Nat) (w : World) (e : Eng) (A1 A2 A3 A4 : Option Addr) (c4 : Nat) : Prop where
 base : RdP P w A1 (e.base.flatMap encE)
 list : RdP P w A2 (e.list.flatMap encA)
 vers : RdP P w A3 (e.vers.flatMap encV)
 slots : ∃ vs, AllR sltR P w e.slots vs ∧ w.ownsRow B 141 6 (.slice A4 e.slots.length c4) e.slots.length vs.flatten
section
variable {P Q : Nat → Prop} {B : Nat} {w w' : World} {e : Eng} {A1 A2 A3 A4 : Option Addr} {c4 : Nat}
theorem EngOwn.rd (h : EngOwn P B w e A1 A2 A3 A4 c4) : EngRd w e A1 A2 A3 A4 := by
 obtain ⟨vs, h1, h2⟩ := h.slots
 exact ⟨h.base.rd, h.list.rd, h.vers.rd, vs, h1.mono slt_good fun _ _ _ => trivial, (own_rdP h2).mono fun _ _ _ => trivial⟩
theorem EngOwn.mono (h : EngOwn P B w e A1 A2 A3 A4 c4) (hPQ : ∀ k, P k → k < w.heap.size → Q k) : EngOwn Q B w e A1 A2 A3 A4 c4 := by
 obtain ⟨vs, h1, h2⟩ := h.slots
 exact ⟨h.base.mono hPQ, h.list.mono hPQ, h.vers.mono hPQ, vs, h1.mono slt_good hPQ, h2⟩
theorem EngOwn.lower {B' : Nat} (h : EngOwn P B w e A1 A2 A3 A4 c4) (hB : B' ≤ B) : EngOwn P B' w e A1 A2 A3 A4 c4 := by
 obtain ⟨vs, h1, h2⟩ := h.slots
 exact ⟨h.base, h.list, h.vers, vs, h1, own_base h2 hB⟩
theorem EngOwn.keep (h : EngOwn P B w e A1 A2 A3 A4 c4) (hk : Kp P w w') (hg : ∀ g, A4 = some ⟨g, 0, none⟩ → g < w.heap.size → w'.heap[g]? = w.heap[g]?) : EngOwn P B w' e A1 A2 A3 A4 c4 := by
 obtain ⟨vs, h1, h2⟩ := h.slots
 exact ⟨h.base.keep hk, h.list.keep hk, h.vers.keep hk, vs, h1.keep slt_good hk, own_keep h2 hg⟩
theorem EngOwn.new (h : EngOwn P B w e A1 A2 A3 A4 c4) (hb : Below w.heap.size w w') : EngOwn P B w' e A1 A2 A3 A4 c4 := h.keep (Kp.below hb) fun g _ hg => hb.block g hg
theorem EngOwn.rng (h : EngOwn P B w e A1 A2 A3 A4 c4) : ∀ g, A4 = some ⟨g, 0, none⟩ → B ≤ g ∧ g < w.heap.size := by
 obtain ⟨vs, h1, h2⟩ := h.slots
 exact own_rng h2
/-- one slot of six cells, set -/
def set6 (w : World) (g p : Nat) (s : Slt) (P0 : Option Addr) (d0 : Nat) (P1 : Option Addr) (d1 : Nat) (P2 : Option Addr) (d2 : Nat) : World :=
 (((((w.setCell ⟨g, p, none⟩ (.int .i64 s.stage)).setCell ⟨g, p + 1, none⟩ (.int .i64 s.tries)).setCell ⟨g, p + 2, none⟩ (.slice P0 s.frm.length d0)).setCell ⟨g, p + 3, none⟩ (.bool s.res.done)).setCell ⟨g, p + 4, none⟩ (.slice P1 s.res.reads.length d1)).setCell ⟨g, p + 5, none⟩ (.slice P2 s.res.writes.length d2)
theorem set6_chg (w : World) (g p : Nat) (s : Slt) (P0 : Option Addr) (d0 : Nat) (P1 : Option Addr) (d1 : Nat) (P2 : Option Addr) (d2 : Nat) : Chg (fun q => q = g) w (set6 w g p s P0 d0 P1 d1 P2 d2) :=
 ((((((Chg.refl (fun q => q = g) w).setCell (.inl rfl) _).setCell (.inl rfl) _).setCell (.inl rfl) _).setCell (.inl rfl) _).setCell (.inl rfl) _).setCell (.inl rfl) _
theorem own_set6s {w : World} {B : Nat} {e : TypeId} {g n c : Nat} {vs : List (List Value)} (h : w.ownsRow B e 6 (.slice (some ⟨g, 0, none⟩) n c) n vs.flatten) (hv : ∀ v ∈ vs, v.length = 6) {k : Nat} (hk : k < vs.length) (s : Slt) (P0 : Option Addr) (d0 : Nat) (P1 : Option Addr) (d1 : Nat) (P2 : Option Addr) (d2 : Nat) :
   (set6 w g (k * 6) s P0 d0 P1 d1 P2 d2).ownsRow B e 6 (.slice (some ⟨g, 0, none⟩) n c) n (vs.set k (sltV s P0 d0 P1 d1 P2 d2)).flatten := by
 have h3 := own_set (own_set (own_set (own_set (own_set (own_set h (k * 6) (.int .i64 s.stage)) (k * 6 + 1) (.int .i64 s.tries)) (k * 6 + 2) (.slice P0 s.frm.length d0)) (k * 6 + 3) (.bool s.res.done)) (k * 6 + 4) (.slice P1 s.res.reads.length d1)) (k * 6 + 5) (.slice P2 s.res.writes.length d2)
 rw [← setAt_flatten 6 vs hv k hk (sltV s P0 d0 P1 d1 P2 d2) rfl]
 exact h3
theorem AllR.each {α : Type} {R : Rel α} {P : Nat → Prop} {w : World} {s : Nat} (G : Good R s) : ∀ {xs : List α} {vs : List (List Value)}, AllR R P w xs vs → ∀ v ∈ vs, v.length = s
 | [], [], _ => fun v hv => by cases hv
 | [], _ :: _, h => h.elim
 | _ :: _, [], h => h.elim
 | x :: xs, v :: vs, h => fun u hu => by
   rcases List.mem_cons.1 hu with rfl | hu
   · exact G.len h.1
   · exact AllR.each G h.2 u hu
theorem EngOwn.set {g gs : Nat} (h : EngOwn (Out B g (some ⟨gs, 0, none⟩)) B w e A1 A2 A3 (some ⟨gs, 0, none⟩) c4) {n : Nat} (hn : n < e.slots.length) (s : Slt) (P0 : Option Addr) (d0 : Nat) (P1 : Option Addr) (d1 : Nat) (P2 : Option Addr) (d2 : Nat)
   (h0 : RdP (Out B g (some ⟨gs, 0, none⟩)) w P0 (s.frm.map (.int .i64))) (h1 : RdP (Out B g (some ⟨gs, 0, none⟩)) w P1 (s.res.reads.flatMap encE)) (h2 : RdP (Out B g (some ⟨gs, 0, none⟩)) w P2 (s.res.writes.flatMap encE)) :
   EngOwn (Out B g (some ⟨gs, 0, none⟩)) B (set6 w gs (n * 6) s P0 d0 P1 d1 P2 d2) { e with slots := e.slots.set n s } A1 A2 A3 (some ⟨gs, 0, none⟩) c4 := by
 have hk : Kp (Out B g (some ⟨gs, 0, none⟩)) w (set6 w gs (n * 6) s P0 d0 P1 d1 P2 d2) := Kp.chg (set6_chg w gs (n * 6) s P0 d0 P1 d1 P2 d2) fun k hk he => hk.2.2 (by rw [he])
 obtain ⟨vs, k1, k2⟩ := h.slots
 refine ⟨h.base.keep hk, h.list.keep hk, h.vers.keep hk, _, (k1.keep slt_good hk).set (k := n) ⟨P0, d0, P1, d1, P2, d2, rfl, h0.keep hk, h1.keep hk, h2.keep hk⟩, ?_⟩
 simp only [List.length_set]
 exact own_set6s k2 (k1.each slt_good) (by rw [k1.length]; exact hn) s P0 d0 P1 d1 P2 d2
/-- the cells of a slot that may be changed -/
theorem EngOwn.at (h : EngOwn P B w e A1 A2 A3 A4 c4) {n : Nat} (hn : n < e.slots.length) :
   ∃ gs A0 c0 A1' c1' A2' c2', A4 = some ⟨gs, 0, none⟩ ∧ B ≤ gs ∧ gs < w.heap.size ∧ (w.cell? ⟨gs, n * 6, none⟩ = some (.int .i64 (slAt e n).stage) ∧ w.cell? ⟨gs, n * 6 + 1, none⟩ = some (.int .i64 (slAt e n).tries) ∧ w.cell? ⟨gs, n * 6 + 2, none⟩ = some (.slice A0 (slAt e n).frm.length c0) ∧ w.cell? ⟨gs, n * 6 + 3, none⟩ = some (.bool (slAt e n).res.done) ∧ w.cell? ⟨gs, n * 6 + 4, none⟩ = some (.slice A1' (slAt e n).res.reads.length c1') ∧ w.cell? ⟨gs, n * 6 + 5, none⟩ = some (.slice A2' (slAt e n).res.writes.length c2')) ∧
     RdP P w A0 ((slAt e n).frm.map (.int .i64)) ∧ RdP P w A1' ((slAt e n).res.reads.flatMap encE) ∧ RdP P w A2' ((slAt e n).res.writes.flatMap encE) ∧ ∀ j, w.frozen? ⟨gs, j, none⟩ = false := by
 obtain ⟨vs, k1, k2⟩ := h.slots
 obtain ⟨gs, rfl, hb, hl⟩ := own_addr k2 (by omega)
 obtain ⟨hv, A0, c0, A1', c1', A2', c2', hr, r0, r1, r2⟩ := k1.get hn
 have hfl := k1.flat_len slt_good
 have hc : ∀ j u, (sltV e.slots[n] A0 c0 A1' c1' A2' c2')[j]? = some u → w.cell? ⟨gs, n * 6 + j, none⟩ = some u := fun j u hu => by
   have hj : j < 6 := (List.getElem?_eq_some_iff.1 hu).1
   have h1 := k1.flat_get slt_good hv hj
   rw [hr, hu] at h1
   obtain ⟨h2, h3⟩ := List.getElem?_eq_some_iff.1 h1
   rw [own_cell k2 _ h2, h3]
 rw [slAt_get e hn]
 exact ⟨gs, A0, c0, A1', c1', A2', c2', rfl, hb, hl, ⟨hc 0 _ rfl, hc 1 _ rfl, hc 2 _ rfl, hc 3 _ rfl, hc 4 _ rfl, hc 5 _ rfl⟩, r0, r1, r2, own_frozen k2⟩
end
/-- an engine in a variable -/
structure EngSt (B g : Nat) (w : World) (e : Eng) (A1 : Option Addr) (c1 : Nat) (A2 : Option Addr) (c2 : Nat) (A3 : Option Addr) (c3 : Nat) (A4 : Option Addr) (c4 : Nat) : Prop where
 le : B ≤ g
 box : Blk w g 96 (engA e A1 c1 A2 c2 A3 c3 A4 c4)
 own : EngOwn (Out B g A4) B w e A1 A2 A3 A4 c4
 ne : A4 ≠ some ⟨g, 0, none⟩
section
variable {B g : Nat} {w w' : World} {e : Eng} {A1 A2 A3 A4 : Option Addr} {c1 c2 c3 c4 : Nat}
theorem EngSt.new (h : EngSt B g w e A1 c1 A2 c2 A3 c3 A4 c4) (hb : Below w.heap.size w w') : EngSt B g w' e A1 c1 A2 c2 A3 c3 A4 c4 := ⟨h.le, h.box.new_ hb, h.own.new hb, h.ne⟩
theorem EngSt.cells (h : EngSt B g w e A1 c1 A2 c2 A3 c3 A4 c4) : w.cell? ⟨g, 0, none⟩ = some (.slice A1 e.base.length c1) ∧ w.cell? ⟨g, 1, none⟩ = some (.slice A2 e.list.length c2) ∧ w.cell? ⟨g, 2, none⟩ = some (.slice A3 e.vers.length c3) ∧ w.cell? ⟨g, 3, none⟩ = some (.slice A4 e.slots.length c4) ∧ ∀ j, w.frozen? ⟨g, j, none⟩ = false := ⟨h.box.cell 0, h.box.cell 1, h.box.cell 2, h.box.cell 3, h.box.frozen⟩
/-- new versions -/
theorem EngSt.vers (h : EngSt B g w e A1 c1 A2 c2 A3 c3 A4 c4) (us : List Ver) (A : Option Addr) (c : Nat) (hr : RdP (Out B g A4) w A (us.flatMap encV)) : EngSt B g (w.setCell ⟨g, 2, none⟩ (.slice A us.length c)) { e with vers := us } A1 c1 A2 c2 A c A4 c4 := by
 have hc : Chg (fun q => q = g) w (w.setCell ⟨g, 2, none⟩ (.slice A us.length c)) := (Chg.refl (fun q => q = g) w).setCell (.inl rfl) _
 have hk : Kp (Out B g A4) w (w.setCell ⟨g, 2, none⟩ (.slice A us.length c)) := Kp.chg hc fun k hk he => hk.2.1 he
 obtain ⟨vs, k1, k2⟩ := h.own.slots
 exact ⟨h.le, h.box.set_ 2 _, ⟨h.own.base.keep hk, h.own.list.keep hk, hr.keep hk, vs, k1.keep slt_good hk, own_keep k2 fun q hq hql => hc.block q hql fun e => h.ne (by rw [hq, e])⟩, h.ne⟩
/-- a slot is set -/
theorem EngSt.slot {gs : Nat} (h : EngSt B g w e A1 c1 A2 c2 A3 c3 (some ⟨gs, 0, none⟩) c4) {n : Nat} (hn : n < e.slots.length) (s : Slt) (P0 : Option Addr) (d0 : Nat) (P1 : Option Addr) (d1 : Nat) (P2 : Option Addr) (d2 : Nat)
   (h0 : RdP (Out B g (some ⟨gs, 0, none⟩)) w P0 (s.frm.map (.int .i64))) (h1 : RdP (Out B g (some ⟨gs, 0, none⟩)) w P1 (s.res.reads.flatMap encE)) (h2 : RdP (Out B g (some ⟨gs, 0, none⟩)) w P2 (s.res.writes.flatMap encE)) :
   EngSt B g (set6 w gs (n * 6) s P0 d0 P1 d1 P2 d2) { e with slots := e.slots.set n s } A1 c1 A2 c2 A3 c3 (some ⟨gs, 0, none⟩) c4 := by
 have hne : g ≠ gs := fun e => h.ne (by rw [e])
 refine ⟨h.le, ?_, h.own.set hn s P0 d0 P1 d1 P2 d2 h0 h1 h2, h.ne⟩
 have := h.box.chg (set6_chg w gs (n * 6) s P0 d0 P1 d1 P2 d2) hne
 simpa [engA] using this
/-- a slot's stage is set -/
theorem EngSt.stage {gs : Nat} (h : EngSt B g w e A1 c1 A2 c2 A3 c3 (some ⟨gs, 0, none⟩) c4) {n : Nat} (hn : n < e.slots.length) (st : Int) : EngSt B g (w.setCell ⟨gs, n * 6, none⟩ (.int .i64 st)) { e with slots := e.slots.set n { slAt e n with stage := st } } A1 c1 A2 c2 A3 c3 (some ⟨gs, 0, none⟩) c4 := by
 have hne : g ≠ gs := fun e => h.ne (by rw [e])
 have hc : Chg (fun q => q = gs) w (w.setCell ⟨gs, n * 6, none⟩ (.int .i64 st)) := (Chg.refl (fun q => q = gs) w).setCell (.inl rfl) _
 have hk : Kp (Out B g (some ⟨gs, 0, none⟩)) w (w.setCell ⟨gs, n * 6, none⟩ (.int .i64 st)) := Kp.chg hc fun k hk he => hk.2.2 (by rw [he])
 obtain ⟨vs, k1, k2⟩ := h.own.slots
 obtain ⟨hv, A0, c0, B1, d1, B2, d2, hr, r0, r1, r2⟩ := k1.get hn
 have hb := h.box.chg hc hne
 refine ⟨h.le, by simpa [engA] using hb, ⟨h.own.base.keep hk, h.own.list.keep hk, h.own.vers.keep hk, _, (k1.keep slt_good hk).set (k := n) ⟨A0, c0, B1, d1, B2, d2, rfl, ?_, ?_, ?_⟩, ?_⟩, h.ne⟩
 · rw [slAt_get e hn]; exact r0.keep hk
 · rw [slAt_get e hn]; exact r1.keep hk
 · rw [slAt_get e hn]; exact r2.keep hk
 · simp only [List.length_set]
   have h3 := own_set k2 (n * 6) (.int .i64 st)
   have hfl := set_flatD 6 vs (k1.each slt_good) n hv 0 (by omega) (.int .i64 st)
   rw [Nat.add_zero] at hfl
   rw [hfl, hr] at h3
   rw [slAt_get e hn]
   exact h3
theorem EngSt.lt (h : EngSt B g w e A1 c1 A2 c2 A3 c3 A4 c4) : g < w.heap.size := h.box.lt
/-- the cells of a slot, in a known block -/
theorem EngSt.at_ {gs : Nat} (h : EngSt B g w e A1 c1 A2 c2 A3 c3 (some ⟨gs, 0, none⟩) c4) {n : Nat} (hn : n < e.slots.length) :
   ∃ P0 d0 P1 d1 P2 d2, (w.cell? ⟨gs, n * 6, none⟩ = some (.int .i64 (slAt e n).stage) ∧ w.cell? ⟨gs, n * 6 + 1, none⟩ = some (.int .i64 (slAt e n).tries) ∧ w.cell? ⟨gs, n * 6 + 2, none⟩ = some (.slice P0 (slAt e n).frm.length d0) ∧ w.cell? ⟨gs, n * 6 + 3, none⟩ = some (.bool (slAt e n).res.done) ∧ w.cell? ⟨gs, n * 6 + 4, none⟩ = some (.slice P1 (slAt e n).res.reads.length d1) ∧ w.cell? ⟨gs, n * 6 + 5, none⟩ = some (.slice P2 (slAt e n).res.writes.length d2)) ∧
     (RdP (Out B g (some ⟨gs, 0, none⟩)) w P0 ((slAt e n).frm.map (.int .i64)) ∧ RdP (Out B g (some ⟨gs, 0, none⟩)) w P1 ((slAt e n).res.reads.flatMap encE) ∧ RdP (Out B g (some ⟨gs, 0, none⟩)) w P2 ((slAt e n).res.writes.flatMap encE)) ∧
     w.frozen? ⟨gs, n * 6, none⟩ = false ∧ w.frozen? ⟨gs, n * 6 + 1, none⟩ = false ∧ w.frozen? ⟨gs, n * 6 + 2, none⟩ = false ∧ w.frozen? ⟨gs, n * 6 + 3, none⟩ = false ∧ w.frozen? ⟨gs, n * 6 + 4, none⟩ = false ∧ w.frozen? ⟨gs, n * 6 + 5, none⟩ = false := by
 obtain ⟨gs', P0, d0, P1, d1, P2, d2, he, -, -, hc, r0, r1, r2, fz⟩ := h.own.at hn
 injection he with he
 injection he with he
 subst he
 exact ⟨P0, d0, P1, d1, P2, d2, hc, ⟨r0, r1, r2⟩, fz _, fz _, fz _, fz _, fz _, fz _⟩
theorem EngSt.row {n : Nat} (h : EngSt B g w e A1 c1 A2 c2 A3 c3 A4 c4) (hn : n < e.slots.length) : ∃ gs, A4 = some ⟨gs, 0, none⟩ ∧ B ≤ gs ∧ gs < w.heap.size := by
 obtain ⟨vs, k1, k2⟩ := h.own.slots
 exact own_addr k2 (by omega)
/-- a new variable -/
theorem EngSt.mk_ {P : Nat → Prop} (h : EngOwn P B w e A1 A2 A3 A4 c4) (hP : ∀ k, P k → B ≤ k ∧ A4 ≠ some ⟨k, 0, none⟩) (hb : Below w.heap.size w w') (hg : w.heap.size ≤ g) (hB : B ≤ g) (hbox : Blk w' g 96 (engA e A1 c1 A2 c2 A3 c3 A4 c4)) : EngSt B g w' e A1 c1 A2 c2 A3 c3 A4 c4 := by
 refine ⟨hB, hbox, (h.mono (Q := Out B g A4) fun k hk hkl => ⟨(hP k hk).1, by omega, (hP k hk).2⟩).new hb, fun he => ?_⟩
 have := (h.rng g he).2
 omega
end
def iRow (B : Nat) (xs : List Int) (v : Value) (w : World) : Prop := ∃ A c, v = .slice A xs.length c ∧ RdP (fun k => B ≤ k) w A (xs.map (.int .i64))
theorem sb_iRow (B : Nat) (xs : List Int) : StB (iRow B xs) := fun _ _ _ hb ⟨A, c, h1, h2⟩ => ⟨A, c, h1, h2.keep (Kp.below hb)⟩
def effRow (B : Nat) (x : Eff) (v : Value) (w : World) : Prop := ∃ A1 c1 A2 c2, v = .agg #[.bool x.done, .slice A1 x.reads.length c1, .slice A2 x.writes.length c2] ∧ RdP (fun k => B ≤ k) w A1 (x.reads.flatMap encE) ∧ RdP (fun k => B ≤ k) w A2 (x.writes.flatMap encE)
theorem sb_effRow (B : Nat) (x : Eff) : StB (effRow B x) := fun _ _ _ hb ⟨A1, c1, A2, c2, h0, h1, h2⟩ => ⟨A1, c1, A2, c2, h0, h1.keep (Kp.below hb), h2.keep (Kp.below hb)⟩
/-- a slot by value, all in new blocks -/
def sltB (B : Nat) (s : Slt) (v : Value) (w : World) : Prop := ∃ A c A1 c1 A2 c2, v = .agg #[.int .i64 s.stage, .int .i64 s.tries, .slice A s.frm.length c, .bool s.res.done, .slice A1 s.res.reads.length c1, .slice A2 s.res.writes.length c2] ∧ sltR (fun k => B ≤ k) s w (sltV s A c A1 c1 A2 c2)
theorem sb_sltB (B : Nat) (s : Slt) : StB (sltB B s) := fun _ _ _ hb ⟨A, c, A1, c1, A2, c2, h0, h1⟩ => ⟨A, c, A1, c1, A2, c2, h0, slt_good.keep h1 (Kp.below hb)⟩
end Go.Proofs.YtihlhejencninaaGreat
