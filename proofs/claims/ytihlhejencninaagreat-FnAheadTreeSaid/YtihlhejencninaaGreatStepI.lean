/- Steps of an engine, of the program (printed by gen_in.py from xstep.in). -/
import Derived.Test.YtihlhejencninaaGreatEngS
import Derived.Test.YtihlhejencninaaGreatEngI
namespace Go.Proofs.YtihlhejencninaaGreat
open Go.RowKit
set_option linter.unusedVariables false
set_option linter.unusedSimpArgs false

/-- an engine in a variable, whatever its addresses -/
def EngV (B g : Nat) (w : World) (e : Eng) : Prop := ∃ A1 c1 A2 c2 A3 c3 A4 c4, EngSt B g w e A1 c1 A2 c2 A3 c3 A4 c4
theorem EngSt.v {B g : Nat} {w : World} {e : Eng} {A1 : Option Addr} {c1 : Nat} {A2 : Option Addr} {c2 : Nat} {A3 : Option Addr} {c3 : Nat} {A4 : Option Addr} {c4 : Nat} (h : EngSt B g w e A1 c1 A2 c2 A3 c3 A4 c4) : EngV B g w e := ⟨_, _, _, _, _, _, _, _, h⟩
theorem own_out {w : World} {base B : Nat} {g : Nat} {A4 A : Option Addr} {e : TypeId} {size n c : Nat} {xs : List Value} (h : w.ownsRow base e size (.slice A n c) n xs) (hg : g < base) (hB : B ≤ base) (ha : ∀ q, A4 = some ⟨q, 0, none⟩ → q < base) : RdP (Out B g A4) w A xs :=
 (own_rdP h).mono fun k hk _ => ⟨by omega, by omega, fun he => by have := ha k he; omega⟩
theorem rd_out {w : World} {base B : Nat} {g : Nat} {A4 A : Option Addr} {xs : List Value} (h : RdP (fun k => base ≤ k) w A xs) (hg : g < base) (hB : B ≤ base) (ha : ∀ q, A4 = some ⟨q, 0, none⟩ → q < base) : RdP (Out B g A4) w A xs :=
 h.mono fun k hk _ => ⟨by omega, by omega, fun he => by have := ha k he; omega⟩
theorem gs_lt {gs b : Nat} (h : gs < b) : ∀ q, some (⟨gs, 0, none⟩ : Addr) = some ⟨q, 0, none⟩ → q < b := fun q he => by
 injection he with he
 injection he with he
 omega
theorem eff_new {base b : Nat} {x : Eff} {w : World} {A1 : Option Addr} {c1 : Nat} {A2 : Option Addr} {c2 : Nat} (h : effR (fun k => b ≤ k) x w (effV x A1 c1 A2 c2)) (hb : base ≤ b) : RdP (fun k => base ≤ k) w A1 (x.reads.flatMap encE) ∧ RdP (fun k => base ≤ k) w A2 (x.writes.flatMap encE) := by
 obtain ⟨B1, d1, B2, d2, he, -, -, h1, h2⟩ := h
 simp only [effV, List.cons.injEq, Value.slice.injEq] at he
 obtain ⟨-, ⟨rfl, -, -⟩, ⟨rfl, -, -⟩, -⟩ := he
 exact ⟨h1.mono fun k hk _ => Nat.le_trans hb hk, h2.mono fun k hk _ => Nat.le_trans hb hk⟩
theorem slt_rows {P : Nat → Prop} {s : Slt} {w : World} {A : Option Addr} {c : Nat} {A1 : Option Addr} {c1 : Nat} {A2 : Option Addr} {c2 : Nat} (h : sltR P s w (sltV s A c A1 c1 A2 c2)) : RdP P w A (s.frm.map (.int .i64)) ∧ RdP P w A1 (s.res.reads.flatMap encE) ∧ RdP P w A2 (s.res.writes.flatMap encE) := by
 obtain ⟨B, d, B1, d1, B2, d2, he, h0, h1, h2⟩ := h
 simp only [sltV, List.cons.injEq, Value.slice.injEq] at he
 obtain ⟨-, -, ⟨rfl, -, -⟩, -, ⟨rfl, -, -⟩, ⟨rfl, -, -⟩, -⟩ := he
 exact ⟨h0, h1, h2⟩
set_option maxRecDepth 100000 in
set_option maxHeartbeats 8000000 in
theorem step_full (e : Eng) (B g : Nat) (A1 : Option Addr) (c1 : Nat) (A2 : Option Addr) (c2 : Nat) (A3 : Option Addr) (c3 : Nat) (A4 : Option Addr) (c4 : Nat) (n : Nat) (w : World) (h : EngSt B g w e A1 c1 A2 c2 A3 c3 A4 c4) (hok : EngOk e) (hn : n < e.slots.length) (h0 : (slAt e n).stage = 0) (ht : (slAt e n).tries = 1000) :
   Calls Tryz.prog 126 #[.pointer (some ⟨g, 0, none⟩), .int .i64 (n : Int)] w fun x w' => x = .returned (.bool false) ∧ w' = w := by
 obtain ⟨gs, rfl, hBg, hgl⟩ := h.row hn
 obtain ⟨P0, d0, P1, d1, P2, d2, ⟨q0, q1, q2, q3, q4, q5⟩, -, -⟩ := h.at_ hn
 obtain ⟨y0, y1, y2, y3, -⟩ := h.cells
 have hn10 := hok.len10
 have hin : inB (n : Int) 0 ((e.slots.length : Int) - 1) = true := inB_true.2 (by omega)
 have i0 : (n : Int) < (e.slots.length : Int) := by omega
 have hggl := h.lt
 have e0 : ((slAt e n).stage == 0) = true := by simp [h0]
 have e1 : ((slAt e n).tries == 1000) = true := by simp [ht]
 clear h0 ht q2 q3 q4 q5 h hok
 generalize slAt e n = s at *
 go_enter Tryz.func126, Tryz.ntmps126
 go_wp2_with (go_at_call 98; refine (in_any _ _ _ _).mono ?_; rintro x w' ⟨rfl, rfl⟩)
 go_ret
 exact ⟨rfl, rfl⟩
set_option maxRecDepth 100000 in
set_option maxHeartbeats 8000000 in
theorem step_done (e : Eng) (B g : Nat) (A1 : Option Addr) (c1 : Nat) (A2 : Option Addr) (c2 : Nat) (A3 : Option Addr) (c3 : Nat) (A4 : Option Addr) (c4 : Nat) (n : Nat) (w : World) (h : EngSt B g w e A1 c1 A2 c2 A3 c3 A4 c4) (hok : EngOk e) (hn : n < e.slots.length) (h0 : (slAt e n).stage = 2) :
   Calls Tryz.prog 126 #[.pointer (some ⟨g, 0, none⟩), .int .i64 (n : Int)] w fun x w' => x = .returned (.bool false) ∧ w' = w := by
 obtain ⟨gs, rfl, hBg, hgl⟩ := h.row hn
 obtain ⟨P0, d0, P1, d1, P2, d2, ⟨q0, q1, q2, q3, q4, q5⟩, -, -⟩ := h.at_ hn
 obtain ⟨y0, y1, y2, y3, -⟩ := h.cells
 have hn10 := hok.len10
 have hin : inB (n : Int) 0 ((e.slots.length : Int) - 1) = true := inB_true.2 (by omega)
 have i0 : (n : Int) < (e.slots.length : Int) := by omega
 have hggl := h.lt
 have e0 : ((slAt e n).stage == 0) = false := by simp [h0]
 have e1 : ((slAt e n).stage == 1) = false := by simp [h0]
 clear h0 q1 q2 q3 q4 q5 h hok
 generalize slAt e n = s at *
 go_enter Tryz.func126, Tryz.ntmps126
 go_wp2_with (go_at_call 98; refine (in_any _ _ _ _).mono ?_; rintro x w' ⟨rfl, rfl⟩)
 go_ret
 exact ⟨rfl, rfl⟩
set_option maxRecDepth 100000 in
set_option maxHeartbeats 8000000 in
theorem step_wait (e : Eng) (B g : Nat) (A1 : Option Addr) (c1 : Nat) (A2 : Option Addr) (c2 : Nat) (A3 : Option Addr) (c3 : Nat) (A4 : Option Addr) (c4 : Nat) (n : Nat) (w : World) (h : EngSt B g w e A1 c1 A2 c2 A3 c3 A4 c4) (hok : EngOk e) (hn : n < e.slots.length) (h0 : (slAt e n).stage = 1) (h1 : 0 < n) (h2 : (slAt e (n - 1)).stage ≠ 2) :
   Calls Tryz.prog 126 #[.pointer (some ⟨g, 0, none⟩), .int .i64 (n : Int)] w fun x w' => x = .returned (.bool false) ∧ w' = w := by
 obtain ⟨gs, rfl, hBg, hgl⟩ := h.row hn
 obtain ⟨P0, d0, P1, d1, P2, d2, ⟨q0, q1, q2, q3, q4, q5⟩, -, -⟩ := h.at_ hn
 obtain ⟨y0, y1, y2, y3, -⟩ := h.cells
 have hn10 := hok.len10
 have hin : inB (n : Int) 0 ((e.slots.length : Int) - 1) = true := inB_true.2 (by omega)
 have i0 : (n : Int) < (e.slots.length : Int) := by omega
 have hggl := h.lt
 obtain ⟨p, rfl⟩ : ∃ p, n = p + 1 := ⟨n - 1, by omega⟩
 have hp : p < e.slots.length := by omega
 obtain ⟨-, -, -, -, -, -, ⟨p0, -, -, -, -, -⟩, -, -⟩ := h.at_ hp
 have z1 : decide (0 < p + 1) = true := by simp
 have i2 : (p : Int) < (e.slots.length : Int) := by omega
 rw [show ((p + 1 : Nat) : Int) = (p : Int) + 1 by omega] at hin i0
 have e0 : ((slAt e (p + 1)).stage == 0) = false := by simp [h0]
 have e1 : ((slAt e (p + 1)).stage == 1) = true := by simp [h0]
 have e2 : ((slAt e p).stage != 2) = true := by simpa using h2
 clear h0 h2 q1 q2 q3 q4 q5 h1 h hok
 generalize slAt e (p + 1) = s at *
 generalize slAt e p = s' at *
 go_enter Tryz.func126, Tryz.ntmps126
 go_wp2_with (go_at_call 98; refine (in_any _ _ _ _).mono ?_; rintro x w' ⟨rfl, rfl⟩)
 go_ret
 exact ⟨rfl, rfl⟩
set_option maxRecDepth 100000 in
set_option maxHeartbeats 8000000 in
theorem step_chk0 (e : Eng) (B g : Nat) (A1 : Option Addr) (c1 : Nat) (A2 : Option Addr) (c2 : Nat) (A3 : Option Addr) (c3 : Nat) (A4 : Option Addr) (c4 : Nat) (n : Nat) (w : World) (h : EngSt B g w e A1 c1 A2 c2 A3 c3 A4 c4) (hok : EngOk e) (hn : n < e.slots.length) (h0 : (slAt e n).stage = 1) (h1 : n = 0) (hc : curE e n = true) :
   Calls Tryz.prog 126 #[.pointer (some ⟨g, 0, none⟩), .int .i64 (n : Int)] w fun x w' => x = .returned (.bool true) ∧ EngV B g w' (chkN e n) ∧ Below B w w' := by
 obtain ⟨gs, rfl, hBg, hgl⟩ := h.row hn
 obtain ⟨P0, d0, P1, d1, P2, d2, ⟨q0, q1, q2, q3, q4, q5⟩, -, -⟩ := h.at_ hn
 obtain ⟨y0, y1, y2, y3, -⟩ := h.cells
 have hn10 := hok.len10
 have hin : inB (n : Int) 0 ((e.slots.length : Int) - 1) = true := inB_true.2 (by omega)
 have i0 : (n : Int) < (e.slots.length : Int) := by omega
 have hggl := h.lt
 have KC := current_impl e A1 c1 A2 c2 A3 c3 (some ⟨gs, 0, none⟩) c4 n w h.own.rd hok hn
 rw [hc] at KC
 simp only [engA] at KC
 have e0 : ((slAt e n).stage == 0) = false := by simp [h0]
 have e1 : ((slAt e n).stage == 1) = true := by simp [h0]
 have HST := hide (fun (w' : World) (hb : Below w.heap.size w w') => h.new hb)
 have hwB : B ≤ w.heap.size := by have := h.le; omega
 have z1 : decide (0 < n) = false := by simp [h1]
 clear h1
 have HVL := hide hok.vlen
 have HGB := hide h.le
 have HNE := hide h.ne
 clear h0 h hok hc q1 q2 q3 q4 q5
 generalize hs : slAt e n = s at *
 have HS := hide hs
 clear hs
 go_enter Tryz.func126, Tryz.ntmps126
 go_wp2_with (first | (go_at_call 98; refine (in_any _ _ _ _).mono ?_; rintro x w' ⟨rfl, rfl⟩) | (refine KC.mono ?_; rintro x w3 ⟨rfl, b3⟩; clear KC y0 y1 y2 y3 q0; obtain ⟨P0', d0', P1', d1', P2', d2', ⟨x0, x1, x2, x3, x4, x5⟩, -, z0, f1, f2, f3, f4, f5⟩ := (unhide HST w3 b3).at_ hn; rw [unhide HS] at x0 x1 x2 x3 x4 x5; obtain ⟨y0, y1, y2, y3, -⟩ := (unhide HST w3 b3).cells; have hg3 : g < w3.heap.size := (unhide HST w3 b3).lt; have hgs3 : gs < w3.heap.size := by have := b3.size; omega))
 go_ret
 exact ⟨rfl, ((unhide HST w3 b3).stage hn 2).v, (b3.mono hwB).trans (((Chg.refl (fun q => q = gs) w3).setCell (.inl rfl) _).below (fun q hq e => by omega) (by omega))⟩
set_option maxRecDepth 100000 in
set_option maxHeartbeats 8000000 in
theorem step_new0 (e : Eng) (B g : Nat) (A1 : Option Addr) (c1 : Nat) (A2 : Option Addr) (c2 : Nat) (A3 : Option Addr) (c3 : Nat) (A4 : Option Addr) (c4 : Nat) (n : Nat) (w : World) (h : EngSt B g w e A1 c1 A2 c2 A3 c3 A4 c4) (hok : EngOk e) (hn : n < e.slots.length) (h0 : (slAt e n).stage = 1) (h1 : n = 0) (hc : curE e n = false) :
   Calls Tryz.prog 126 #[.pointer (some ⟨g, 0, none⟩), .int .i64 (n : Int)] w fun x w' => x = .returned (.bool true) ∧ EngV B g w' (newN e n) ∧ Below B w w' := by
 obtain ⟨gs, rfl, hBg, hgl⟩ := h.row hn
 obtain ⟨P0, d0, P1, d1, P2, d2, ⟨q0, q1, q2, q3, q4, q5⟩, -, -⟩ := h.at_ hn
 obtain ⟨y0, y1, y2, y3, -⟩ := h.cells
 have hn10 := hok.len10
 have hin : inB (n : Int) 0 ((e.slots.length : Int) - 1) = true := inB_true.2 (by omega)
 have i0 : (n : Int) < (e.slots.length : Int) := by omega
 have hggl := h.lt
 have KC := current_impl e A1 c1 A2 c2 A3 c3 (some ⟨gs, 0, none⟩) c4 n w h.own.rd hok hn
 rw [hc] at KC
 simp only [engA] at KC
 have e0 : ((slAt e n).stage == 0) = false := by simp [h0]
 have e1 : ((slAt e n).stage == 1) = true := by simp [h0]
 have HST := hide (fun (w' : World) (hb : Below w.heap.size w w') => h.new hb)
 have hwB : B ≤ w.heap.size := by have := h.le; omega
 have z1 : decide (0 < n) = false := by simp [h1]
 clear h1
 have HVL := hide hok.vlen
 have HGB := hide h.le
 have HNE := hide h.ne
 clear h0 h hok hc q1 q2 q3 q4 q5
 generalize hs : slAt e n = s at *
 have HS := hide hs
 clear hs
 go_enter Tryz.func126, Tryz.ntmps126
 have hne : g ≠ gs := fun he => unhide HNE (by rw [he])
 have hne' : gs ≠ g := fun he => hne he.symm
 go_wp2_with (first | (go_at_call 98; refine (in_any _ _ _ _).mono ?_; rintro x w' ⟨rfl, rfl⟩) | (refine KC.mono ?_; rintro x w3 ⟨rfl, b3⟩; clear KC y0 y1 y2 y3 q0; obtain ⟨P0', d0', P1', d1', P2', d2', ⟨x0, x1, x2, x3, x4, x5⟩, -, z0, f1, f2, f3, f4, f5⟩ := (unhide HST w3 b3).at_ hn; rw [unhide HS] at x0 x1 x2 x3 x4 x5; obtain ⟨y0, y1, y2, y3, -⟩ := (unhide HST w3 b3).cells; have hg3 : g < w3.heap.size := (unhide HST w3 b3).lt; have hgs3 : gs < w3.heap.size := by have := b3.size; omega))
 have hst := (unhide HST w3 b3).slot hn ⟨0, s.tries, [], zEff⟩ none 0 none 0 none 0 (RdP.nil _ _ _) (RdP.nil _ _ _) (RdP.nil _ _ _)
 obtain ⟨W, hW⟩ : ∃ W, W = set6 w3 gs (n * 6) ⟨0, s.tries, [], zEff⟩ none 0 none 0 none 0 := ⟨_, rfl⟩
 have hch : Chg (fun q => q = gs) w3 W := by rw [hW]; exact set6_chg _ _ _ _ _ _ _ _ _ _
 rw [← hW] at hst
 have HSTW := hide (fun (w' : World) (hb : Below W.heap.size W w') => hst.new hb)
 have hgW := hst.lt
 have KW := without_impl A3 c3 e.vers ((n : Nat) : Int) W hst.own.vers.rd (by have := unhide HVL; omega)
 have bW : Below B w W := (b3.mono hwB).trans (hch.below (fun q hq e => by omega) (by have := b3.size; omega))
 clear hst hch
 simp only [set6, zEff, List.length_nil] at hW
 rw [← hW]
 clear hW y0 y1 y2 y3 x0 x1 x2 x3 x4 x5 z0 f1 f2 f3 f4 f5
 refine KW.mono ?_
 rintro x w5 ⟨A8, c8, rfl, o8, b8⟩
 have hst5 := unhide HSTW w5 b8
 obtain ⟨v0, v1, v2, v3, -⟩ := hst5.cells
 have fg : w5.frozen? ⟨g, 2, none⟩ = false := hst5.box.frozen 2
 have hg5 := hst5.lt
 go_wp2
 go_ret
 exact ⟨rfl, by unfold newN; rw [unhide HS]; exact (hst5.vers (dropV e.vers ((n : Nat) : Int)) A8 c8 (own_out o8 hgW (by have := bW.size; omega) (gs_lt (by have := bW.size; omega)))).v, (bW.trans (b8.mono (by have := bW.size; omega))).trans (((Chg.refl (fun q => q = g) w5).setCell (.inl rfl) _).below (fun q hq e => by have := unhide HGB; omega) (by have := bW.size; have := b8.size; omega))⟩
set_option maxRecDepth 100000 in
set_option maxHeartbeats 8000000 in
theorem step_chk (e : Eng) (B g : Nat) (A1 : Option Addr) (c1 : Nat) (A2 : Option Addr) (c2 : Nat) (A3 : Option Addr) (c3 : Nat) (A4 : Option Addr) (c4 : Nat) (n : Nat) (w : World) (h : EngSt B g w e A1 c1 A2 c2 A3 c3 A4 c4) (hok : EngOk e) (hn : n < e.slots.length) (h0 : (slAt e n).stage = 1) (h1 : 0 < n) (h2 : (slAt e (n - 1)).stage = 2) (hc : curE e n = true) :
   Calls Tryz.prog 126 #[.pointer (some ⟨g, 0, none⟩), .int .i64 (n : Int)] w fun x w' => x = .returned (.bool true) ∧ EngV B g w' (chkN e n) ∧ Below B w w' := by
 obtain ⟨gs, rfl, hBg, hgl⟩ := h.row hn
 obtain ⟨P0, d0, P1, d1, P2, d2, ⟨q0, q1, q2, q3, q4, q5⟩, -, -⟩ := h.at_ hn
 obtain ⟨y0, y1, y2, y3, -⟩ := h.cells
 have hn10 := hok.len10
 have hin : inB (n : Int) 0 ((e.slots.length : Int) - 1) = true := inB_true.2 (by omega)
 have i0 : (n : Int) < (e.slots.length : Int) := by omega
 have hggl := h.lt
 obtain ⟨p, rfl⟩ : ∃ p, n = p + 1 := ⟨n - 1, by omega⟩
 have hp : p < e.slots.length := by omega
 obtain ⟨-, -, -, -, -, -, ⟨p0, -, -, -, -, -⟩, -, -⟩ := h.at_ hp
 have z1 : decide (0 < p + 1) = true := by simp
 have i2 : (p : Int) < (e.slots.length : Int) := by omega
 rw [show ((p + 1 : Nat) : Int) = (p : Int) + 1 by omega] at hin i0
 have KC := current_impl e A1 c1 A2 c2 A3 c3 (some ⟨gs, 0, none⟩) c4 (p + 1) w h.own.rd hok hn
 rw [hc] at KC
 simp only [engA] at KC
 have e0 : ((slAt e (p + 1)).stage == 0) = false := by simp [h0]
 have e1 : ((slAt e (p + 1)).stage == 1) = true := by simp [h0]
 have HST := hide (fun (w' : World) (hb : Below w.heap.size w w') => h.new hb)
 have hwB : B ≤ w.heap.size := by have := h.le; omega
 have e2 : ((slAt e p).stage != 2) = false := by simpa using h2
 clear h1 h2
 have HVL := hide hok.vlen
 have HGB := hide h.le
 have HNE := hide h.ne
 clear h0 h hok hc q1 q2 q3 q4 q5
 generalize hs : slAt e (p + 1) = s at *
 have HS := hide hs
 clear hs
 generalize slAt e p = s' at *
 go_enter Tryz.func126, Tryz.ntmps126
 go_wp2_with (first | (go_at_call 98; refine (in_any _ _ _ _).mono ?_; rintro x w' ⟨rfl, rfl⟩) | (refine KC.mono ?_; rintro x w3 ⟨rfl, b3⟩; clear KC y0 y1 y2 y3 q0 p0; obtain ⟨P0', d0', P1', d1', P2', d2', ⟨x0, x1, x2, x3, x4, x5⟩, -, z0, f1, f2, f3, f4, f5⟩ := (unhide HST w3 b3).at_ hn; rw [unhide HS] at x0 x1 x2 x3 x4 x5; obtain ⟨y0, y1, y2, y3, -⟩ := (unhide HST w3 b3).cells; have hg3 : g < w3.heap.size := (unhide HST w3 b3).lt; have hgs3 : gs < w3.heap.size := by have := b3.size; omega))
 go_ret
 exact ⟨rfl, ((unhide HST w3 b3).stage hn 2).v, (b3.mono hwB).trans (((Chg.refl (fun q => q = gs) w3).setCell (.inl rfl) _).below (fun q hq e => by omega) (by omega))⟩
set_option maxRecDepth 100000 in
set_option maxHeartbeats 8000000 in
theorem step_new (e : Eng) (B g : Nat) (A1 : Option Addr) (c1 : Nat) (A2 : Option Addr) (c2 : Nat) (A3 : Option Addr) (c3 : Nat) (A4 : Option Addr) (c4 : Nat) (n : Nat) (w : World) (h : EngSt B g w e A1 c1 A2 c2 A3 c3 A4 c4) (hok : EngOk e) (hn : n < e.slots.length) (h0 : (slAt e n).stage = 1) (h1 : 0 < n) (h2 : (slAt e (n - 1)).stage = 2) (hc : curE e n = false) :
   Calls Tryz.prog 126 #[.pointer (some ⟨g, 0, none⟩), .int .i64 (n : Int)] w fun x w' => x = .returned (.bool true) ∧ EngV B g w' (newN e n) ∧ Below B w w' := by
 obtain ⟨gs, rfl, hBg, hgl⟩ := h.row hn
 obtain ⟨P0, d0, P1, d1, P2, d2, ⟨q0, q1, q2, q3, q4, q5⟩, -, -⟩ := h.at_ hn
 obtain ⟨y0, y1, y2, y3, -⟩ := h.cells
 have hn10 := hok.len10
 have hin : inB (n : Int) 0 ((e.slots.length : Int) - 1) = true := inB_true.2 (by omega)
 have i0 : (n : Int) < (e.slots.length : Int) := by omega
 have hggl := h.lt
 obtain ⟨p, rfl⟩ : ∃ p, n = p + 1 := ⟨n - 1, by omega⟩
 have hp : p < e.slots.length := by omega
 obtain ⟨-, -, -, -, -, -, ⟨p0, -, -, -, -, -⟩, -, -⟩ := h.at_ hp
 have z1 : decide (0 < p + 1) = true := by simp
 have i2 : (p : Int) < (e.slots.length : Int) := by omega
 rw [show ((p + 1 : Nat) : Int) = (p : Int) + 1 by omega] at hin i0
 have KC := current_impl e A1 c1 A2 c2 A3 c3 (some ⟨gs, 0, none⟩) c4 (p + 1) w h.own.rd hok hn
 rw [hc] at KC
 simp only [engA] at KC
 have e0 : ((slAt e (p + 1)).stage == 0) = false := by simp [h0]
 have e1 : ((slAt e (p + 1)).stage == 1) = true := by simp [h0]
 have HST := hide (fun (w' : World) (hb : Below w.heap.size w w') => h.new hb)
 have hwB : B ≤ w.heap.size := by have := h.le; omega
 have e2 : ((slAt e p).stage != 2) = false := by simpa using h2
 clear h1 h2
 have HVL := hide hok.vlen
 have HGB := hide h.le
 have HNE := hide h.ne
 clear h0 h hok hc q1 q2 q3 q4 q5
 generalize hs : slAt e (p + 1) = s at *
 have HS := hide hs
 clear hs
 generalize slAt e p = s' at *
 go_enter Tryz.func126, Tryz.ntmps126
 have hne : g ≠ gs := fun he => unhide HNE (by rw [he])
 have hne' : gs ≠ g := fun he => hne he.symm
 go_wp2_with (first | (go_at_call 98; refine (in_any _ _ _ _).mono ?_; rintro x w' ⟨rfl, rfl⟩) | (refine KC.mono ?_; rintro x w3 ⟨rfl, b3⟩; clear KC y0 y1 y2 y3 q0 p0; obtain ⟨P0', d0', P1', d1', P2', d2', ⟨x0, x1, x2, x3, x4, x5⟩, -, z0, f1, f2, f3, f4, f5⟩ := (unhide HST w3 b3).at_ hn; rw [unhide HS] at x0 x1 x2 x3 x4 x5; obtain ⟨y0, y1, y2, y3, -⟩ := (unhide HST w3 b3).cells; have hg3 : g < w3.heap.size := (unhide HST w3 b3).lt; have hgs3 : gs < w3.heap.size := by have := b3.size; omega))
 have hst := (unhide HST w3 b3).slot hn ⟨0, s.tries, [], zEff⟩ none 0 none 0 none 0 (RdP.nil _ _ _) (RdP.nil _ _ _) (RdP.nil _ _ _)
 obtain ⟨W, hW⟩ : ∃ W, W = set6 w3 gs ((p + 1) * 6) ⟨0, s.tries, [], zEff⟩ none 0 none 0 none 0 := ⟨_, rfl⟩
 have hch : Chg (fun q => q = gs) w3 W := by rw [hW]; exact set6_chg _ _ _ _ _ _ _ _ _ _
 rw [← hW] at hst
 have HSTW := hide (fun (w' : World) (hb : Below W.heap.size W w') => hst.new hb)
 have hgW := hst.lt
 have KW := without_impl A3 c3 e.vers (((p + 1) : Nat) : Int) W hst.own.vers.rd (by have := unhide HVL; omega)
 have bW : Below B w W := (b3.mono hwB).trans (hch.below (fun q hq e => by omega) (by have := b3.size; omega))
 clear hst hch
 simp only [set6, zEff, List.length_nil] at hW
 rw [← hW]
 clear hW y0 y1 y2 y3 x0 x1 x2 x3 x4 x5 z0 f1 f2 f3 f4 f5
 refine KW.mono ?_
 rintro x w5 ⟨A8, c8, rfl, o8, b8⟩
 have hst5 := unhide HSTW w5 b8
 obtain ⟨v0, v1, v2, v3, -⟩ := hst5.cells
 have fg : w5.frozen? ⟨g, 2, none⟩ = false := hst5.box.frozen 2
 have hg5 := hst5.lt
 go_wp2
 go_ret
 exact ⟨rfl, by unfold newN; rw [unhide HS]; exact (hst5.vers (dropV e.vers (((p + 1) : Nat) : Int)) A8 c8 (own_out o8 hgW (by have := bW.size; omega) (gs_lt (by have := bW.size; omega)))).v, (bW.trans (b8.mono (by have := bW.size; omega))).trans (((Chg.refl (fun q => q = g) w5).setCell (.inl rfl) _).below (fun q hq e => by have := unhide HGB; omega) (by have := bW.size; have := b8.size; omega))⟩
set_option maxRecDepth 100000 in
set_option maxHeartbeats 8000000 in
theorem step_try (e : Eng) (B g : Nat) (A1 : Option Addr) (c1 : Nat) (A2 : Option Addr) (c2 : Nat) (A3 : Option Addr) (c3 : Nat) (A4 : Option Addr) (c4 : Nat) (n : Nat) (w : World) (h : EngSt B g w e A1 c1 A2 c2 A3 c3 A4 c4) (hok : EngOk e) (hn : n < e.slots.length) (h0 : (slAt e n).stage = 0) (ht : (slAt e n).tries ≠ 1000) :
   Calls Tryz.prog 126 #[.pointer (some ⟨g, 0, none⟩), .int .i64 (n : Int)] w fun x w' => x = .returned (.bool true) ∧ EngV B g w' (tryN e n) ∧ Below B w w' := by
 obtain ⟨gs, rfl, hBg, hgl⟩ := h.row hn
 obtain ⟨P0, d0, P1, d1, P2, d2, ⟨q0, q1, q2, q3, q4, q5⟩, -, -⟩ := h.at_ hn
 obtain ⟨y0, y1, y2, y3, -⟩ := h.cells
 have hn10 := hok.len10
 have hin : inB (n : Int) 0 ((e.slots.length : Int) - 1) = true := inB_true.2 (by omega)
 have i0 : (n : Int) < (e.slots.length : Int) := by omega
 have hggl := h.lt
 have KN := now_impl e A1 c1 A2 c2 A3 c3 (some ⟨gs, 0, none⟩) c4 n w h.own.rd hok hn
 simp only [engA] at KN
 have e0 : ((slAt e n).stage == 0) = true := by simp [h0]
 have e1 : ((slAt e n).tries == 1000) = false := by simp [ht]
 have htr : 0 ≤ (slAt e n).tries ∧ (slAt e n).tries ≤ 1000 := by
   rcases hok.slot n hn with hs | hs
   · exact hs.2.1
   · have := hs.2.1; omega
 have HST := hide (fun (w' : World) (hb : Below w.heap.size w w') => h.new hb)
 have hwB : B ≤ w.heap.size := by have := h.le; omega
 have hnl : n < e.list.length := by have := hok.len; omega
 have hll : e.list.length ≤ 10 := by rw [← hok.len]; exact hn10
 have HACT := hide (hok.act hn)
 have HVOK := hide (nowI_ok hok n (fun k hk => reads_bd (hok.act hn) hk))
 have HRUN := hide (run_now hok hn)
 have HEOK := hide (hok.eff hn)
 have HBD := hide (fun x (hx : x ∈ e.vers) => hok.bd hx)
 have HSRT := hide hok.srt
 have hel := runV_len (nowI e.base e.vers n (actReads (acAt e n))) (acAt e n)
 rw [run_now hok hn] at hel
 have hwl : (whoL e.base e.vers n (acAt e n)).length ≤ 2 := by rw [whoL, List.length_map]; exact actReads_len _
 have hvl := hok.vlen
 have HGB := hide h.le
 have HNE := hide h.ne
 have HVL := hide (nowI_len e.base e.vers n (actReads (acAt e n)))
 have HTN := hide (show tryN e n = { { e with slots := e.slots.set n ⟨1, (slAt e n).tries + 1, whoL e.base e.vers n (acAt e n), effN e n⟩ } with vers := putW e.vers n (effN e n).writes } from rfl)
 have HLA := hide (acAt_get e hnl)
 clear h0 ht h hok q2 q3 q4 q5
 generalize hs : slAt e n = s at *
 have HS := hide hs
 clear hs
 generalize (nowI e.base e.vers n (actReads (acAt e n))) = v at *
 generalize whoL e.base e.vers n (acAt e n) = ww at *
 generalize effN e n = E at *
 generalize acAt e n = a at *
 go_enter Tryz.func126, Tryz.ntmps126
 go_wp2_with (go_at_call 98; refine (in_any _ _ _ _).mono ?_; rintro x w' ⟨rfl, rfl⟩)
 refine KN.mono ?_
 rintro x w3 ⟨AW, cw, rfl, oW, b3⟩
 clear KN
 have rW := own_rdB oW (Nat.le_refl _)
 clear oW
 have hls : (vA v).size = 32 := by rw [vA_size, unhide HVL]
 obtain ⟨kz, kv, b4⟩ := one_vals w3 112 v
 obtain ⟨g6, hg6⟩ : ∃ q, q = w3.heap.size := ⟨_, rfl⟩
 go_wp2_with (refine wpList_store_row rfl 112 (.tmp 6) (.tmp 40) rfl w3.heap.size (vA v) rfl rfl 112 zA kz (by rw [hls]; exact info_vals) (by rw [hls]; rfl) (vA_one _) ?_; refine at_world (C := fun W => wpList _ _ _ _ _ W) (F := fun W => Blk W w3.heap.size 112 (vA v) ∧ Below w3.heap.size w3 W) ⟨kv, b4⟩ ?_; clear kz kv b4; rintro w4 ⟨kv, b4⟩; rw [← hg6] at kv ⊢; have HG6 := hide hg6; clear hg6)
 have b34 := bthen b3 b4
 have hst4 := unhide HST w4 b34
 have hgw : g < w.heap.size := hggl
 have hw4 := b34.size
 have HX := hide (fun (w' : World) (hb : Below w4.heap.size w4 w') => show w'.cell? ⟨gs, n * 6 + 1, none⟩ = some (.int .i64 s.tries) ∧ w'.cell? ⟨g, 1, none⟩ = some (.slice A2 e.list.length c2) ∧ Blk w' g6 112 (vA v) ∧ Rd w' A2 (e.list.flatMap encA) ∧ RdP (fun k => w.heap.size ≤ k) w' AW (ww.map (.int .i64)) from by
   have hst := hst4.new hb
   obtain ⟨-, -, -, -, -, -, ⟨-, t1, -, -, -, -⟩, -, -⟩ := hst.at_ hn
   rw [unhide HS] at t1
   exact ⟨t1, hst.cells.2.1, kv.new_ hb, hst.own.list.rd, rW.keep (Kp.below (bthen b4 hb))⟩)
 have HST4 := hide hst4
 clear y0 y1 y2 y3 q0 q1 rW kv hst4
 have hF : StBL [bV (.pointer (some ⟨gs, n * 6, none⟩)), bV (.pointer (some ⟨gs, n * 6, none⟩)), bV (.pointer (some ⟨gs, n * 6, none⟩)), bV (.pointer (some ⟨gs, n * 6 + 1, none⟩)), bV (.int .i64 s.tries), bV (.int .i64 (s.tries + 1)), bV (.slice AW ww.length cw), bV (.pointer (some ⟨g, 0, none⟩)), bV (.pointer (some ⟨g, 0, none⟩)), bV (.pointer (some ⟨g, 1, none⟩)), bV (.slice A2 e.list.length c2), bV (.int .i64 (n : Int)), (fun v _ => ∃ bl ol, v = .pointer (some ⟨bl, ol + n * 4, none⟩) ∧ A2 = some ⟨bl, ol, none⟩), bV (.agg #[.int .i64 a.kind, .int .i64 a.src, .int .i64 a.dst, .int .i64 a.amt]), bV (.agg (vA v)), effRow w.heap.size E, sltB w.heap.size ⟨1, s.tries + 1, ww, E⟩] :=
   ⟨sb_V _, sb_V _, sb_V _, sb_V _, sb_V _, sb_V _, sb_V _, sb_V _, sb_V _, sb_V _, sb_V _, sb_V _, fun _ _ _ _ h => h, sb_V _, sb_V _, sb_effRow _ _, sb_sltB _ _, trivial⟩
 go_upto_region 9 with fail
 refine wp_region_loc (by kernel_rfl) [(0, some 42), (1, some 43), (2, some 44), (3, some 45), (4, some 46), (5, some 47), (6, some 48), (7, some 49), (8, some 50), (9, some 51), (10, some 52), (11, some 53), (12, some 54), (13, some 55), (14, some 56), (15, some 57), (16, some 58)] [[], [], [(1, some 43)], [(2, some 44)], [(3, some 45)], [(4, some 46)], [], [], [(7, some 49)], [(8, some 50)], [(9, some 51)], [], [(10, some 52), (11, some 53)], [(12, some 54)], [], [(13, some 55), (14, some 56)], [(5, some 47), (6, some 48), (15, some 57)]] (by kernel_rfl)
   (locB _) (fun a b => Below a.heap.size a b) noR [0, 0, 0, 0, 0, 0, 0, 0, 0, 0, 0, 0, 0, 0, 0, 0, 0] 0 (by kernel_rfl) (fun _ => Below.refl _ _) (fun _ _ _ => bthen) (locB_st hF _) trivial ?_ ?_
 · refine steps_cons ?s0 ( steps_cons ?s1 ( steps_cons ?s2 ( steps_cons ?s3 ( steps_cons ?s4 ( steps_cons ?s5 ( steps_cons ?s6 ( steps_cons ?s7 ( steps_cons ?s8 ( steps_cons ?s9 ( steps_cons ?s10 ( steps_cons ?s11 ( steps_cons ?s12 ( steps_cons ?s13 ( steps_cons ?s14 ( steps_cons ?s15 ( steps_cons ?s16 steps_nil))))))))))))))))
   case s0 | s1 | s6 | s7 | s11 =>
     intro w' m' hE hR
     intro Q hQ
     go_wp2
     exact hQ _ _ _ rfl rfl (Below.refl _ _) trivial
   case s2 | s3 | s5 | s8 | s9 =>
     intro w' m' hE hR
     rintro _ rfl Q hQ
     go_wp2
     exact hQ _ _ _ rfl rfl (Below.refl _ _) trivial
   case s4 | s10 =>
     intro w' m' hE hR
     rintro _ rfl Q hQ
     have bb := below_undrew hE
     obtain ⟨t1, t2, t3, t4, t5⟩ := unhide HX w' bb
     go_wp2
     exact hQ _ _ _ rfl rfl (Below.refl _ _) trivial
   case s12 =>
     intro w' m' hE hR
     rintro _ rfl _ rfl Q hQ
     have bb := below_undrew hE
     obtain ⟨t1, t2, t3, t4, t5⟩ := unhide HX w' bb
     obtain ⟨bl, ol, hAl, hbl, l0, l1, l2, l3⟩ := t4.act hnl
     have i3 : (n : Int) < (e.list.length : Int) := by omega
     subst hAl
     go_wp2
     exact hQ _ _ _ rfl ⟨bl, ol, rfl, rfl⟩ (Below.refl _ _) trivial
   case s13 =>
     intro w' m' hE hR
     rintro _ ⟨bl, ol, rfl, hAl⟩ Q hQ
     have bb := below_undrew hE
     obtain ⟨t1, t2, t3, t4, t5⟩ := unhide HX w' bb
     obtain ⟨bl', ol', hAl', hbl, l0, l1, l2, l3⟩ := t4.act hnl
     rw [hAl] at hAl'
     injection hAl' with hAl'
     injection hAl' with h8 h9
     subst h8
     subst h9
     rw [← unhide HLA] at l0 l1 l2 l3
     clear hAl
     go_wp2
     exact hQ _ _ _ rfl rfl (Below.refl _ _) trivial
   case s14 =>
     intro w' m' hE hR
     intro Q hQ
     have bb := below_undrew hE
     obtain ⟨t1, t2, t3, t4, t5⟩ := unhide HX w' bb
     refine wpList_load_row rfl 112 (.tmp 6) rfl g6 rfl 112 (vA v) (0, 0) _ t3 Tryz.underlying112 rfl (by rw [hls]; exact info_vals) ?_
     go_wp2
     exact hQ _ _ _ rfl rfl (Below.refl _ _) trivial
   case s15 =>
     intro w' m' hE hR
     rintro _ rfl _ rfl Q hQ
     have bb := below_undrew hE
     have hsz := bb.size
     go_wp2_with fail
     refine (run_any a v _ (unhide HACT) (unhide HVOK)).mono ?_
     rintro x w5 ⟨X1, z1, X2, z2, rfl, heff, b5⟩
     rw [unhide HRUN] at heff ⊢
     obtain ⟨p1, p2⟩ := eff_new (base := w.heap.size) heff (by omega)
     go_wp2
     exact hQ _ _ _ rfl ⟨X1, z1, X2, z2, rfl, p1, p2⟩ b5 trivial
   case s16 =>
     intro w' m' hE hR
     rintro _ rfl _ rfl _ ⟨X1, z1, X2, z2, rfl, p1, p2⟩ Q hQ
     have bb := below_undrew hE
     obtain ⟨t1, t2, t3, t4, t5⟩ := unhide HX w' bb
     go_wp2
     exact hQ _ _ _ rfl ⟨AW, cw, X1, z1, X2, z2, rfl, AW, cw, X1, z1, X2, z2, rfl, t5, p1, p2⟩ (Below.refl _ _) trivial
 intro w9 hE _
 rintro v0 hv0 v1 - v2 - v3 - v4 - v5 - v6 - v7 - v8 - v9 - v10 - v11 - v12 - v13 - v14 - v15 - v16 ⟨AF, cf, X1, z1, X2, z2, rfl, hsl⟩
 obtain rfl : v0 = _ := hv0
 change wpList _ _ _ [_, _] _ _
 simp only [Act.put, List.setIfInBounds_toArray, List.set_cons_succ, List.set_cons_zero]
 have b9 := below_undrew hE
 clear hE hF
 obtain ⟨r0, r1, r2⟩ := slt_rows hsl
 have hst9 := (unhide HST4).new b9
 obtain ⟨O0, o0, O1, o1, O2, o2, ⟨q0, q1, q2, q3, q4, q5⟩, -, z0, f1, f2, f3, f4, f5⟩ := hst9.at_ hn
 have hg9 := hst9.lt
 have hgs9 : gs < w9.heap.size := by have := b9.size; omega
 have hst := hst9.slot hn ⟨1, s.tries + 1, ww, E⟩ AF cf X1 z1 X2 z2 (rd_out r0 hgw hwB (gs_lt hgl)) (rd_out r1 hgw hwB (gs_lt hgl)) (rd_out r2 hgw hwB (gs_lt hgl))
 obtain ⟨W, hW⟩ : ∃ W, W = set6 w9 gs (n * 6) ⟨1, s.tries + 1, ww, E⟩ AF cf X1 z1 X2 z2 := ⟨_, rfl⟩
 have hch : Chg (fun q => q = gs) w9 W := by rw [hW]; exact set6_chg _ _ _ _ _ _ _ _ _ _
 rw [← hW] at hst
 simp only [set6] at hW
 have hw9 := b9.size
 have hwW := hch.size
 have bW : Below B w W := ((b34.mono hwB).trans (b9.mono (by omega))).trans (hch.below (fun q hq e => by omega) (by omega))
 have hsa : slAt { e with slots := e.slots.set n ⟨1, s.tries + 1, ww, E⟩ } n = ⟨1, s.tries + 1, ww, E⟩ := (slAt_set e n n ⟨1, s.tries + 1, ww, E⟩ e.vers hn).trans (if_pos rfl)
 have hn2 : n < ({ e with slots := e.slots.set n ⟨1, s.tries + 1, ww, E⟩ } : Eng).slots.length := by simpa using hn
 obtain ⟨-, -, -, -, Q2, e2, ⟨-, -, -, -, -, v5⟩, ⟨-, -, rQ⟩, -⟩ := hst.at_ hn2
 rw [hsa] at v5 rQ
 have HSTW := hide hst
 have HY := hide (fun (w' : World) (hb : Below W.heap.size W w') => show w'.cell? ⟨g, 2, none⟩ = some (.slice A3 e.vers.length c3) ∧ w'.cell? ⟨gs, n * 6 + 3 + 2, none⟩ = some (.slice Q2 E.writes.length e2) ∧ Rd w' A3 (e.vers.flatMap encV) ∧ Rd w' Q2 (E.writes.flatMap encE) from ⟨(hst.new hb).cells.2.2.1, (hb.cell (p := ⟨gs, n * 6 + 5, none⟩) (by simp only; omega)).trans v5, (hst.new hb).own.vers.rd, rQ.rd.new hb⟩)
 clear hst9 hst v5 rQ hsa hsl r0 r1 r2 b9 hch
 go_wp2_with fail
 rw [← hW]
 clear hW q0 q1 q2 q3 q4 q5 z0 f1 f2 f3 f4 f5
 have hF : StBL [bV (.pointer (some ⟨g, 0, none⟩)), bV (.pointer (some ⟨g, 0, none⟩)), bV (.pointer (some ⟨g, 0, none⟩)), bV (.pointer (some ⟨g, 2, none⟩)), bV (.slice A3 e.vers.length c3), bV (.int .i64 (n : Int)), bV (.pointer (some ⟨gs, n * 6, none⟩)), bV (.pointer (some ⟨gs, n * 6, none⟩)), bV (.pointer (some ⟨gs, n * 6 + 3, none⟩)), bV (.pointer (some ⟨gs, n * 6 + 3 + 2, none⟩)), bV (.slice Q2 E.writes.length e2), (fun v w' => ∃ A c, v = .slice A (putW e.vers n E.writes).length c ∧ RdP (fun k => w.heap.size ≤ k) w' A ((putW e.vers n E.writes).flatMap encV))] :=
   ⟨sb_V _, sb_V _, sb_V _, sb_V _, sb_V _, sb_V _, sb_V _, sb_V _, sb_V _, sb_V _, sb_V _, fun _ _ _ hb ⟨A, c, h1, h2⟩ => ⟨A, c, h1, h2.keep (Kp.below hb)⟩, trivial⟩
 go_upto_region 10 with fail
 refine wp_region_loc (by kernel_rfl) [(0, some 60), (1, some 61), (2, some 62), (3, some 63), (4, some 64), (5, some 65), (6, some 66), (7, some 67), (8, some 68), (9, some 69), (10, some 70), (11, some 71)] [[], [], [(1, some 61)], [(2, some 62)], [(3, some 63)], [], [], [(6, some 66)], [(7, some 67)], [(8, some 68)], [(9, some 69)], [(4, some 64), (5, some 65), (10, some 70)]] (by kernel_rfl)
   (locB _) (fun a b => Below a.heap.size a b) noR [0, 0, 0, 0, 0, 0, 0, 0, 0, 0, 0, 0] 0 (by kernel_rfl) (fun _ => Below.refl _ _) (fun _ _ _ => bthen) (locB_st hF _) trivial ?_ ?_
 · refine steps_cons ?s0 ( steps_cons ?s1 ( steps_cons ?s2 ( steps_cons ?s3 ( steps_cons ?s4 ( steps_cons ?s5 ( steps_cons ?s6 ( steps_cons ?s7 ( steps_cons ?s8 ( steps_cons ?s9 ( steps_cons ?s10 ( steps_cons ?s11 steps_nil)))))))))))
   case s0 | s1 | s5 | s6 =>
     intro w' m' hE hR
     intro Q hQ
     go_wp2
     exact hQ _ _ _ rfl rfl (Below.refl _ _) trivial
   case s2 | s3 | s7 | s8 | s9 =>
     intro w' m' hE hR
     rintro _ rfl Q hQ
     go_wp2
     exact hQ _ _ _ rfl rfl (Below.refl _ _) trivial
   case s4 | s10 =>
     intro w' m' hE hR
     rintro _ rfl Q hQ
     have bb := below_undrew hE
     obtain ⟨u2, u5, s3, s2⟩ := unhide HY w' bb
     go_wp2
     exact hQ _ _ _ rfl rfl (Below.refl _ _) trivial
   case s11 =>
     intro w' m' hE hR
     rintro _ rfl _ rfl _ rfl Q hQ
     have bb := below_undrew hE
     obtain ⟨u2, u5, s3, s2⟩ := unhide HY w' bb
     have hsz := bb.size
     go_wp2_with fail
     refine (withWrites_impl A3 c3 e.vers (n : Int) Q2 e2 E.writes _ s3 (by omega) s2 (by omega) (unhide HSRT) (fun x hx => by have := unhide HBD x hx; omega) ⟨by omega, by omega⟩ (unhide HEOK)).mono ?_
     rintro x w5 ⟨A8, c8, rfl, o8, b5⟩
     go_wp2
     exact hQ _ _ _ rfl ⟨A8, c8, rfl, own_rdB o8 (by omega)⟩ b5 trivial
 intro w11 hE _
 rintro v0 hv0 v1 - v2 - v3 - v4 - v5 - v6 - v7 - v8 - v9 - v10 - v11 ⟨A8, c8, rfl, r8⟩
 obtain rfl : v0 = _ := hv0
 change wpList _ _ _ [_, _, _] _ _
 simp only [Act.put, List.setIfInBounds_toArray, List.set_cons_succ, List.set_cons_zero]
 have b11 := below_undrew hE
 clear hE hF
 have hst11 := (unhide HSTW).new b11
 obtain ⟨v0, v1, v2, v3, -⟩ := hst11.cells
 have fg : w11.frozen? ⟨g, 2, none⟩ = false := hst11.box.frozen 2
 have hg11 := hst11.lt
 go_wp2
 go_ret
 exact ⟨rfl, by rw [unhide HTN]; exact (hst11.vers (putW e.vers n E.writes) A8 c8 (rd_out r8 hgw hwB (gs_lt hgl))).v, (bW.trans (b11.mono (by omega))).trans (((Chg.refl (fun q => q = g) w11).setCell (.inl rfl) _).below (fun q hq e => by have := unhide HGB; omega) (by have := b11.size; omega))⟩
set_option maxRecDepth 100000 in
set_option maxHeartbeats 4000000 in
theorem step_out (e : Eng) (B g : Nat) (A1 : Option Addr) (c1 : Nat) (A2 : Option Addr) (c2 : Nat) (A3 : Option Addr) (c3 : Nat) (A4 : Option Addr) (c4 : Nat) (m : Int) (w : World) (h : EngSt B g w e A1 c1 A2 c2 A3 c3 A4 c4) (hok : EngOk e) (hm : inB m 0 ((e.slots.length : Int) - 1) = false) :
   Calls Tryz.prog 126 #[.pointer (some ⟨g, 0, none⟩), .int .i64 m] w fun x w' => x = .returned (.bool false) ∧ w' = w := by
 obtain ⟨y0, y1, y2, y3, -⟩ := h.cells
 have hn10 := hok.len10
 have hggl := h.lt
 clear h hok
 go_enter Tryz.func126, Tryz.ntmps126
 go_wp2_with (go_at_call 98; refine (in_any _ _ _ _).mono ?_; rintro x w' ⟨rfl, rfl⟩)
 go_ret
 exact ⟨rfl, rfl⟩
theorem step_impl (e : Eng) (B g : Nat) (m : Int) (w : World) (h : EngV B g w e) (hok : EngOk e) :
   Calls Tryz.prog 126 #[.pointer (some ⟨g, 0, none⟩), .int .i64 m] w fun x w' => x = .returned (.bool (stepE e m).2) ∧ EngV B g w' (stepE e m).1 ∧ Below B w w' := by
 obtain ⟨A1, c1, A2, c2, A3, c3, A4, c4, h⟩ := h
 have same : ∀ {a : Value}, ∀ (x : Ending) (w' : World), (x = .returned (.bool false) ∧ w' = w) → x = .returned (.bool (e, false).2) ∧ EngV B g w' (e, false).1 ∧ Below B w w' := fun x w' ⟨h1, h2⟩ => by subst h2; exact ⟨h1, h.v, Below.refl _ _⟩
 cases hm : inB m 0 ((e.slots.length : Int) - 1)
 · have hE : stepE e m = (e, false) := by unfold stepE; rw [if_neg (by simp [hm])]
   rw [hE]
   exact (step_out e B g A1 c1 A2 c2 A3 c3 A4 c4 m w h hok hm).mono (same (a := .bool true))
 · have hb := inB_true.1 hm
   obtain ⟨n, rfl⟩ := Int.eq_ofNat_of_zero_le hb.1
   have hn : n < e.slots.length := by omega
   have hE : stepE e (n : Int) = stepN e n := by unfold stepE; rw [if_pos hm]; rfl
   rw [hE]
   unfold stepN
   split
   · rename_i h0
     split
     · rename_i ht
       exact (step_full e B g A1 c1 A2 c2 A3 c3 A4 c4 n w h hok hn h0 ht).mono (same (a := .bool true))
     · rename_i ht
       exact (step_try e B g A1 c1 A2 c2 A3 c3 A4 c4 n w h hok hn h0 ht).mono fun _ _ h => h
   · rename_i h0
     split
     · rename_i h1
       split
       · rename_i h2
         exact (step_wait e B g A1 c1 A2 c2 A3 c3 A4 c4 n w h hok hn h1 h2.1 h2.2).mono (same (a := .bool true))
       · rename_i h2
         by_cases hz : n = 0
         · split
           · rename_i hc
             exact (step_chk0 e B g A1 c1 A2 c2 A3 c3 A4 c4 n w h hok hn h1 hz hc).mono fun _ _ h => h
           · rename_i hc
             exact (step_new0 e B g A1 c1 A2 c2 A3 c3 A4 c4 n w h hok hn h1 hz (by simpa using hc)).mono fun _ _ h => h
         · have h3 : (slAt e (n - 1)).stage = 2 := by
             by_cases g2 : (slAt e (n - 1)).stage = 2
             · exact g2
             · exact absurd ⟨by omega, g2⟩ h2
           split
           · rename_i hc
             exact (step_chk e B g A1 c1 A2 c2 A3 c3 A4 c4 n w h hok hn h1 (by omega) h3 hc).mono fun _ _ h => h
           · rename_i hc
             exact (step_new e B g A1 c1 A2 c2 A3 c3 A4 c4 n w h hok hn h1 (by omega) h3 (by simpa using hc)).mono fun _ _ h => h
     · rename_i h1
       have h2 : (slAt e n).stage = 2 := by
         rcases hok.slot n hn with hs | hs
         · exact absurd hs.1 h0
         · rcases hs.1 with g1 | g1
           · exact absurd g1 h1
           · exact g1
       exact (step_done e B g A1 c1 A2 c2 A3 c3 A4 c4 n w h hok hn h2).mono (same (a := .bool true))
end Go.Proofs.YtihlhejencninaaGreat
