/- Ends of engines, of the program: tries, done, the store that remains (printed by gen_in.py from xengt.in). -/
import Derived.Test.YtihlhejencninaaGreatEngV
import Derived.Test.YtihlhejencninaaGreatGact
namespace Go.Proofs.YtihlhejencninaaGreat
open Go.RowKit
set_option linter.unusedVariables false
set_option linter.unusedSimpArgs false

def trsN (e : Eng) (k : Nat) : Int := ((e.slots.take k).map (·.tries)).sum
theorem trsN_all (e : Eng) : trsN e e.slots.length = trsF e := by unfold trsN trsF; rw [List.take_length]
theorem trsN_succ (e : Eng) {k : Nat} (hk : k < e.slots.length) : trsN e (k + 1) = trsN e k + (slAt e k).tries := by
 unfold trsN
 rw [List.take_succ_eq_append_getElem hk, List.map_append, List.sum_append, slAt_get e hk]
 simp
theorem slt_tries {a : Act} {n : Nat} {s : Slt} (h : sltOk a n s) : 0 ≤ s.tries ∧ s.tries ≤ 1000 := by
 rcases h with h | h
 · exact h.2.1
 · have := h.2.1; omega
theorem trsN_bd {e : Eng} (h : EngOk e) : ∀ k, k ≤ e.slots.length → 0 ≤ trsN e k ∧ trsN e k ≤ 1000 * k
 | 0, _ => by simp [trsN]
 | k + 1, hk => by
   have h1 := trsN_bd h k (by omega)
   have h2 := slt_tries (h.slot k (by omega))
   rw [trsN_succ e (by omega)]
   omega
set_option maxRecDepth 100000 in
set_option maxHeartbeats 4000000 in
theorem tries_impl (e : Eng) (A1 : Option Addr) (c1 : Nat) (A2 : Option Addr) (c2 : Nat) (A3 : Option Addr) (c3 : Nat) (A4 : Option Addr) (c4 : Nat) (w : World) (h : RdD sltR (fun _ => True) w A4 e.slots) (hok : EngOk e) :
   Calls Tryz.prog 76 #[.agg (engA e A1 c1 A2 c2 A3 c3 A4 c4)] w fun x w' => x = .returned (.int .i64 (trsF e)) ∧ Below w.heap.size w w' := by
 have hn10 := hok.len10
 have HBD := hide (trsN_bd hok)
 have HR := hide (fun w' (hb : Below w.heap.size w w') => h.new slt_good hb)
 have HA := hide (trsN_all e)
 clear h hok
 simp only [engA]
 go_enter Tryz.func76, Tryz.ntmps76
 go_wp2
 go_loopw [3, 9] (fun t i wr => ∃ (k : Nat), k ≤ e.slots.length ∧ i = .int .i64 k ∧ t = .int .i64 (trsN e k) ∧ Below w.heap.size w wr) (fun _ i _ => e.slots.length - (intOf i).toNat)
 case atStart => exact ⟨0, Nat.zero_le _, rfl, rfl, (Below.refl _ _).alloc (Nat.le_refl _) _⟩
 case round =>
   obtain ⟨k, hk, rfl, rfl, hB⟩ := hrel
   have hbd := unhide HBD k hk
   by_cases hlt : k < e.slots.length
   · have i1 : (k : Int) < (e.slots.length : Int) := by omega
     have hbd2 := unhide HBD (k + 1) hlt
     obtain ⟨b, off, P0, d0, P1, d1, P2, d2, hA4, -, hbb, ⟨q0, q1, q2, q3, q4, q5⟩, r0, r1, r2⟩ := (unhide HR wr hB).slt hlt
     have HT := hide (trsN_succ e hlt)
     rw [trsN_succ e hlt] at hbd2
     rw [← slAt_get e hlt] at q0 q1 q2 q3 q4 q5
     clear r0 r1 r2
     generalize slAt e k = s at *
     generalize trsN e k = t at *
     have HA4 := hide hA4
     clear hA4
     rw [unhide HA4]
     go_wp2
     go_roundw
     case rel => exact ⟨k + 1, by omega, by go_num, by rw [unhide HT], hB.alloc hB.size _⟩
     case measure => simp [intOf]; omega
   · obtain rfl : k = e.slots.length := by omega
     rw [unhide HA]
     go_wp2
     go_ret
     exact ⟨rfl, hB⟩
theorem done_closure (a t : Int) (P0 : Option Addr) (n0 d0 : Nat) (b : Bool) (P1 : Option Addr) (n1 d1 : Nat) (P2 : Option Addr) (n2 d2 : Nat) (w : World) (h : a = 2) :
   Calls Tryz.prog 190 #[.agg #[.int .i64 a, .int .i64 t, .slice P0 n0 d0, .bool b, .slice P1 n1 d1, .slice P2 n2 d2]] w fun x w' => x = .returned (.bool false) ∧ Below w.heap.size w w' := by
 subst h
 go_enter Tryz.func190, Tryz.ntmps190
 go_wp2
 go_ret
 exact ⟨rfl, (Below.refl _ _).alloc (Nat.le_refl _) _⟩
set_option maxRecDepth 100000 in
set_option maxHeartbeats 1000000 in
theorem indexSlot_none (A : Option Addr) (c : Nat) (xs : List Slt) (w : World) (h : RdD sltR (fun _ => True) w A xs) (hall : ∀ x ∈ xs, x.stage = 2) (hb : xs.length ≤ 4611686018427387904) :
   Calls Tryz.prog 197 #[.slice A xs.length c, .func (.func 190) #[] #[]] w fun e w' => e = .returned (.int .i64 (-1)) ∧ Below w.heap.size w w' := by
 have HALL := hide hall
 have hF := Tryz.call190
 clear hall
 go_enter Tryz.func197, Tryz.ntmps197
 go_wp2
 go_loopw [5, 8] (fun _ i wr => ∃ k : Nat, k ≤ xs.length ∧ i = .int .i64 k ∧ Below w.heap.size w wr) (fun _ i _ => xs.length - (intOf i).toNat)
 case atStart => exact ⟨0, Nat.zero_le _, rfl, Below.refl _ _⟩
 case round =>
   obtain ⟨k, hk, rfl, hB⟩ := hrel
   by_cases hlt : k < xs.length
   · have i1 : (k : Int) < (xs.length : Int) := by omega
     obtain ⟨b, off, P0, d0, P1, d1, P2, d2, hA4, -, hbb, ⟨q0, q1, q2, q3, q4, q5⟩, r0, r1, r2⟩ := (h.new slt_good hB).slt hlt
     have hst := unhide HALL xs[k] (List.getElem_mem hlt)
     clear r0 r1 r2
     generalize xs[k] = s at *
     have HA4 := hide hA4
     have HST := hide hst
     clear hA4 hst
     rw [unhide HA4]
     go_wp2_with fail
     refine (done_closure _ _ _ _ _ _ _ _ _ _ _ _ _ (unhide HST)).mono ?_
     rintro e w' ⟨rfl, b1⟩
     go_wp2
     go_roundw
     case rel => exact ⟨k + 1, by omega, by go_num, bthen hB b1⟩
     case measure => simp [intOf]; omega
   · go_wp2
     go_ret
     exact ⟨rfl, hB⟩
theorem containsSlot_no (A : Option Addr) (c : Nat) (xs : List Slt) (w : World) (h : RdD sltR (fun _ => True) w A xs) (hall : ∀ x ∈ xs, x.stage = 2) (hb : xs.length ≤ 4611686018427387904) :
   Calls Tryz.prog 189 #[.slice A xs.length c, .func (.func 190) #[] #[]] w fun e w' => e = .returned (.bool false) ∧ Below w.heap.size w w' := by
 have HALL := hide hall
 clear hall
 go_enter Tryz.func189, Tryz.ntmps189
 go_wp2_with fail
 refine (indexSlot_none A c xs w h (unhide HALL) hb).mono ?_
 rintro e w' ⟨rfl, b1⟩
 go_wp2
 go_ret
 exact ⟨rfl, b1⟩
theorem done_impl (e : Eng) (A1 : Option Addr) (c1 : Nat) (A2 : Option Addr) (c2 : Nat) (A3 : Option Addr) (c3 : Nat) (A4 : Option Addr) (c4 : Nat) (w : World) (h : RdD sltR (fun _ => True) w A4 e.slots) (hall : ∀ x ∈ e.slots, x.stage = 2) (hb : e.slots.length ≤ 4611686018427387904) :
   Calls Tryz.prog 170 #[.agg (engA e A1 c1 A2 c2 A3 c3 A4 c4)] w fun x w' => x = .returned (.bool true) ∧ Below w.heap.size w w' := by
 have HALL := hide hall
 have hb0 : Below w.heap.size w (w.alloc (.cells (engA e A1 c1 A2 c2 A3 c3 A4 c4) 96)) := (Below.refl _ _).alloc (Nat.le_refl _) _
 have KC := containsSlot_no A4 c4 e.slots _ (h.new slt_good hb0) (unhide HALL) hb
 clear hall
 simp only [engA] at hb0 KC ⊢
 go_enter Tryz.func170, Tryz.ntmps170
 go_wp2_with fail
 refine KC.mono ?_
 rintro x w' ⟨rfl, b1⟩
 go_wp2
 go_ret
 exact ⟨rfl, bthen hb0 b1⟩
set_option maxHeartbeats 1000000 in
theorem engineDone_impl (e : Eng) (A1 : Option Addr) (c1 : Nat) (A2 : Option Addr) (c2 : Nat) (A3 : Option Addr) (c3 : Nat) (A4 : Option Addr) (c4 : Nat) (w : World) (h : EngRd w e A1 A2 A3 A4) (hok : EngOk e) (hall : ∀ x ∈ e.slots, x.stage = 2) :
   Calls Tryz.prog 127 #[.agg (engA e A1 c1 A2 c2 A3 c3 A4 c4)] w fun x w' => x = .returned (.bool true) ∧ Below w.heap.size w w' := by
 have HALL := hide hall
 have hn10 := hok.len10
 have hb0 : Below w.heap.size w (w.alloc (.cells (engA e A1 c1 A2 c2 A3 c3 A4 c4) 96)) := (Below.refl _ _).alloc (Nat.le_refl _) _
 have k0 : Blk (w.alloc (.cells (engA e A1 c1 A2 c2 A3 c3 A4 c4) 96)) w.heap.size 96 (engA e A1 c1 A2 c2 A3 c3 A4 c4) := Blk.new _ _ _
 have KV := engineValid_impl e A1 c1 A2 c2 A3 c3 A4 c4 _ (h.new hb0) hok
 have HD := hide (fun (w' : World) (hb : Below w.heap.size w w') => done_impl e A1 c1 A2 c2 A3 c3 A4 c4 w' (h.slots.new slt_good hb) (unhide HALL) (by omega))
 have HK := hide (fun (w' : World) (hb : Below (w.alloc (.cells (engA e A1 c1 A2 c2 A3 c3 A4 c4) 96)).heap.size (w.alloc (.cells (engA e A1 c1 A2 c2 A3 c3 A4 c4) 96)) w') => k0.new_ hb)
 clear hall h hok k0
 obtain ⟨W, hW⟩ : ∃ W : World, W = w.alloc (.cells (engA e A1 c1 A2 c2 A3 c3 A4 c4) 96) := ⟨_, rfl⟩
 rw [← hW] at hb0 KV HK
 simp only [engA] at hW KV HD HK ⊢
 go_enter Tryz.func127, Tryz.ntmps127
 go_wp2_with fail
 rw [← hW]
 refine KV.mono ?_
 rintro x w3 ⟨rfl, b3⟩
 have k3 := unhide HK w3 b3
 have y0 : w3.cell? ⟨w.heap.size, 0, none⟩ = some (.slice A1 e.base.length c1) := k3.cell 0
 have y1 : w3.cell? ⟨w.heap.size, 1, none⟩ = some (.slice A2 e.list.length c2) := k3.cell 1
 have y2 : w3.cell? ⟨w.heap.size, 2, none⟩ = some (.slice A3 e.vers.length c3) := k3.cell 2
 have y3 : w3.cell? ⟨w.heap.size, 3, none⟩ = some (.slice A4 e.slots.length c4) := k3.cell 3
 go_wp2_with fail
 refine (unhide HD w3 (bthen hb0 b3)).mono ?_
 rintro x w4 ⟨rfl, b4⟩
 go_wp2
 go_ret
 exact ⟨rfl, bthen hb0 (bthen b3 b4)⟩
end Go.Proofs.YtihlhejencninaaGreat
