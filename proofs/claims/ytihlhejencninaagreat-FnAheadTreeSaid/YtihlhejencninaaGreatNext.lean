/- The next block, of the reference (printed by gen_in.py from xnext.in). -/
import Derived.Test.YtihlhejencninaaGreatEffSum
import Derived.Test.YtihlhejencninaaGreatCopyE
import Derived.Test.YtihlhejencninaaGreatGeff
import Derived.Test.YtihlhejencninaaGreatCopyF
import Derived.Test.YtihlhejencninaaGreatRunSer
namespace Go.Proofs.YtihlhejencninaaGreat
open Go.RowKit
set_option linter.unusedVariables false
set_option linter.unusedSimpArgs false

def nextOk (b : Bk) (s : List Ent) (view : Int) (al : List Act) : Bool := blkB b && (!(b.height == 100) && (storeB s && (inB view (b.view + 1) 1000 && actsB al)))
def nextB (b : Bk) (s : List Ent) (view : Int) (al : List Act) : Bk := if nextOk b s view al = true then ⟨bsum b, b.height + 1, view, al, rootL (serialS s al), effsSum (serialE s al)⟩ else ⟨0, 0, 0, [], 0, 0⟩
theorem nextB_no {b : Bk} {s : List Ent} {view : Int} {al : List Act} (h : nextOk b s view al = false) : nextB b s view al = ⟨0, 0, 0, [], 0, 0⟩ := by rw [nextB, if_neg (by simp [h])]
theorem nextB_yes {b : Bk} {s : List Ent} {view : Int} {al : List Act} (h : nextOk b s view al = true) : nextB b s view al = ⟨bsum b, b.height + 1, view, al, rootL (serialS s al), effsSum (serialE s al)⟩ := by rw [nextB, if_pos h]
def aOwn (B : Nat) (al : List Act) (v : Value) (w : World) : Prop := ∃ A c, v = .slice A al.length c ∧ w.ownsRow B 56 4 (.slice A al.length c) al.length (al.flatMap encA)
theorem sb_aOwn (B : Nat) (al : List Act) : StB (aOwn B al) := fun _ _ _ hb ⟨A, c, h1, h2⟩ => ⟨A, c, h1, own_new h2 hb⟩
set_option maxRecDepth 100000 in
set_option maxHeartbeats 8000000 in
theorem next_spec (b : Bk) (A : Option Addr) (c : Nat) (S : Option Addr) (cs : Nat) (s : List Ent) (view : Int) (L : Option Addr) (cl : Nat) (al : List Act) (w : World) (h : Rd w A (b.list.flatMap encA)) (hs : Rd w S (s.flatMap encE)) (hl : Rd w L (al.flatMap encA)) (hb1 : b.list.length ≤ 1099511627776) (hb2 : s.length ≤ 1099511627776) (hb3 : al.length ≤ 1099511627776) :
   Calls Tryz.prog 103 #[.agg #[.int .i64 b.before, .int .i64 b.height, .int .i64 b.view, .slice A b.list.length c, .int .i64 b.root, .int .i64 b.eff], .slice S s.length cs, .int .i64 view, .slice L al.length cl] w fun e w' => ∃ B d, e = .returned (.tuple #[.agg #[.int .i64 (nextB b s view al).before, .int .i64 (nextB b s view al).height, .int .i64 (nextB b s view al).view, .slice B (nextB b s view al).list.length d, .int .i64 (nextB b s view al).root, .int .i64 (nextB b s view al).eff], .bool (nextOk b s view al)]) ∧ w'.ownsRow w.heap.size 56 4 (.slice B (nextB b s view al).list.length d) (nextB b s view al).list.length ((nextB b s view al).list.flatMap encA) ∧ Below w.heap.size w w' := by
 have HSL := hide (fun w' (hb : Below w.heap.size w w') => show Rd w' A (b.list.flatMap encA) ∧ Rd w' S (s.flatMap encE) ∧ Rd w' L (al.flatMap encA) from ⟨h.new hb, hs.new hb, hl.new hb⟩)
 have k0 : Blk ((w.alloc (.cells #[.int .i64 b.before, .int .i64 b.height, .int .i64 b.view, .slice A b.list.length c, .int .i64 b.root, .int .i64 b.eff] 32)).alloc (.cells #[.int .i64 0, .int .i64 0, .int .i64 0, .slice none 0 0, .int .i64 0, .int .i64 0] 32)) w.heap.size 32 #[.int .i64 b.before, .int .i64 b.height, .int .i64 b.view, .slice A b.list.length c, .int .i64 b.root, .int .i64 b.eff] := (Blk.new _ _ _).alloc _
 have kr : Blk ((w.alloc (.cells #[.int .i64 b.before, .int .i64 b.height, .int .i64 b.view, .slice A b.list.length c, .int .i64 b.root, .int .i64 b.eff] 32)).alloc (.cells #[.int .i64 0, .int .i64 0, .int .i64 0, .slice none 0 0, .int .i64 0, .int .i64 0] 32)) (w.heap.size + 1) 32 #[.int .i64 0, .int .i64 0, .int .i64 0, .slice none 0 0, .int .i64 0, .int .i64 0] := by
   have := Blk.new (w.alloc (.cells #[.int .i64 b.before, .int .i64 b.height, .int .i64 b.view, .slice A b.list.length c, .int .i64 b.root, .int .i64 b.eff] 32)) 32 #[.int .i64 0, .int .i64 0, .int .i64 0, .slice none 0 0, .int .i64 0, .int .i64 0]
   simpa using this
 have hb0 : Below w.heap.size w ((w.alloc (.cells #[.int .i64 b.before, .int .i64 b.height, .int .i64 b.view, .slice A b.list.length c, .int .i64 b.root, .int .i64 b.eff] 32)).alloc (.cells #[.int .i64 0, .int .i64 0, .int .i64 0, .slice none 0 0, .int .i64 0, .int .i64 0] 32)) := ((Below.refl _ _).alloc (Nat.le_refl _) _).alloc (by simp) _
 have hz0 := kr.lt
 have x0 : ((w.alloc (.cells #[.int .i64 b.before, .int .i64 b.height, .int .i64 b.view, .slice A b.list.length c, .int .i64 b.root, .int .i64 b.eff] 32)).alloc (.cells #[.int .i64 0, .int .i64 0, .int .i64 0, .slice none 0 0, .int .i64 0, .int .i64 0] 32)).cell? ⟨w.heap.size, 0, none⟩ = some (.int .i64 b.before) := k0.cell 0
 have x1 : ((w.alloc (.cells #[.int .i64 b.before, .int .i64 b.height, .int .i64 b.view, .slice A b.list.length c, .int .i64 b.root, .int .i64 b.eff] 32)).alloc (.cells #[.int .i64 0, .int .i64 0, .int .i64 0, .slice none 0 0, .int .i64 0, .int .i64 0] 32)).cell? ⟨w.heap.size, 1, none⟩ = some (.int .i64 b.height) := k0.cell 1
 have x2 : ((w.alloc (.cells #[.int .i64 b.before, .int .i64 b.height, .int .i64 b.view, .slice A b.list.length c, .int .i64 b.root, .int .i64 b.eff] 32)).alloc (.cells #[.int .i64 0, .int .i64 0, .int .i64 0, .slice none 0 0, .int .i64 0, .int .i64 0] 32)).cell? ⟨w.heap.size, 2, none⟩ = some (.int .i64 b.view) := k0.cell 2
 have x3 : ((w.alloc (.cells #[.int .i64 b.before, .int .i64 b.height, .int .i64 b.view, .slice A b.list.length c, .int .i64 b.root, .int .i64 b.eff] 32)).alloc (.cells #[.int .i64 0, .int .i64 0, .int .i64 0, .slice none 0 0, .int .i64 0, .int .i64 0] 32)).cell? ⟨w.heap.size, 3, none⟩ = some (.slice A b.list.length c) := k0.cell 3
 have x4 : ((w.alloc (.cells #[.int .i64 b.before, .int .i64 b.height, .int .i64 b.view, .slice A b.list.length c, .int .i64 b.root, .int .i64 b.eff] 32)).alloc (.cells #[.int .i64 0, .int .i64 0, .int .i64 0, .slice none 0 0, .int .i64 0, .int .i64 0] 32)).cell? ⟨w.heap.size, 4, none⟩ = some (.int .i64 b.root) := k0.cell 4
 have x5 : ((w.alloc (.cells #[.int .i64 b.before, .int .i64 b.height, .int .i64 b.view, .slice A b.list.length c, .int .i64 b.root, .int .i64 b.eff] 32)).alloc (.cells #[.int .i64 0, .int .i64 0, .int .i64 0, .slice none 0 0, .int .i64 0, .int .i64 0] 32)).cell? ⟨w.heap.size, 5, none⟩ = some (.int .i64 b.eff) := k0.cell 5
 clear h hs hl
 go_enter Tryz.func103, Tryz.ntmps103
 go_wp2_with fail
 refine (blockValid_spec b A c _ (unhide HSL _ hb0).1 (by omega)).mono ?_
 rintro e w1 ⟨rfl, b1⟩
 replace k0 := k0.new_ b1
 replace kr := kr.new_ b1
 replace hz0 := kr.lt
 replace hb0 := bthen hb0 b1
 clear b1 x0 x1 x2 x3 x4 x5
 have x1 : w1.cell? ⟨w.heap.size, 1, none⟩ = some (.int .i64 b.height) := k0.cell 1
 have x2 : w1.cell? ⟨w.heap.size, 2, none⟩ = some (.int .i64 b.view) := k0.cell 2
 cases hv : blkB b
 · have HF := hide (show nextOk b s view al = false by simp [nextOk, hv])
   have HA := hide (nextB_no (unhide HF))
   go_wp2_with (refine wpList_store_row rfl 32 (.tmp 8) (.tmp 38) rfl (w.heap.size + 1) #[.int .i64 0, .int .i64 0, .int .i64 0, .slice none 0 0, .int .i64 0, .int .i64 0] rfl rfl 32 #[.int .i64 0, .int .i64 0, .int .i64 0, .slice none 0 0, .int .i64 0, .int .i64 0] kr info_bkS rfl (bk6_one _ _ _ _ _ _ _ _) ?_)
   refine bodyPost_ret (v := .tuple #[.agg #[.int .i64 0, .int .i64 0, .int .i64 0, .slice none 0 0, .int .i64 0, .int .i64 0], .bool false]) (results_cell_tmp (p := 8) (q := 9) (ty := 32) rfl _ _ (w.heap.size + 1) 32 #[.int .i64 0, .int .i64 0, .int .i64 0, .slice none 0 0, .int .i64 0, .int .i64 0] (0, 0) _ rfl (blk_setRow kr) Tryz.underlying32 rfl info_bkS) rfl ?_
   rw [unhide HA, unhide HF]
   exact ⟨none, 0, rfl, own_nil _ _ _ _, below_setRow hb0 (by omega) _⟩
 by_cases hh : b.height = 100
 · have HF := hide (show nextOk b s view al = false by simp [nextOk, hh])
   have hh2 : (b.height == 100) = true := by simpa using hh
   clear hh hv
   have HA := hide (nextB_no (unhide HF))
   go_wp2_with (refine wpList_store_row rfl 32 (.tmp 8) (.tmp 38) rfl (w.heap.size + 1) #[.int .i64 0, .int .i64 0, .int .i64 0, .slice none 0 0, .int .i64 0, .int .i64 0] rfl rfl 32 #[.int .i64 0, .int .i64 0, .int .i64 0, .slice none 0 0, .int .i64 0, .int .i64 0] kr info_bkS rfl (bk6_one _ _ _ _ _ _ _ _) ?_)
   refine bodyPost_ret (v := .tuple #[.agg #[.int .i64 0, .int .i64 0, .int .i64 0, .slice none 0 0, .int .i64 0, .int .i64 0], .bool false]) (results_cell_tmp (p := 8) (q := 9) (ty := 32) rfl _ _ (w.heap.size + 1) 32 #[.int .i64 0, .int .i64 0, .int .i64 0, .slice none 0 0, .int .i64 0, .int .i64 0] (0, 0) _ rfl (blk_setRow kr) Tryz.underlying32 rfl info_bkS) rfl ?_
   rw [unhide HA, unhide HF]
   exact ⟨none, 0, rfl, own_nil _ _ _ _, below_setRow hb0 (by omega) _⟩
 have hh2 : (b.height == 100) = false := by simpa using hh
 have hhb : 0 ≤ b.height ∧ b.height ≤ 100 := by
   have hv2 := hv
   unfold blkB at hv2
   simp only [Bool.and_eq_true] at hv2
   exact inB_true.1 hv2.2.2.2.1
 have hvb : 0 ≤ b.view ∧ b.view ≤ 1000 := by
   have hv2 := hv
   unfold blkB at hv2
   simp only [Bool.and_eq_true] at hv2
   exact inB_true.1 hv2.2.2.2.2.1
 have HV := hide hv
 clear hv hh
 go_wp2_with fail
 refine (storeB_store_spec S cs s w1 (unhide HSL _ hb0).2.1 (by omega)).mono ?_
 rintro e w2 ⟨rfl, m, hm⟩
 have b2 := below_of_drewN hm
 clear hm x1 x2
 replace k0 := k0.new_ b2
 replace kr := kr.new_ b2
 replace hz0 := kr.lt
 replace hb0 := bthen hb0 b2
 clear b2
 have x2 : w2.cell? ⟨w.heap.size, 2, none⟩ = some (.int .i64 b.view) := k0.cell 2
 cases hst : storeB s
 · have HF := hide (show nextOk b s view al = false by simp [nextOk, hst])
   have HA := hide (nextB_no (unhide HF))
   go_wp2_with (refine wpList_store_row rfl 32 (.tmp 8) (.tmp 38) rfl (w.heap.size + 1) #[.int .i64 0, .int .i64 0, .int .i64 0, .slice none 0 0, .int .i64 0, .int .i64 0] rfl rfl 32 #[.int .i64 0, .int .i64 0, .int .i64 0, .slice none 0 0, .int .i64 0, .int .i64 0] kr info_bkS rfl (bk6_one _ _ _ _ _ _ _ _) ?_)
   refine bodyPost_ret (v := .tuple #[.agg #[.int .i64 0, .int .i64 0, .int .i64 0, .slice none 0 0, .int .i64 0, .int .i64 0], .bool false]) (results_cell_tmp (p := 8) (q := 9) (ty := 32) rfl _ _ (w.heap.size + 1) 32 #[.int .i64 0, .int .i64 0, .int .i64 0, .slice none 0 0, .int .i64 0, .int .i64 0] (0, 0) _ rfl (blk_setRow kr) Tryz.underlying32 rfl info_bkS) rfl ?_
   rw [unhide HA, unhide HF]
   exact ⟨none, 0, rfl, own_nil _ _ _ _, below_setRow hb0 (by omega) _⟩
 have HST := hide hst
 clear hst
 cases hin : inB view (b.view + 1) 1000
 · have HF := hide (show nextOk b s view al = false by simp [nextOk, hin])
   have HA := hide (nextB_no (unhide HF))
   go_wp2_with (first | (go_at_call 93; refine (l1In_any _ _ _ _).mono ?_; rintro e w' ⟨rfl, rfl⟩; rw [hin]) | (refine wpList_store_row rfl 32 (.tmp 8) (.tmp 38) rfl (w.heap.size + 1) #[.int .i64 0, .int .i64 0, .int .i64 0, .slice none 0 0, .int .i64 0, .int .i64 0] rfl rfl 32 #[.int .i64 0, .int .i64 0, .int .i64 0, .slice none 0 0, .int .i64 0, .int .i64 0] kr info_bkS rfl (bk6_one _ _ _ _ _ _ _ _) ?_))
   refine bodyPost_ret (v := .tuple #[.agg #[.int .i64 0, .int .i64 0, .int .i64 0, .slice none 0 0, .int .i64 0, .int .i64 0], .bool false]) (results_cell_tmp (p := 8) (q := 9) (ty := 32) rfl _ _ (w.heap.size + 1) 32 #[.int .i64 0, .int .i64 0, .int .i64 0, .slice none 0 0, .int .i64 0, .int .i64 0] (0, 0) _ rfl (blk_setRow kr) Tryz.underlying32 rfl info_bkS) rfl ?_
   rw [unhide HA, unhide HF]
   exact ⟨none, 0, rfl, own_nil _ _ _ _, below_setRow hb0 (by omega) _⟩
 have HIN := hide hin
 go_wp2_with (go_at_call 93; refine (l1In_any _ _ _ _).mono ?_; rintro e w' ⟨rfl, rfl⟩; rw [hin])
 clear hin x2
 refine (actionsValid_spec L cl al w2 (unhide HSL _ hb0).2.2 (by omega)).mono ?_
 rintro e w3 ⟨rfl, b3⟩
 replace k0 := k0.new_ b3
 replace kr := kr.new_ b3
 replace hz0 := kr.lt
 replace hb0 := bthen hb0 b3
 clear b3
 cases hac : actsB al
 · have HF := hide (show nextOk b s view al = false by simp [nextOk, hac])
   have HA := hide (nextB_no (unhide HF))
   go_wp2_with (refine wpList_store_row rfl 32 (.tmp 8) (.tmp 38) rfl (w.heap.size + 1) #[.int .i64 0, .int .i64 0, .int .i64 0, .slice none 0 0, .int .i64 0, .int .i64 0] rfl rfl 32 #[.int .i64 0, .int .i64 0, .int .i64 0, .slice none 0 0, .int .i64 0, .int .i64 0] kr info_bkS rfl (bk6_one _ _ _ _ _ _ _ _) ?_)
   refine bodyPost_ret (v := .tuple #[.agg #[.int .i64 0, .int .i64 0, .int .i64 0, .slice none 0 0, .int .i64 0, .int .i64 0], .bool false]) (results_cell_tmp (p := 8) (q := 9) (ty := 32) rfl _ _ (w.heap.size + 1) 32 #[.int .i64 0, .int .i64 0, .int .i64 0, .slice none 0 0, .int .i64 0, .int .i64 0] (0, 0) _ rfl (blk_setRow kr) Tryz.underlying32 rfl info_bkS) rfl ?_
   rw [unhide HA, unhide HF]
   exact ⟨none, 0, rfl, own_nil _ _ _ _, below_setRow hb0 (by omega) _⟩
 have HF := hide (show nextOk b s view al = true by rw [nextOk, unhide HV, hh2, unhide HST, unhide HIN, hac]; rfl)
 have HA := hide (nextB_yes (unhide HF))
 clear hac
 go_wp2_with fail
 refine (runSerial_own S cs s L cl al w3 (unhide HSL _ hb0).2.1 (by omega) (unhide HSL _ hb0).2.2 (by omega)).mono ?_
 rintro e w4 ⟨A4, c4, A5, c5, fp, rfl, o4, o5, -, b4⟩
 replace k0 := k0.new_ b4
 replace kr := kr.new_ b4
 replace hz0 := kr.lt
 replace hb0 := bthen hb0 b4
 clear b4
 have hsl := serialS_len s al
 have hel := serialE_len s al
 have HES := hide (fun x hx => by have := serialE_small s al x hx; omega : ∀ x ∈ serialE s al, x.reads.length ≤ 1000000 ∧ x.writes.length ≤ 1000000)
 have HX := hide (fun (w' : World) (hb : Below w4.heap.size w4 w') => show (w'.cell? ⟨w.heap.size, 0, none⟩ = some (.int .i64 b.before) ∧ w'.cell? ⟨w.heap.size, 1, none⟩ = some (.int .i64 b.height) ∧ w'.cell? ⟨w.heap.size, 2, none⟩ = some (.int .i64 b.view) ∧ w'.cell? ⟨w.heap.size, 3, none⟩ = some (.slice A b.list.length c) ∧ w'.cell? ⟨w.heap.size, 4, none⟩ = some (.int .i64 b.root) ∧ w'.cell? ⟨w.heap.size, 5, none⟩ = some (.int .i64 b.eff)) ∧ (Rd w' A (b.list.flatMap encA) ∧ Rd w' S (s.flatMap encE) ∧ Rd w' L (al.flatMap encA)) ∧ Rd w' A4 ((serialS s al).flatMap encE) ∧ RdD effR (fun _ => True) w' A5 (serialE s al) from ⟨⟨(k0.new_ hb).cell 0, (k0.new_ hb).cell 1, (k0.new_ hb).cell 2, (k0.new_ hb).cell 3, (k0.new_ hb).cell 4, (k0.new_ hb).cell 5⟩, unhide HSL w' (bthen hb0 hb), (own_rd o4).new hb, ((o5.new effO_good hb).rd effO_good eff_good fun _ _ => trivial)⟩)
 clear o4 o5
 go_wp2
 have hF : StBL [bV (.agg #[.int .i64 b.before, .int .i64 b.height, .int .i64 b.view, .slice A b.list.length c, .int .i64 b.root, .int .i64 b.eff]), bV (.int .i64 (bsum b)), bV (.pointer (some ⟨w.heap.size, 1, none⟩)), bV (.int .i64 b.height), bV (.int .i64 (b.height + 1)), bV (.int .i64 view), eOwn 56 4 w4.heap.size, bV (.slice L al.length cl), aOwn w4.heap.size al, bV (.slice A4 (serialS s al).length c4), bV (.int .i64 (rootL (serialS s al))), bV (.slice A5 (serialE s al).length c5), bV (.int .i64 (effsSum (serialE s al)))] :=
   ⟨sb_V _, sb_V _, sb_V _, sb_V _, sb_V _, sb_V _, sb_eOwn _ _ _, sb_V _, sb_aOwn _ _, sb_V _, sb_V _, sb_V _, sb_V _, trivial⟩
 go_upto_region 4 with fail
 refine wp_region_loc (by kernel_rfl) [(0, some 45), (1, some 46), (2, some 47), (3, some 48), (4, some 49), (5, some 50), (6, some 51), (7, some 52), (8, some 53), (9, some 54), (10, some 55), (11, some 56), (12, some 57)] [[], [(0, some 45)], [], [(2, some 47)], [(3, some 48)], [], [], [], [(6, some 51), (7, some 52)], [], [(9, some 54)], [], [(11, some 56)]] (by kernel_rfl)
   (locB _) (fun a b => Below a.heap.size a b) noR [0, 0, 0, 0, 0, 0, 0, 0, 0, 0, 0, 0, 0] 0 (by kernel_rfl) (fun _ => Below.refl _ _) (fun _ _ _ => bthen) (locB_st hF _) trivial ?_ ?_
 · refine steps_cons ?s0 ( steps_cons ?s1 ( steps_cons ?s2 ( steps_cons ?s3 ( steps_cons ?s4 ( steps_cons ?s5 ( steps_cons ?s6 ( steps_cons ?s7 ( steps_cons ?s8 ( steps_cons ?s9 ( steps_cons ?s10 ( steps_cons ?s11 ( steps_cons ?s12 steps_nil))))))))))))
   case s0 =>
     intro w' m' hE hR
     intro Q hQ
     obtain ⟨⟨u0, u1, u2, u3, u4, u5⟩, ⟨p1, p2, p3⟩, p4, p5⟩ := unhide HX w' (below_undrew hE)
     go_wp2
     exact hQ _ _ _ rfl rfl (Below.refl _ _) trivial
   case s1 =>
     intro w' m' hE hR
     rintro _ rfl Q hQ
     obtain ⟨⟨u0, u1, u2, u3, u4, u5⟩, ⟨p1, p2, p3⟩, p4, p5⟩ := unhide HX w' (below_undrew hE)
     go_wp2_with fail
     refine (blockSum_spec b A c w' p1 (by omega)).mono ?_
     rintro e w1 ⟨rfl, b1⟩
     go_wp2
     exact hQ _ _ _ rfl rfl b1 trivial
   case s2 | s5 | s7 | s9 | s11 =>
     intro w' m' hE hR
     intro Q hQ
     go_wp2
     exact hQ _ _ _ rfl rfl (Below.refl _ _) trivial
   case s3 =>
     intro w' m' hE hR
     rintro _ rfl Q hQ
     obtain ⟨⟨u0, u1, u2, u3, u4, u5⟩, ⟨p1, p2, p3⟩, p4, p5⟩ := unhide HX w' (below_undrew hE)
     go_wp2
     exact hQ _ _ _ rfl rfl (Below.refl _ _) trivial
   case s4 =>
     intro w' m' hE hR
     rintro _ rfl Q hQ
     go_wp2
     exact hQ _ _ _ rfl rfl (Below.refl _ _) trivial
   case s6 =>
     intro w' m' hE hR
     intro Q hQ
     have hsz := hE.size
     have o0 := own_made (base := w4.heap.size) (e := 56) (size := 4) w' #[] 0 hsz (by simp [maxLen]) rfl
     go_wp2
     exact hQ _ _ _ rfl ⟨_, rfl, o0⟩ ((Below.refl _ _).alloc (Nat.le_refl _) _) trivial
   case s8 =>
     intro w' m' hE hR
     rintro _ ⟨AE, rfl, oE⟩ _ rfl Q hQ
     obtain ⟨⟨u0, u1, u2, u3, u4, u5⟩, ⟨p1, p2, p3⟩, p4, p5⟩ := unhide HX w' (below_undrew hE)
     have hsz := hE.size
     refine wpList_app0 rfl (.tmp 51) (.tmp 52) 30 rfl el_actz rfl oE rfl p3 (len_acts al) (one_acts2 al) (by simp only [maxLen]; omega) (by omega) hsz ?_
     intro A' c' w2 o2 b2
     go_wp2
     exact hQ _ _ _ rfl ⟨A', c', rfl, o2⟩ b2 trivial
   case s10 =>
     intro w' m' hE hR
     rintro _ rfl Q hQ
     obtain ⟨⟨u0, u1, u2, u3, u4, u5⟩, ⟨p1, p2, p3⟩, p4, p5⟩ := unhide HX w' (below_undrew hE)
     go_wp2_with fail
     refine (rootOf_spec A4 c4 (serialS s al) w' p4 (by omega)).mono ?_
     rintro e w1 ⟨rfl, b1⟩
     go_wp2
     exact hQ _ _ _ rfl rfl b1 trivial
   case s12 =>
     intro w' m' hE hR
     rintro _ rfl Q hQ
     obtain ⟨⟨u0, u1, u2, u3, u4, u5⟩, ⟨p1, p2, p3⟩, p4, p5⟩ := unhide HX w' (below_undrew hE)
     go_wp2_with fail
     refine (effectsSum_spec A5 c5 (serialE s al) (fun _ => True) w' p5 (by omega) (unhide HES)).mono ?_
     rintro e w1 ⟨rfl, b1⟩
     go_wp2
     exact hQ _ _ _ rfl rfl b1 trivial
 intro w9 hE _
 rintro v0 - v1 hv1 v2 - v3 - v4 hv4 v5 hv5 v6 - v7 - v8 ⟨B7, d7, rfl, o7⟩ v9 - v10 hv10 v11 - v12 hv12
 obtain rfl : v1 = _ := hv1
 obtain rfl : v4 = _ := hv4
 obtain rfl : v5 = _ := hv5
 obtain rfl : v10 = _ := hv10
 obtain rfl : v12 = _ := hv12
 change wpList _ _ _ [_, _, _] _ _
 simp only [Act.put, List.setIfInBounds_toArray, List.set_cons_succ, List.set_cons_zero]
 have b9 := below_undrew hE
 clear hE hF
 have kr9 := kr.new_ b9
 have hs9 := b9.size
 go_wp2_with (refine wpList_store_row rfl 32 (.tmp 8) (.tmp 58) rfl (w.heap.size + 1) #[.int .i64 (bsum b), .int .i64 (b.height + 1), .int .i64 view, .slice B7 al.length d7, .int .i64 (rootL (serialS s al)), .int .i64 (effsSum (serialE s al))] rfl rfl 32 #[.int .i64 0, .int .i64 0, .int .i64 0, .slice none 0 0, .int .i64 0, .int .i64 0] kr9 info_bkS rfl (bk6_one _ _ _ _ _ _ _ _) ?_)
 refine bodyPost_ret (v := .tuple #[.agg #[.int .i64 (bsum b), .int .i64 (b.height + 1), .int .i64 view, .slice B7 al.length d7, .int .i64 (rootL (serialS s al)), .int .i64 (effsSum (serialE s al))], .bool true]) (results_cell_tmp (p := 8) (q := 9) (ty := 32) rfl _ _ (w.heap.size + 1) 32 #[.int .i64 (bsum b), .int .i64 (b.height + 1), .int .i64 view, .slice B7 al.length d7, .int .i64 (rootL (serialS s al)), .int .i64 (effsSum (serialE s al))] (0, 0) _ rfl (blk_setRow kr9) Tryz.underlying32 rfl info_bkS) rfl ?_
 rw [unhide HA, unhide HF]
 exact ⟨B7, d7, rfl, own_base (own_setRow o7 (by omega) _) (by omega), below_setRow (bthen hb0 b9) (by omega) _⟩
end Go.Proofs.YtihlhejencninaaGreat
