/- Contracts of small functions on numbers: ranges, leaders, waits. Contracts of the laws' helpers over []int: copies, equality, marks. []int: the element's row of the table. When views begin that all fail. Entries: what they are, the laws' helpers over them, and when they are valid. Entry: slices of a struct of 2 integers in memory; the laws' helpers over them. The reader of drawn codes: l20Open, pick, odd. What is drawn is only bounded, not known. -/
import Derived.Test.YtihlhejencninaaGreatProg
import Derived.Test.YtihlhejencninaaGreatGmem
import Derived.WalkLawsBesides
import Derived.Deep.QuietTactic
import Derived.BigQuiet
import Derived.StillTailTactics
import Derived.Deep.RegionHeld3
import Derived.Deep.DrawnRows
import Derived.Laws.BitsAllLaws
import Derived.Laws.BitsLemmas
namespace Go.Proofs.YtihlhejencninaaGreat
open Go.RowKit
set_option linter.unusedVariables false
set_option linter.unusedSimpArgs false

theorem int_info : (Tryz.prog.info? 3).map (fun i => (i.zero, i.size, i.bytes)) = some (some (.int .i64 0), 1, 8) := by kernel_rfl

theorem in_any (n lo hi : Int) (w : World) :
   Calls Tryz.prog 98 #[.int .i64 n, .int .i64 lo, .int .i64 hi] w fun e w' => e = .returned (.bool (inB n lo hi)) ∧ w = w' := by
 go_enter Tryz.func98, Tryz.ntmps98
 go_wp2
 all_goals go_ret
 all_goals exact ⟨retb (by simp [inB]; try omega), rfl⟩
theorem l1In_any (n lo hi : Int) (w : World) :
   Calls Tryz.prog 93 #[.int .i64 n, .int .i64 lo, .int .i64 hi] w fun e w' => e = .returned (.bool (inB n lo hi)) ∧ w = w' := by
 go_enter Tryz.func93, Tryz.ntmps93
 go_wp2
 all_goals go_ret
 all_goals exact ⟨retb (by simp [inB]; try omega), rfl⟩
theorem isView_any (n : Int) (w : World) :
   Calls Tryz.prog 99 #[.int .i64 n] w fun e w' => e = .returned (.bool (inB n 0 1000)) ∧ w = w' := by
 go_enter Tryz.func99, Tryz.ntmps99
 go_wp2_with (go_at_call 98; refine (in_any _ _ _ _).mono ?_; rintro e w' ⟨rfl, rfl⟩)
 all_goals go_ret
 all_goals exact ⟨rfl, rfl⟩
theorem isValue_any (n : Int) (w : World) :
   Calls Tryz.prog 111 #[.int .i64 n] w fun e w' => e = .returned (.bool (inB n 0 1000000)) ∧ w = w' := by
 go_enter Tryz.func111, Tryz.ntmps111
 go_wp2_with (go_at_call 98; refine (in_any _ _ _ _).mono ?_; rintro e w' ⟨rfl, rfl⟩)
 all_goals go_ret
 all_goals exact ⟨rfl, rfl⟩
theorem isKey_any (n : Int) (w : World) :
   Calls Tryz.prog 110 #[.int .i64 n] w fun e w' => e = .returned (.bool (inB n 0 31)) ∧ w = w' := by
 go_enter Tryz.func110, Tryz.ntmps110
 go_wp2_with (go_at_call 98; refine (in_any _ _ _ _).mono ?_; rintro e w' ⟨rfl, rfl⟩)
 all_goals go_ret
 all_goals exact ⟨rfl, rfl⟩
theorem isSummed_any (n : Int) (w : World) :
   Calls Tryz.prog 108 #[.int .i64 n] w fun e w' => e = .returned (.bool (inB n 0 2000000)) ∧ w = w' := by
 go_enter Tryz.func108, Tryz.ntmps108
 go_wp2_with (go_at_call 98; refine (in_any _ _ _ _).mono ?_; rintro e w' ⟨rfl, rfl⟩)
 all_goals go_ret
 all_goals exact ⟨rfl, rfl⟩
theorem isSum_any (n : Int) (w : World) :
   Calls Tryz.prog 97 #[.int .i64 n] w fun e w' => e = .returned (.bool (inB n 0 1000002)) ∧ w = w' := by
 go_enter Tryz.func97, Tryz.ntmps97
 go_wp2_with (go_at_call 98; refine (in_any _ _ _ _).mono ?_; rintro e w' ⟨rfl, rfl⟩)
 all_goals go_ret
 all_goals exact ⟨rfl, rfl⟩

end Go.Proofs.YtihlhejencninaaGreat
namespace Go.Proofs.YtihlhejencninaaGreat
open Go.RowKit
set_option linter.unusedVariables false
set_option linter.unusedSimpArgs false

end Go.Proofs.YtihlhejencninaaGreat
namespace Go.Proofs.YtihlhejencninaaGreat
open Go.RowKit
theorem el_int : El Tryz.prog 26 3 1 8 := El.mk_ Tryz.underlying26 int_info rfl (by omega)
end Go.Proofs.YtihlhejencninaaGreat
namespace Go.Proofs.YtihlhejencninaaGreat
open Go.RowKit
set_option linter.unusedVariables false
set_option linter.unusedSimpArgs false

attribute [local go_sem ↓] Go.wp_at_zero Go.wp_at_succ


end Go.Proofs.YtihlhejencninaaGreat
namespace Go.Proofs.YtihlhejencninaaGreat
open Go.RowKit
set_option linter.unusedVariables false
set_option linter.unusedSimpArgs false

structure Ent where
 k : Int
 v : Int
deriving DecidableEq
def encE (e : Ent) : List Value := [.int .i64 e.k, .int .i64 e.v]
theorem encE_len (e : Ent) : (encE e).length = 2 := rfl
theorem Rd.ent {w : World} {A : Option Addr} {es : List Ent} (h : Rd w A (es.flatMap encE)) {k : Nat} (hk : k < es.length) :
   ∃ b off, A = some ⟨b, off, none⟩ ∧ b < w.heap.size ∧ w.cell? ⟨b, off + k * 2, none⟩ = some (.int .i64 es[k].k) ∧ w.cell? ⟨b, off + k * 2 + 1, none⟩ = some (.int .i64 es[k].v) := by
 obtain ⟨b, off, e, hb, hc⟩ := h.flat encE 2 (fun _ => rfl) (by omega) hk
 exact ⟨b, off, e, hb, hc 0 _ rfl, hc 1 _ rfl⟩
/-- Are entries valid behind a key: keys ascend up to 31, values are at least 'least'. -/
def evOk (least : Int) : Int → List Ent → Bool
 | _, [] => true
 | last, e :: es => inB e.k (last + 1) 31 && inB e.v least 1000000 && evOk least e.k es
def storeB (es : List Ent) : Bool := evOk 1 (-1) es
def diffB (es : List Ent) : Bool := evOk 0 (-1) es

theorem entriesValid_any (A : Option Addr) (c : Nat) (es : List Ent) (least : Int) (w : World) (h : Rd w A (es.flatMap encE)) (hb : es.length ≤ 4611686018427387904) :
   Calls Tryz.prog 100 #[.slice A es.length c, .int .i64 least] w fun e w' => e = .returned (.bool (evOk least (-1) es)) ∧ Below w.heap.size w w' := by
 go_enter Tryz.func100, Tryz.ntmps100
 go_wp2
 go_loopw [5, 10] (fun last i wr => ∃ (k : Nat) (z : Int), k ≤ es.length ∧ i = .int .i64 k ∧ last = .int .i64 z ∧ -1 ≤ z ∧ z ≤ 31 ∧ evOk least (-1) es = evOk least z (es.drop k) ∧ Below w.heap.size w wr) (fun _ i _ => es.length - (intOf i).toNat)
 case atStart => exact ⟨0, -1, Nat.zero_le _, rfl, rfl, by omega, by omega, rfl, Below.refl _ _⟩
 case round =>
   obtain ⟨k, z, hk, rfl, rfl, hz1, hz2, hev, hbel⟩ := hrel
   by_cases hlt : k < es.length
   · obtain ⟨b, off, rfl, hbb, hc1, hc2⟩ := (h.below hbel (Nat.le_refl _)).ent hlt
     rw [drop_get es k hlt] at hev
     generalize hek : es[k] = ek at *
     clear hek
     have HE := hide hev
     clear hev
     cases h1 : inB ek.k (z + 1) 31
     · go_wp2_with (go_at_call 98; refine (in_any _ _ _ _).mono ?_; rintro e w' ⟨rfl, rfl⟩)
       go_ret
       exact ⟨retb (by rw [unhide HE, evOk, h1]; rfl), hbel.alloc hbel.size _⟩
     · have hz := inB_true.1 h1
       cases h2 : inB ek.v least 1000000
       · go_wp2_with (go_at_call 98; refine (in_any _ _ _ _).mono ?_; rintro e w' ⟨rfl, rfl⟩)
         go_ret
         exact ⟨retb (by rw [unhide HE, evOk, h1, h2]; rfl), hbel.alloc hbel.size _⟩
       · go_wp2_with (go_at_call 98; refine (in_any _ _ _ _).mono ?_; rintro e w' ⟨rfl, rfl⟩)
         go_roundw
         case rel => exact ⟨k + 1, ek.k, by omega, by go_num, rfl, by omega, by omega, by rw [unhide HE, evOk, h1, h2]; rfl, hbel.alloc hbel.size _⟩
         case measure => simp [intOf]; omega
   · have hev' : evOk least (-1) es = true := by rw [hev, List.drop_of_length_le (by omega)]; rfl
     clear hev
     have HE := hide hev'
     clear hev'
     go_wp2
     go_ret
     exact ⟨retb (unhide HE).symm, hbel⟩
theorem storeB_impl (A : Option Addr) (c : Nat) (es : List Ent) (w : World) (h : Rd w A (es.flatMap encE)) (hb : es.length ≤ 4611686018427387904) :
   Calls Tryz.prog 53 #[.slice A es.length c] w fun e w' => e = .returned (.bool (storeB es)) ∧ Below w.heap.size w w' := by
 go_enter Tryz.func53, Tryz.ntmps53
 go_wp2_with fail
 refine (entriesValid_any A c es _ w h hb).mono ?_
 rintro e w' ⟨rfl, hb'⟩
 go_wp2
 go_ret
 exact ⟨rfl, hb'⟩
theorem inB_last {a z : Int} (h : -1 ≤ z) : inB a (z + 1) 31 = (inB a 0 31 && !decide (a ≤ z)) := by
 simp only [inB]
 by_cases h1 : z + 1 ≤ a <;> by_cases h2 : a ≤ 31 <;> simp [h1, h2] <;> omega
theorem storeB_store_spec (A : Option Addr) (c : Nat) (es : List Ent) (w : World) (h : Rd w A (es.flatMap encE)) (hb : es.length ≤ 4611686018427387904) :
   Calls Tryz.prog 48 #[.slice A es.length c] w fun e w' => e = .returned (.bool (storeB es)) ∧ ∃ m, w.drewN m = w' := by
 have HD := hide (show storeB es = evOk 1 (-1) es from rfl)
 go_enter Tryz.func48, Tryz.ntmps48
 go_wp2
 go_loopw [3] (fun i wr => ∃ (k : Nat) (z : Int), k ≤ es.length ∧ i = .int .i64 k ∧ -1 ≤ z ∧ z ≤ 31 ∧ (k = 0 → z = -1) ∧ (∀ (j : Nat) (hj : j < es.length), k = j + 1 → es[j].k = z) ∧ evOk 1 (-1) es = evOk 1 z (es.drop k) ∧ ∃ m, w.drewN m = wr) (fun i _ => es.length - (intOf i).toNat)
 case atStart => exact ⟨0, -1, Nat.zero_le _, rfl, by omega, by omega, fun _ => rfl, fun j hj h => absurd h (by omega), rfl, 0, rfl⟩
 case round =>
   obtain ⟨k, z, hk, rfl, hz1, hz2, hz3, hz4, hev, m, rfl⟩ := hrel
   by_cases hlt : k < es.length
   · have hz5 : ∀ b off, A = some ⟨b, off, none⟩ → 0 < k → w.cell? ⟨b, off + (k - 1) * 2, none⟩ = some (.int .i64 z) := by
       intro b off hA hk0
       obtain ⟨b', off', hA', _, hc, _⟩ := h.ent (show k - 1 < es.length by omega)
       rw [hA] at hA'
       injection hA' with hA'
       injection hA' with h1 h2
       subst h1
       subst h2
       rw [hc, hz4 (k - 1) (by omega) (by omega)]
     obtain ⟨b, off, rfl, hbb, hc1, hc2⟩ := h.ent hlt
     have hz6 := hz5 b off rfl
     clear hz5
     rw [drop_get es k hlt] at hev
     generalize hek : es[k] = ek at *
     have HK := hide hek
     clear hek hz4
     have HE := hide hev
     have HZ := hide hz3
     clear hev hz3
     have c1 : (w.drewN m).cell? ⟨b, off + k * 2, none⟩ = some (.int .i64 ek.k) := hc1
     have c2 : (w.drewN m).cell? ⟨b, off + k * 2 + 1, none⟩ = some (.int .i64 ek.v) := hc2
     have i1 : (k : Int) < (es.length : Int) := by omega
     cases h1 : inB ek.k 0 31
     · go_wp2
       go_quiet ((go_at_call 93; first | exact quiet_left (l1In_any _ _ _ _) | exact quiet_add_left (l1In_any _ _ _ _)))
       go_wp2
       go_ret
       exact ⟨retb (by rw [unhide HD, unhide HE, evOk, inB_last hz1, h1]; rfl), _, by rw [World.drewN_drewN]⟩
     · have hz := inB_true.1 h1
       cases h2 : inB ek.v 1 1000000
       · go_wp2
         go_quiet ((go_at_call 93; first | exact quiet_left (l1In_any _ _ _ _) | exact quiet_add_left (l1In_any _ _ _ _)))
         go_wp2
         go_ret
         exact ⟨retb (by rw [unhide HD, unhide HE, evOk, h2]; simp), _, by rw [World.drewN_drewN]⟩
       · by_cases hk0 : 0 < k
         · obtain ⟨j, rfl⟩ : ∃ j, k = j + 1 := ⟨k - 1, by omega⟩
           have hc3 := hz6 hk0
           rw [Nat.add_sub_cancel] at hc3
           have c3 : (w.drewN m).cell? ⟨b, off + j * 2, none⟩ = some (.int .i64 z) := hc3
           clear hz6
           by_cases h3 : ek.k ≤ z
           · have g3 : decide (ek.k ≤ z) = true := by simpa using h3
             go_wp2
             go_quiet ((go_at_call 93; first | exact quiet_left (l1In_any _ _ _ _) | exact quiet_add_left (l1In_any _ _ _ _)))
             go_wp2
             go_ret
             exact ⟨retb (by rw [unhide HD, unhide HE, evOk, inB_last hz1]; simp [h3]), _, by rw [World.drewN_drewN]⟩
           · have g3 : decide (ek.k ≤ z) = false := by simpa using h3
             go_wp2
             go_quiet ((go_at_call 93; first | exact quiet_left (l1In_any _ _ _ _) | exact quiet_add_left (l1In_any _ _ _ _)))
             go_wp2
             go_roundw
             case rel =>
               refine ⟨j + 1 + 1, ek.k, by omega, by go_num, by omega, by omega, fun h => absurd h (by omega), fun i hi h => ?_, ?_, _, rfl⟩
               · obtain rfl : i = j + 1 := by omega
                 rw [unhide HK]
               · rw [unhide HE, evOk, inB_last hz1, h1, h2, g3]; rfl
             case measure => simp [intOf]; omega
         · have hz0 := hide (unhide HZ (show k = 0 by omega))
           have g0 : decide (0 < k) = false := by rw [decide_eq_false_iff_not]; omega
           have HK0 := hide (show k = 0 by omega)
           clear hz6 hk0
           go_wp2
           go_quiet ((go_at_call 93; first | exact quiet_left (l1In_any _ _ _ _) | exact quiet_add_left (l1In_any _ _ _ _)))
           go_wp2
           go_roundw
           case rel =>
             refine ⟨k + 1, ek.k, by omega, by go_num, by omega, by omega, fun h => absurd h (by omega), fun i hi h => ?_, ?_, _, rfl⟩
             · obtain rfl : i = k := by omega
               rw [unhide HK]
             · rw [unhide HE, evOk, inB_last hz1, h1, h2]
               have hz0' := unhide hz0
               have : ¬ ek.k ≤ z := by omega
               simp [this]
           case measure => simp [intOf]; omega
   · have hev' : evOk 1 (-1) es = true := by rw [hev, List.drop_of_length_le (by omega)]; rfl
     clear hev hz3 hz4
     have HE := hide hev'
     clear hev'
     go_wp2
     go_ret
     exact ⟨retb ((unhide HD).trans (unhide HE)).symm, _, rfl⟩
theorem diffB_writes_spec (A : Option Addr) (c : Nat) (es : List Ent) (w : World) (h : Rd w A (es.flatMap encE)) (hb : es.length ≤ 4611686018427387904) :
   Calls Tryz.prog 191 #[.slice A es.length c] w fun e w' => e = .returned (.bool (diffB es)) ∧ ∃ m, w.drewN m = w' := by
 have HD := hide (show diffB es = evOk 0 (-1) es from rfl)
 go_enter Tryz.func191, Tryz.ntmps191
 go_wp2
 go_loopw [3] (fun i wr => ∃ (k : Nat) (z : Int), k ≤ es.length ∧ i = .int .i64 k ∧ -1 ≤ z ∧ z ≤ 31 ∧ (k = 0 → z = -1) ∧ (∀ (j : Nat) (hj : j < es.length), k = j + 1 → es[j].k = z) ∧ evOk 0 (-1) es = evOk 0 z (es.drop k) ∧ ∃ m, w.drewN m = wr) (fun i _ => es.length - (intOf i).toNat)
 case atStart => exact ⟨0, -1, Nat.zero_le _, rfl, by omega, by omega, fun _ => rfl, fun j hj h => absurd h (by omega), rfl, 0, rfl⟩
 case round =>
   obtain ⟨k, z, hk, rfl, hz1, hz2, hz3, hz4, hev, m, rfl⟩ := hrel
   by_cases hlt : k < es.length
   · have hz5 : ∀ b off, A = some ⟨b, off, none⟩ → 0 < k → w.cell? ⟨b, off + (k - 1) * 2, none⟩ = some (.int .i64 z) := by
       intro b off hA hk0
       obtain ⟨b', off', hA', _, hc, _⟩ := h.ent (show k - 1 < es.length by omega)
       rw [hA] at hA'
       injection hA' with hA'
       injection hA' with h1 h2
       subst h1
       subst h2
       rw [hc, hz4 (k - 1) (by omega) (by omega)]
     obtain ⟨b, off, rfl, hbb, hc1, hc2⟩ := h.ent hlt
     have hz6 := hz5 b off rfl
     clear hz5
     rw [drop_get es k hlt] at hev
     generalize hek : es[k] = ek at *
     have HK := hide hek
     clear hek hz4
     have HE := hide hev
     have HZ := hide hz3
     clear hev hz3
     have c1 : (w.drewN m).cell? ⟨b, off + k * 2, none⟩ = some (.int .i64 ek.k) := hc1
     have c2 : (w.drewN m).cell? ⟨b, off + k * 2 + 1, none⟩ = some (.int .i64 ek.v) := hc2
     have i1 : (k : Int) < (es.length : Int) := by omega
     cases h1 : inB ek.k 0 31
     · go_wp2
       go_quiet ((go_at_call 93; first | exact quiet_left (l1In_any _ _ _ _) | exact quiet_add_left (l1In_any _ _ _ _)))
       go_wp2
       go_ret
       exact ⟨retb (by rw [unhide HD, unhide HE, evOk, inB_last hz1, h1]; rfl), _, by rw [World.drewN_drewN]⟩
     · have hz := inB_true.1 h1
       cases h2 : inB ek.v 0 1000000
       · go_wp2
         go_quiet ((go_at_call 93; first | exact quiet_left (l1In_any _ _ _ _) | exact quiet_add_left (l1In_any _ _ _ _)))
         go_wp2
         go_ret
         exact ⟨retb (by rw [unhide HD, unhide HE, evOk, h2]; simp), _, by rw [World.drewN_drewN]⟩
       · by_cases hk0 : 0 < k
         · obtain ⟨j, rfl⟩ : ∃ j, k = j + 1 := ⟨k - 1, by omega⟩
           have hc3 := hz6 hk0
           rw [Nat.add_sub_cancel] at hc3
           have c3 : (w.drewN m).cell? ⟨b, off + j * 2, none⟩ = some (.int .i64 z) := hc3
           clear hz6
           by_cases h3 : ek.k ≤ z
           · have g3 : decide (ek.k ≤ z) = true := by simpa using h3
             go_wp2
             go_quiet ((go_at_call 93; first | exact quiet_left (l1In_any _ _ _ _) | exact quiet_add_left (l1In_any _ _ _ _)))
             go_wp2
             go_ret
             exact ⟨retb (by rw [unhide HD, unhide HE, evOk, inB_last hz1]; simp [h3]), _, by rw [World.drewN_drewN]⟩
           · have g3 : decide (ek.k ≤ z) = false := by simpa using h3
             go_wp2
             go_quiet ((go_at_call 93; first | exact quiet_left (l1In_any _ _ _ _) | exact quiet_add_left (l1In_any _ _ _ _)))
             go_wp2
             go_roundw
             case rel =>
               refine ⟨j + 1 + 1, ek.k, by omega, by go_num, by omega, by omega, fun h => absurd h (by omega), fun i hi h => ?_, ?_, _, rfl⟩
               · obtain rfl : i = j + 1 := by omega
                 rw [unhide HK]
               · rw [unhide HE, evOk, inB_last hz1, h1, h2, g3]; rfl
             case measure => simp [intOf]; omega
         · have hz0 := hide (unhide HZ (show k = 0 by omega))
           have g0 : decide (0 < k) = false := by rw [decide_eq_false_iff_not]; omega
           have HK0 := hide (show k = 0 by omega)
           clear hz6 hk0
           go_wp2
           go_quiet ((go_at_call 93; first | exact quiet_left (l1In_any _ _ _ _) | exact quiet_add_left (l1In_any _ _ _ _)))
           go_wp2
           go_roundw
           case rel =>
             refine ⟨k + 1, ek.k, by omega, by go_num, by omega, by omega, fun h => absurd h (by omega), fun i hi h => ?_, ?_, _, rfl⟩
             · obtain rfl : i = k := by omega
               rw [unhide HK]
             · rw [unhide HE, evOk, inB_last hz1, h1, h2]
               have hz0' := unhide hz0
               have : ¬ ek.k ≤ z := by omega
               simp [this]
           case measure => simp [intOf]; omega
   · have hev' : evOk 0 (-1) es = true := by rw [hev, List.drop_of_length_le (by omega)]; rfl
     clear hev hz3 hz4
     have HE := hide hev'
     clear hev'
     go_wp2
     go_ret
     exact ⟨retb ((unhide HD).trans (unhide HE)).symm, _, rfl⟩
end Go.Proofs.YtihlhejencninaaGreat
namespace Go.Proofs.YtihlhejencninaaGreat
open Go.RowKit
set_option linter.unusedVariables false
set_option linter.unusedSimpArgs false

end Go.Proofs.YtihlhejencninaaGreat
namespace Go.Proofs.YtihlhejencninaaGreat
open Go.RowKit
set_option linter.unusedVariables false
set_option linter.unusedSimpArgs false

def Blk (w : World) (g : Nat) (t : TypeId) (cs : Array Value) : Prop := w.heap[g]? = some (.cells cs t (0, 0))
section
variable {w w' : World} {g : Nat} {t : TypeId} {cs : Array Value}
theorem Blk.lt (h : Blk w g t cs) : g < w.heap.size := (Array.getElem?_eq_some_iff.1 h).1
theorem Blk.cell (h : Blk w g t cs) (i : Nat) : w.cell? ⟨g, i, none⟩ = cs[i]? := cell_of_row w g i cs t (0, 0) h
theorem Blk.frozen (h : Blk w g t cs) (i : Nat) : w.frozen? ⟨g, i, none⟩ = false := by
 unfold Blk at h
 simp [World.frozen?, h]
theorem Blk.new (w : World) (t : TypeId) (cs : Array Value) : Blk (w.alloc (.cells cs t)) w.heap.size t cs := heap_alloc_new w _
theorem Blk.alloc (h : Blk w g t cs) (o : Obj) : Blk (w.alloc o) g t cs := (Below.heap_alloc w o g h.lt).trans h
theorem Blk.set_ (h : Blk w g t cs) (i : Nat) (u : Value) : Blk (w.setCell ⟨g, i, none⟩ u) g t (cs.setIfInBounds i u) := by
 unfold Blk at h ⊢
 simp [World.setCell, Array.getElem?_modify, h]
theorem Blk.keep (h : Blk w g t cs) (hk : w'.heap[g]? = w.heap[g]?) : Blk w' g t cs := hk.trans h
theorem Blk.new_ (h : Blk w g t cs) (hb : Below w.heap.size w w') : Blk w' g t cs := (hb.block g h.lt).trans h
end

theorem ofInt_i64 (a : Nat) (ha : a < 9223372036854775808) : (BitVec.ofInt 64 (a : Int)).toNat = a := by
 rw [BitVec.ofInt_natCast, BitVec.toNat_ofNat]; exact Nat.mod_eq_of_lt (by omega)
theorem i64_xor_nat (a b : Nat) (ha : a < 9223372036854775808) (hb : b < 9223372036854775808) : bits .xor .i64 (a : Int) (b : Int) = ((a ^^^ b : Nat) : Int) := by
 have hx : a ^^^ b < 2 ^ 63 := Nat.xor_lt_two_pow (by omega) (by omega)
 show IntKind.i64.wrap ((BitVec.ofInt 64 (a : Int) ^^^ BitVec.ofInt 64 (b : Int)).toNat : Int) = _
 rw [BitVec.toNat_xor, ofInt_i64 a ha, ofInt_i64 b hb, IntKind.wrap_i64]
 omega

/-- Block g is a reader of the bytes bs that has read p times. -/
structure RdrX (w : World) (g : Nat) (A : Option Addr) (c : Nat) (bs : List Int) (p : Nat) : Prop where
 blk : Blk w g 127 #[.slice A bs.length c, .int .i64 p]
 rd : Rd w A (bs.map (.int .u8))
 byte : ∀ b ∈ bs, 0 ≤ b ∧ b ≤ 255
 len : bs.length ≤ 2000
 lt : ∀ b off, A = some ⟨b, off, none⟩ → 0 < bs.length → b < g
section
variable {w w' : World} {g c p : Nat} {A : Option Addr} {bs : List Int}
theorem RdrX.chg {S : Nat → Prop} (h : RdrX w g A c bs p) (hc : Chg S w w') (hS : ∀ k, k ≤ g → ¬ S k) : RdrX w' g A c bs p := by
 obtain ⟨h1, h2, h3, h4, h6⟩ := h
 refine ⟨h1.keep (hc.block g h1.lt (hS g (Nat.le_refl _))), fun h0 => ?_, h3, h4, h6⟩
 obtain ⟨b, off, hA, hb, hcell⟩ := h2 h0
 have hbg : b < g := h6 b off hA (by simpa using h0)
 exact ⟨b, off, hA, Nat.lt_of_lt_of_le hb hc.size, fun j u hu => (World.cell?_of_block (hc.block b hb (hS b (by omega)))).trans (hcell j u hu)⟩
theorem RdrX.new (h : RdrX w g A c bs p) (hb : Below w.heap.size w w') : RdrX w' g A c bs p := ⟨h.blk.new_ hb, h.rd.new hb, h.byte, h.len, h.lt⟩
theorem RdrX.drew (h : RdrX w g A c bs p) : RdrX w.drew g A c bs p := ⟨h.blk, h.rd, h.byte, h.len, h.lt⟩
theorem RdrX.drewN (h : RdrX w g A c bs p) (k : Nat) : RdrX (w.drewN k) g A c bs p := ⟨h.blk, h.rd, h.byte, h.len, h.lt⟩
theorem RdrX.step (h : RdrX w g A c bs p) : RdrX (w.setCell ⟨g, 1, none⟩ (.int .i64 ((p : Int) + 1))) g A c bs (p + 1) := by
 refine ⟨?_, fun h0 => ?_, h.byte, h.len, h.lt⟩
 · have := h.blk.set_ 1 (.int .i64 ((p : Int) + 1))
   simpa using this
 · obtain ⟨b, off, hA, hb, hc⟩ := h.rd h0
   have hbg : b < g := h.lt b off hA (by simpa using h0)
   exact ⟨b, off, hA, by simpa [World.setCell] using hb, fun j u hu => by rw [World.cell?_setCell_other w ⟨g, 1, none⟩ ⟨b, off + j, none⟩ _ (fun e => by injection e; omega)]; exact hc j u hu⟩
theorem RdrX.step_chg : Chg (fun k => k = g) w (w.setCell ⟨g, 1, none⟩ (.int .i64 ((p : Int) + 1))) := Chg.setCell (S := fun k => k = g) (p := ⟨g, 1, none⟩) (Chg.refl _ _) (.inl rfl) _
end
/-- Block g is a reader that has read at most N times. -/
def Rdr (w : World) (g N : Nat) : Prop := ∃ (A : Option Addr) (c : Nat) (bs : List Int) (p : Nat), RdrX w g A c bs p ∧ p ≤ N
theorem Rdr.lt {w : World} {g N : Nat} (h : Rdr w g N) : g < w.heap.size := by
 obtain ⟨_, _, _, _, hb, _⟩ := h
 exact hb.blk.lt
theorem Rdr.more {w : World} {g N M : Nat} (h : Rdr w g N) (hM : N ≤ M) : Rdr w g M := by
 obtain ⟨A, c, bs, p, h1, h5⟩ := h
 exact ⟨A, c, bs, p, h1, by omega⟩
theorem Rdr.new {w w' : World} {g N : Nat} (h : Rdr w g N) (hb : Below w.heap.size w w') : Rdr w' g N := by
 obtain ⟨A, c, bs, p, h1, h5⟩ := h
 exact ⟨A, c, bs, p, h1.new hb, h5⟩
theorem Rdr.drew {w : World} {g N : Nat} (h : Rdr w g N) : Rdr w.drew g N := by
 obtain ⟨A, c, bs, p, h1, h5⟩ := h
 exact ⟨A, c, bs, p, h1.drew, h5⟩
theorem Rdr.alloc {w : World} {g N : Nat} (h : Rdr w g N) (o : Obj) : Rdr (w.alloc o) g N := h.new ((Below.refl _ _).alloc (Nat.le_refl _) o)
theorem Rdr.chg {w w' : World} {g N : Nat} {S : Nat → Prop} (h : Rdr w g N) (hc : Chg S w w') (hS : ∀ k, k ≤ g → ¬ S k) : Rdr w' g N := by
 obtain ⟨A, c, bs, p, h1, h5⟩ := h
 exact ⟨A, c, bs, p, h1.chg hc hS, h5⟩
/-- what is drawn: the number that 'pick' gives -/
def mixX (bs : List Int) (p : Nat) : Nat := (bs.getD (p % bs.length) 0 * 131 + bs.getD ((p * 7 + 3) % bs.length) 0 * 1117 + (p : Int) * 29 + ((p / bs.length : Nat) : Int) * 53).toNat
def pickV (bs : List Int) (p : Nat) (n : Int) : Nat :=
 if bs.length = 0 then 0 else if p < bs.length then (bs.getD p 0 % n).toNat else (((mixX bs p ^^^ (mixX bs p / 64) : Nat) : Int) % n).toNat
theorem pickV_lt (bs : List Int) (p : Nat) (n : Int) (hn : 1 ≤ n) : (pickV bs p n : Int) < n := by
 unfold pickV
 split
 · omega
 · split
   · rw [Int.toNat_of_nonneg (Int.emod_nonneg _ (by omega))]
     exact Int.emod_lt_of_pos _ (by omega)
   · rw [Int.toNat_of_nonneg (Int.emod_nonneg _ (by omega))]
     exact Int.emod_lt_of_pos _ (by omega)

theorem open_any (A : Option Addr) (c : Nat) (bs : List Int) (w : World) (h : Rd w A (bs.map (.int .u8))) (hw : ∀ b ∈ bs, 0 ≤ b ∧ b ≤ 255) (hc : bs.length ≤ c) (hm : c ≤ maxLen) :
   Calls Tryz.prog 57 #[.slice A bs.length c] w fun e w' => e = .returned (.pointer (some ⟨w.heap.size, 0, none⟩)) ∧ Rdr w' w.heap.size 0 ∧ Below w.heap.size w w' := by
 simp only [maxLen] at hm
 by_cases hl : bs.length ≤ 2000
 · have hl2 : ¬ (2000 : Int) < (bs.length : Int) := by omega
   go_enter Tryz.func57, Tryz.ntmps57
   go_wp2
   go_ret
   refine ⟨rfl, ⟨A, c, bs, 0, ⟨Blk.new _ _ _, h.alloc _, hw, hl, fun b off hA h0 => ?_⟩, Nat.le_refl _⟩, (Below.refl _ _).alloc (Nat.le_refl _) _⟩
   obtain ⟨b', off', hA', hb', _⟩ := h (by simpa using h0)
   rw [hA] at hA'
   injection hA' with hA'
   injection hA' with h1
   omega
 · have hl2 : (2000 : Int) < (bs.length : Int) := by omega
   have hl3 : 2000 < bs.length := by omega
   go_enter Tryz.func57, Tryz.ntmps57
   go_wp2
   go_ret
   have hlen : (bs.take 2000).length = 2000 := by simp; omega
   refine ⟨rfl, ⟨A, c, bs.take 2000, 0, ⟨by rw [hlen]; exact Blk.new _ _ _, ?_, fun b hb => hw b (List.mem_of_mem_take hb), by omega, fun b off hA h0 => ?_⟩, Nat.le_refl _⟩, (Below.refl _ _).alloc (Nat.le_refl _) _⟩
   · have := (h.take 2000).alloc (.cells #[.slice A 2000 c, .int .i64 0] 127)
     rw [← List.map_take] at this
     exact this
   · obtain ⟨b', off', hA', hb', _⟩ := h (by simp; omega)
     rw [hA] at hA'
     injection hA' with hA'
     injection hA' with h1
     omega

theorem pick_x (g c p : Nat) (A : Option Addr) (bs : List Int) (n : Int) (w : World) (h : RdrX w g A c bs p) (hN : p ≤ 1000000) (hn : 1 ≤ n) (hn2 : n ≤ 1000000) :
   Calls Tryz.prog 105 #[.pointer (some ⟨g, 0, none⟩), .int .i64 n] w fun e w' => e = .returned (.int .i64 (pickV bs p n)) ∧ ∃ m, (w.setCell ⟨g, 1, none⟩ (.int .i64 ((p : Int) + 1))).drewN m = w' := by
 have hrd1 := h.step.rd
 obtain ⟨hblk, hrd, hbs, hlen, hlt⟩ := h
 have c0 : w.cell? ⟨g, 0, none⟩ = some (.slice A bs.length c) := by rw [hblk.cell]; rfl
 have c1 : w.cell? ⟨g, 1, none⟩ = some (.int .i64 p) := by rw [hblk.cell]; rfl
 have z1 : w.frozen? ⟨g, 1, none⟩ = false := hblk.frozen 1
 have hn1 : ¬ n < 1 := by omega
 by_cases hz : bs.length = 0
 · have hd : ((bs.length : Int) == 0) = true := by simp [hz]
   have HV := hide (show pickV bs p n = 0 by unfold pickV; rw [if_pos hz])
   clear hz hbs hrd1
   go_enter Tryz.func105, Tryz.ntmps105
   go_wp2
   go_ret
   exact ⟨by rw [unhide HV]; rfl, 0, rfl⟩
 · have hd : ((bs.length : Int) == 0) = false := by rw [beq_eq_false_iff_ne]; omega
   by_cases hpl : p < bs.length
   · have HV := hide (show pickV bs p n = (bs[p] % n).toNat by unfold pickV; rw [if_neg hz, if_pos hpl]; simp [hpl])
     obtain ⟨b, off, rfl, hbb, hc⟩ := hrd1 (by rw [List.length_map]; omega)
     have hc1 := hc p (.int .u8 bs[p]) (by simp [hpl])
     have hb := hbs bs[p] (List.getElem_mem hpl)
     clear hbs hc hrd
     generalize bs[p] = x at *
     go_enter Tryz.func105, Tryz.ntmps105
     go_wp2
     go_ret
     have hm0 := Int.emod_nonneg x (show n ≠ 0 by omega)
     exact ⟨reti (by rw [unhide HV, Int.toNat_of_nonneg hm0]), 0, rfl⟩
   · have hL : 0 < bs.length := by omega
     have HV := hide (show pickV bs p n = (((mixX bs p ^^^ (mixX bs p / 64) : Nat) : Int) % n).toNat by unfold pickV; rw [if_neg hz, if_neg hpl])
     obtain ⟨b, off, rfl, hbb, hc⟩ := hrd1 (by rw [List.length_map]; omega)
     have q1 := Nat.mod_lt p hL
     have q2 := Nat.mod_lt (p * 7 + 3) hL
     have HX := hide (show mixX bs p = (bs[p % bs.length] * 131 + bs[(p * 7 + 3) % bs.length] * 1117 + (p : Int) * 29 + ((p / bs.length : Nat) : Int) * 53).toNat by unfold mixX; simp [q1, q2])
     have hc1 := hc (p % bs.length) (.int .u8 bs[p % bs.length]) (by simp [q1])
     have hc2 := hc ((p * 7 + 3) % bs.length) (.int .u8 bs[(p * 7 + 3) % bs.length]) (by simp [q2])
     have hb1 := hbs bs[p % bs.length] (List.getElem_mem q1)
     have hb2 := hbs bs[(p * 7 + 3) % bs.length] (List.getElem_mem q2)
     clear hbs hc hrd
     generalize bs[p % bs.length] = x at *
     generalize bs[(p * 7 + 3) % bs.length] = y at *
     have t1 : (p : Int).tmod (bs.length : Int) = ((p % bs.length : Nat) : Int) := by rw [Int.tmod_eq_emod_of_nonneg (by omega)]; rfl
     have t2 : ((p : Int) * 7 + 3).tmod (bs.length : Int) = (((p * 7 + 3) % bs.length : Nat) : Int) := by rw [Int.tmod_eq_emod_of_nonneg (by omega)]; rfl
     have t3 : (p : Int).tdiv (bs.length : Int) = ((p / bs.length : Nat) : Int) := by rw [Int.tdiv_eq_ediv_of_nonneg (by omega)]; rfl
     generalize hr1 : p % bs.length = r1 at *
     generalize hr2 : (p * 7 + 3) % bs.length = r2 at *
     generalize hr3 : p / bs.length = r3 at *
     have hr3b : r3 ≤ p := by rw [← hr3]; exact Nat.div_le_self _ _
     clear hr1 hr2 hr3
     have i1 : (r1 : Int) < (bs.length : Int) := by omega
     have i2 : (r2 : Int) < (bs.length : Int) := by omega
     have i3 : (0 : Int) ≤ (r1 : Int) := by omega
     have i4 : (0 : Int) ≤ (r2 : Int) := by omega
     have w1 : IntKind.i64.wrap ((p : Int) + 1) = (p : Int) + 1 := Go.IntWalk.i64_in _ (by omega)
     have w2 : IntKind.i64.wrap ((p : Int) + 1 - 1) = (p : Int) := by rw [show (p : Int) + 1 - 1 = p by omega]; exact Go.IntWalk.i64_in _ (by omega)
     go_enter Tryz.func105, Tryz.ntmps105
     go_wp2
     go_quiet (fail)
     go_wp2
     go_ret
     obtain ⟨X, hX⟩ : ∃ X : Nat, x * 131 + y * 1117 + (p : Int) * 29 + (r3 : Int) * 53 = (X : Int) := ⟨(x * 131 + y * 1117 + (p : Int) * 29 + (r3 : Int) * 53).toNat, by omega⟩
     have hXb : X < 1000000000 := by omega
     have hmx : mixX bs p = X := by rw [unhide HX, hX]; rfl
     have hx1 : bits BinOp.xor IntKind.i64 (x * 131 + y * 1117 + (p : Int) * 29 + (r3 : Int) * 53) ((x * 131 + y * 1117 + (p : Int) * 29 + (r3 : Int) * 53) / 64) = ((X ^^^ (X / 64) : Nat) : Int) := by
       rw [hX, show ((X : Int) / 64) = ((X / 64 : Nat) : Int) from rfl, i64_xor_nat X (X / 64) (by omega) (by omega)]
     have hv : pickV bs p n = (((X ^^^ (X / 64) : Nat) : Int) % n).toNat := by rw [unhide HV, hmx]
     generalize X ^^^ (X / 64) = Y at *
     have hx2 : (bits BinOp.xor IntKind.i64 (x * 131 + y * 1117 + (p : Int) * 29 + (r3 : Int) * 53) ((x * 131 + y * 1117 + (p : Int) * 29 + (r3 : Int) * 53) / 64)).tmod n = (Y : Int) % n := by
       rw [hx1, Int.tmod_eq_emod_of_nonneg (by omega)]
     have hm0 := Int.emod_nonneg (Y : Int) (show n ≠ 0 by omega)
     exact ⟨reti (by rw [hv, Int.toNat_of_nonneg hm0]; exact hx2), nq, rfl⟩
theorem pick_any (g N : Nat) (n : Int) (w : World) (h : Rdr w g N) (hN : N ≤ 1000000) (hn : 1 ≤ n) (hn2 : n ≤ 1000000) :
   Calls Tryz.prog 105 #[.pointer (some ⟨g, 0, none⟩), .int .i64 n] w fun e w' => ∃ v : Nat, (v : Int) < n ∧ e = .returned (.int .i64 v) ∧ Rdr w' g (N + 1) ∧ Chg (fun k => k = g) w w' := by
 obtain ⟨A, c, bs, p, hx, hp⟩ := h
 refine (pick_x g c p A bs n w hx (by omega) hn hn2).mono ?_
 rintro e w' ⟨rfl, m, rfl⟩
 exact ⟨_, pickV_lt bs p n hn, rfl, ⟨A, c, bs, p + 1, hx.step.drewN m, by omega⟩, RdrX.step_chg.drewN m⟩
theorem odd_any (g N : Nat) (n : Int) (w : World) (h : Rdr w g N) (hN : N ≤ 1000000) (hn : 0 ≤ n) (hn2 : n ≤ 1000000) :
   Calls Tryz.prog 80 #[.pointer (some ⟨g, 0, none⟩), .int .i64 n] w fun e w' => ∃ b : Bool, e = .returned (.bool b) ∧ (n = 0 → b = false) ∧ Rdr w' g (N + 1) ∧ Chg (fun k => k = g) w w' := by
 by_cases h0 : n = 0
 · have hd : decide ((0 : Int) < n) = false := by simp; omega
   have H0 := hide h0
   clear h0
   go_enter Tryz.func80, Tryz.ntmps80
   go_wp2
   go_ret
   exact ⟨false, rfl, fun _ => rfl, h.more (by omega), Chg.refl _ _⟩
 · have hd : (0 : Int) < n := by omega
   have H0 := hide h0
   clear h0
   go_enter Tryz.func80, Tryz.ntmps80
   go_wp2_with fail
   refine (pick_any g N n w h hN (by omega) hn2).mono ?_
   rintro e w1 ⟨v, hv, rfl, hr, hc⟩
   go_wp2
   go_ret
   exact ⟨_, rfl, fun h => absurd h (unhide H0), hr, hc⟩
/-- a literal of numbers that the call has laid, read behind reads of the reader -/
theorem lit_int {w w' : World} {S : Nat → Prop} {t : TypeId} (ns : List Int) (hc : Chg S (w.alloc (.cells (ns.map (Value.int .i64)).toArray t)) w') (hS : ¬ S w.heap.size) {i : Nat} (hi : i < ns.length) :
   ∃ x, x ∈ ns ∧ w'.cell? ⟨w.heap.size, i, none⟩ = some (.int .i64 x) := by
 refine ⟨ns[i], List.getElem_mem hi, hc.cell (p := ⟨w.heap.size, i, none⟩) ?_ hS⟩
 rw [cell_of_row _ w.heap.size i _ t (0, 0) (heap_alloc_new w _)]
 simp [hi]
theorem Blk.chg {S : Nat → Prop} {w w' : World} {g : Nat} {t : TypeId} {cs : Array Value} (h : Blk w g t cs) (hc : Chg S w w') (hS : ¬ S g) : Blk w' g t cs := h.keep (hc.block g h.lt hS)
theorem Blk.far_ {w : World} {g : Nat} {t : TypeId} {cs : Array Value} (h : Blk w g t cs) {p : Addr} (hp : p.block ≠ g) (u : Value) : Blk (w.setCell p u) g t cs := (Below.heap_setCell _ _ _ _ (fun e => hp e.symm)).trans h
theorem rd_blk {w : World} {q : Nat} {t : TypeId} {cs : Array Value} (h : Blk w q t cs) : Rd w (some ⟨q, 0, none⟩) cs.toList := fun h0 => by
 refine ⟨q, 0, rfl, h.lt, fun j u hu => ?_⟩
 rw [h.cell]
 simpa using hu
def rdrR (g N0 : Nat) (m : Nat) (w : World) : Prop := ∃ N, N + m ≤ N0 ∧ Rdr w g N
theorem rdrR_use {g N0 m k : Nat} {w : World} (h : rdrR g N0 (m + k) w) : ∃ N, N + m + k ≤ N0 ∧ Rdr w g N := by
 obtain ⟨N, h1, h2⟩ := h
 exact ⟨N, by omega, h2⟩
end Go.Proofs.YtihlhejencninaaGreat
