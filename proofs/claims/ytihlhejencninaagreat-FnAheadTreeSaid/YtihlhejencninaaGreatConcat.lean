/- slices.Grow and slices.Concat at entries. -/
import Derived.Test.YtihlhejencninaaGreatGmem
import Derived.Test.YtihlhejencninaaGreatGval
import Derived.Test.YtihlhejencninaaGreatGeff
namespace Go.Proofs.YtihlhejencninaaGreat
open Go.RowKit
set_option linter.unusedVariables false
set_option linter.unusedSimpArgs false

set_option maxRecDepth 100000 in
set_option maxHeartbeats 1000000 in
theorem growE_nil (n : Nat) (w : World) (hn : n ≤ 1000000) :
   Calls Tryz.prog 181 #[.slice none 0 0, .int .i64 (n : Int)] w fun e w' => ∃ A c, e = .returned (.slice A 0 c) ∧ w'.ownsRow w.heap.size 79 2 (.slice A 0 c) 0 [] ∧ Below w.heap.size w w' := by
 by_cases h0 : n = 0
 · subst h0
   go_enter Tryz.func181, Tryz.ntmps181
   go_wp2
   go_ret
   exact ⟨none, 0, rfl, own_nil _ _ _ _, Below.refl _ _⟩
 · have h1 : (0 : Int) < (n : Int) := by omega
   have h2 : ¬ ((n : Int) < 0) := by omega
   go_enter Tryz.func181, Tryz.ntmps181
   go_wp2_with (at_builtin; refine wpList_appZ (base := w.heap.size) rfl (.tmp 20) (.tmp 21) 34 3 rfl .i64 (by kernel_rfl) el_ent rfl rfl (by omega) (by omega) (by omega) (Nat.le_refl _) ?_; intro g c8 w8 hg hc8 o8 b8)
   go_ret
   exact ⟨_, _, rfl, hg ▸ o8, b8⟩
set_option maxRecDepth 100000 in
set_option maxHeartbeats 2000000 in
theorem concatE_any (B : Option Addr) (c0 : Nat) (A1 A2 : Option Addr) (c1 c2 : Nat) (xs ys : List Ent) (w : World) (hB : Rd w B [.slice A1 xs.length c1, .slice A2 ys.length c2]) (h1 : Rd w A1 (xs.flatMap encE)) (h2 : Rd w A2 (ys.flatMap encE)) (hb1 : xs.length ≤ 400000) (hb2 : ys.length ≤ 400000) :
   Calls Tryz.prog 153 #[.slice B 2 c0] w fun e w' => ∃ A' c', e = .returned (.slice A' (xs ++ ys).length c') ∧ w'.ownsRow w.heap.size 79 2 (.slice A' (xs ++ ys).length c') (xs ++ ys).length ((xs ++ ys).flatMap encE) ∧ Below w.heap.size w w' := by
 obtain ⟨b, off, rfl, hbb, hc⟩ := hB (by simp)
 have x0 : w.cell? ⟨b, off, none⟩ = some (.slice A1 xs.length c1) := hc 0 _ rfl
 have x1 : w.cell? ⟨b, off + 1, none⟩ = some (.slice A2 ys.length c2) := hc 1 _ rfl
 have HB := hide (fun (w' : World) (hb : Below w.heap.size w w') => show w'.cell? ⟨b, off, none⟩ = some (.slice A1 xs.length c1) ∧ w'.cell? ⟨b, off + 1, none⟩ = some (.slice A2 ys.length c2) from ⟨(hb.cell (p := ⟨b, off, none⟩) hbb).trans x0, (hb.cell (p := ⟨b, off + 1, none⟩) hbb).trans x1⟩)
 clear hc hB
 have n1 : ¬ ((xs.length : Int) < 0) := by omega
 have n2 : ¬ ((xs.length : Int) + (ys.length : Int) < 0) := by omega
 go_enter Tryz.func153, Tryz.ntmps153
 go_wp2
 go_loop [3, 5, 11] (fun s _ i => (i = .int .i64 0 ∧ s = .int .i64 0) ∨ (i = .int .i64 1 ∧ s = .int .i64 xs.length) ∨ (i = .int .i64 2 ∧ s = .int .i64 (xs.length + ys.length))) (fun _ _ i => 2 - (intOf i).toNat)
 case atStart => exact .inl ⟨rfl, rfl⟩
 case round =>
   rcases hrel with ⟨rfl, rfl⟩ | ⟨rfl, rfl⟩ | ⟨rfl, rfl⟩
   · go_wp2
     go_round
     case rel => exact .inr (.inl ⟨by go_num, by go_num⟩)
     case measure => simp [intOf]
   · go_wp2
     go_round
     case rel => exact .inr (.inr ⟨by go_num, by go_num⟩)
     case measure => simp [intOf]
   · have KG := growE_nil (xs.length + ys.length) w (by omega)
     rw [Int.natCast_add] at KG
     go_wp2_with fail
     refine KG.mono ?_
     rintro e w1 ⟨A0, c3, rfl, o1, b1⟩
     clear KG x0 x1
     go_wp2
     go_loopw [6, 8, 27] (fun s _ i wr => ∃ A' c', Below w.heap.size w wr ∧ ((i = .int .i64 0 ∧ s = .slice A' 0 c' ∧ wr.ownsRow w.heap.size 79 2 (.slice A' 0 c') 0 []) ∨ (i = .int .i64 1 ∧ s = .slice A' xs.length c' ∧ wr.ownsRow w.heap.size 79 2 (.slice A' xs.length c') xs.length (xs.flatMap encE)) ∨ (i = .int .i64 2 ∧ s = .slice A' (xs.length + ys.length) c' ∧ wr.ownsRow w.heap.size 79 2 (.slice A' (xs.length + ys.length) c') (xs.length + ys.length) (xs.flatMap encE ++ ys.flatMap encE)))) (fun _ _ i _ => 2 - (intOf i).toNat)
     case atStart => exact ⟨A0, c3, b1, .inl ⟨rfl, rfl, o1⟩⟩
     case round =>
       clear o1 b1
       obtain ⟨A', c', hb, ⟨rfl, rfl, ho⟩ | ⟨rfl, rfl, ho⟩ | ⟨rfl, rfl, ho⟩⟩ := hrel
       · obtain ⟨x0, x1⟩ := unhide HB wr hb
         have hs := hb.size
         have hrg := own_rng ho
         go_wp2_with (at_builtin; refine wpList_app rfl (.tmp 31) (.tmp 32) 34 rfl el_ent rfl ho rfl (h1.new hb) (length_flat encE 2 encE_len xs) (one_ents xs) (by simp only [maxLen]; omega) (by omega) (by omega) ?_; intro A8 c8 w8 o8 ch8 d8 _)
         have hB8 : Below w.heap.size w w8 := hb.trans (ch8.below (fun q hq e => by have := hrg q e; omega) (by omega))
         go_roundw
         case rel => exact ⟨A8, c8, hB8, .inr (.inl ⟨by go_num, by simp, by simpa using o8⟩)⟩
         case measure => simp [intOf]
       · obtain ⟨x0, x1⟩ := unhide HB wr hb
         have hs := hb.size
         have hrg := own_rng ho
         go_wp2_with (at_builtin; refine wpList_app rfl (.tmp 31) (.tmp 32) 34 rfl el_ent rfl ho rfl (h2.new hb) (length_flat encE 2 encE_len ys) (one_ents ys) (by simp only [maxLen]; omega) (by omega) (by omega) ?_; intro A8 c8 w8 o8 ch8 d8 _)
         have hB8 : Below w.heap.size w w8 := hb.trans (ch8.below (fun q hq e => by have := hrg q e; omega) (by omega))
         go_roundw
         case rel => exact ⟨A8, c8, hB8, .inr (.inr ⟨by go_num, rfl, o8⟩)⟩
         case measure => simp [intOf]
       · go_wp2
         go_ret
         rw [List.length_append, List.flatMap_append]
         exact ⟨A', c', rfl, ho, hb⟩
end Go.Proofs.YtihlhejencninaaGreat
