/- The effect of an action, in the reference: ActionReads, l4Put, l6Run. Printed by gen_l6.py. -/
import Derived.Test.YtihlhejencninaaGreatGrun
namespace Go.Proofs.YtihlhejencninaaGreat
open Go.RowKit
set_option linter.unusedVariables false
set_option linter.unusedSimpArgs false
attribute [local go_sem ↓] Go.wp_at_zero Go.wp_at_succ

def put4L (s : List Ent) (key value : Int) : List Ent := putGo key value false s
theorem l4Put_any (A : Option Addr) (c : Nat) (es : List Ent) (key value : Int) (w : World) (h : Rd w A (es.flatMap encE)) (hb : es.length ≤ 1099511627776) :
   Calls Tryz.prog 192 #[.slice A es.length c, .int .i64 key, .int .i64 value] w fun e w' => ∃ A' c', e = .returned (.slice A' (put4L es key value).length c') ∧ w'.ownsRow w.heap.size 79 2 (.slice A' (put4L es key value).length c') (put4L es key value).length ((put4L es key value).flatMap encE) ∧ Below w.heap.size w w' := by
 go_enter Tryz.func192, Tryz.ntmps192
 go_wp2
 go_loopw [7, 8, 9] (fun v pl i wr => ∃ (k : Nat) (b : Bool) (gs : List Ent) (A' : Option Addr) (c' : Nat), k ≤ es.length ∧ i = .int .i64 k ∧ pl = .bool b ∧ v = .slice A' gs.length c' ∧ gs.length ≤ k + b.toNat ∧
     put4L es key value = gs ++ putGo key value b (es.drop k) ∧ wr.ownsRow w.heap.size 79 2 (.slice A' gs.length c') gs.length (gs.flatMap encE) ∧ Below w.heap.size w wr) (fun _ _ i _ => es.length - (intOf i).toNat)
 case atStart => exact ⟨0, _, [], _, _, Nat.zero_le _, rfl, rfl, rfl, by simp, rfl, own_made w #[] 0 (Nat.le_refl _) (by simp [maxLen]) rfl, (Below.refl _ _).alloc (Nat.le_refl _) _⟩
 case round =>
   obtain ⟨k, pl, gs, A', c', hk, rfl, rfl, rfl, hgl, hput, hown, hbel⟩ := hrel
   have hbt : pl.toNat ≤ 1 := by cases pl <;> simp
   by_cases hlt : k < es.length
   · obtain ⟨b, off, rfl, hbb, hc1, hc2⟩ := h.ent hlt
     rw [drop_get es k hlt, putGo] at hput
     generalize hek : es[k] = ek at *
     clear hek
     have HC := hide (show ∀ W, Below w.heap.size w W → W.cell? ⟨b, off + k * 2, none⟩ = some (.int .i64 ek.k) ∧ W.cell? ⟨b, off + k * 2 + 1, none⟩ = some (.int .i64 ek.v) from fun W hb => ⟨(hb.cell (p := ⟨b, off + k * 2, none⟩) hbb).trans hc1, (hb.cell (p := ⟨b, off + k * 2 + 1, none⟩) hbb).trans hc2⟩)
     clear hc1 hc2
     have c1 := (unhide HC wr hbel).1
     have c2 := (unhide HC wr hbel).2
     by_cases h1 : pl = false ∧ key ≤ ek.k
     · obtain ⟨rfl, h1⟩ := h1
       simp only [Bool.toNat_false, Nat.add_zero] at hgl
       have g1 : decide (key ≤ ek.k) = true := by simpa using h1
       simp only [h1, and_self, if_true, g1, Bool.or_true] at hput
       by_cases h2 : ek.k = key
       · have g2 : (ek.k != key) = false := by simp [h2]
         simp only [h2, if_true, List.nil_append] at hput
         rw [← List.append_assoc] at hput
         have HP := hide hput
         clear hput h2
         go_wp2_with (at_builtin; refine wpList_app rfl (.tmp 28) (.tmp 32) 34 rfl el_ent rfl (own_alloc hown _) rfl (rd_lit wr [.int .i64 key, .int .i64 value] _) rfl (one_ents [⟨key, value⟩]) (by simp only [maxLen]; omega) (by omega) (by have := hbel.size; simp; omega) ?_; intro A1 c1 w1 o1 ch1 _ _; rw [snoc_ents] at o1; have hb1 := app_below hbel hown ch1 (Nat.le_refl _); have d1 := (unhide HC w1 hb1).1; have d2 := (unhide HC w1 hb1).2; have o1' : w1.ownsRow w.heap.size 79 2 (.slice A1 (gs ++ [(⟨key, value⟩ : Ent)]).length c1) (gs ++ [(⟨key, value⟩ : Ent)]).length ((gs ++ [(⟨key, value⟩ : Ent)]).flatMap encE) := (by simpa using o1))
         go_roundw
         case rel => exact ⟨k + 1, true, gs ++ [⟨key, value⟩], A1, c1, by omega, by go_num, rfl, by simp, by simp; omega, unhide HP, o1', hb1⟩
         case measure => simp [intOf]; omega
       · have g2 : (ek.k != key) = true := by simp [h2]
         simp only [h2, if_false] at hput
         rw [← List.append_assoc, ← List.append_assoc] at hput
         have HP := hide hput
         clear hput h2
         go_wp2_with (first | (at_builtin; refine wpList_app rfl (.tmp 28) (.tmp 32) 34 rfl el_ent rfl (own_alloc hown _) rfl (rd_lit wr [.int .i64 key, .int .i64 value] _) rfl (one_ents [⟨key, value⟩]) (by simp only [maxLen]; omega) (by omega) (by have := hbel.size; simp; omega) ?_; intro A1 c1 w1 o1 ch1 _ _; rw [snoc_ents] at o1; have hb1 := app_below hbel hown ch1 (Nat.le_refl _); have d1 := (unhide HC w1 hb1).1; have d2 := (unhide HC w1 hb1).2; have o1' : w1.ownsRow w.heap.size 79 2 (.slice A1 (gs ++ [(⟨key, value⟩ : Ent)]).length c1) (gs ++ [(⟨key, value⟩ : Ent)]).length ((gs ++ [(⟨key, value⟩ : Ent)]).flatMap encE) := (by simpa using o1)) | (at_builtin; refine wpList_app rfl (.tmp 41) (.tmp 46) 34 rfl el_ent rfl (own_alloc o1 _) rfl (rd_lit w1 [.int .i64 ek.k, .int .i64 ek.v] _) rfl (one_ents [⟨ek.k, ek.v⟩]) (by simp only [maxLen]; omega) (by omega) (by have := hb1.size; simp; omega) ?_; intro A2 c2 w2 o2 ch2 _ _; rw [snoc_ents] at o2))
         have hb2 := app_below hb1 o1 ch2 (Nat.le_refl _)
         go_roundw
         case rel => exact ⟨k + 1, true, gs ++ [⟨key, value⟩] ++ [ek], A2, c2, by omega, by go_num, rfl, by simp, by simp; omega, unhide HP, by simpa using o2, hb2⟩
         case measure => simp [intOf]; omega
     · simp only [h1, if_false, List.nil_append] at hput
       cases pl
       · have h3 : ¬ key ≤ ek.k := fun h => h1 ⟨rfl, h⟩
         have g1 : decide (key ≤ ek.k) = false := by simpa using h3
         simp only [g1, Bool.or_false] at hput
         clear h1
         by_cases h2 : ek.k = key
         · exact absurd (show key ≤ ek.k by omega) h3
         · have g2 : (ek.k != key) = true := by simp [h2]
           simp only [h2, if_false] at hput
           rw [← List.append_assoc] at hput
           have HP := hide hput
           clear hput h2
           go_wp2_with (at_builtin; refine wpList_app rfl (.tmp 41) (.tmp 46) 34 rfl el_ent rfl (own_alloc hown _) rfl (rd_lit wr [.int .i64 ek.k, .int .i64 ek.v] _) rfl (one_ents [⟨ek.k, ek.v⟩]) (by simp only [maxLen]; omega) (by omega) (by have := hbel.size; simp; omega) ?_; intro A2 c2 w2 o2 ch2 _ _; rw [snoc_ents] at o2)
           have hb2 := app_below hbel hown ch2 (Nat.le_refl _)
           go_roundw
           case rel => exact ⟨k + 1, false, gs ++ [ek], A2, c2, by omega, by go_num, rfl, by simp, by simp at hgl ⊢; omega, unhide HP, by simpa using o2, hb2⟩
           case measure => simp [intOf]; omega
       · simp only [Bool.true_or] at hput
         clear h1
         by_cases h2 : ek.k = key
         · have g2 : (ek.k != key) = false := by simp [h2]
           simp only [h2, if_true, List.nil_append] at hput
           have HP := hide hput
           clear hput h2
           go_wp2
           go_roundw
           case rel => exact ⟨k + 1, true, gs, A', c', by omega, by go_num, rfl, rfl, by simp at hgl ⊢; omega, unhide HP, hown, hbel⟩
           case measure => simp [intOf]; omega
         · have g2 : (ek.k != key) = true := by simp [h2]
           simp only [h2, if_false] at hput
           rw [← List.append_assoc] at hput
           have HP := hide hput
           clear hput h2
           go_wp2_with (at_builtin; refine wpList_app rfl (.tmp 41) (.tmp 46) 34 rfl el_ent rfl (own_alloc hown _) rfl (rd_lit wr [.int .i64 ek.k, .int .i64 ek.v] _) rfl (one_ents [⟨ek.k, ek.v⟩]) (by simp only [maxLen]; omega) (by omega) (by have := hbel.size; simp; omega) ?_; intro A2 c2 w2 o2 ch2 _ _; rw [snoc_ents] at o2)
           have hb2 := app_below hbel hown ch2 (Nat.le_refl _)
           go_roundw
           case rel => exact ⟨k + 1, true, gs ++ [ek], A2, c2, by omega, by go_num, rfl, by simp, by simp at hgl ⊢; omega, unhide HP, by simpa using o2, hb2⟩
           case measure => simp [intOf]; omega
   · rw [List.drop_of_length_le (by omega), putGo] at hput
     cases pl
     · simp only [Bool.false_eq_true, if_false] at hput
       have HP := hide hput
       clear hput
       go_wp2_with (at_builtin; refine wpList_app rfl (.tmp 50) (.tmp 54) 34 rfl el_ent rfl (own_alloc hown _) rfl (rd_lit wr [.int .i64 key, .int .i64 value] _) rfl (one_ents [⟨key, value⟩]) (by simp only [maxLen]; omega) (by omega) (by have := hbel.size; simp; omega) ?_; intro A1 c1 w1 o1 ch1 _ _; rw [snoc_ents] at o1)
       have hb1 := app_below hbel hown ch1 (Nat.le_refl _)
       go_ret
       rw [unhide HP]
       exact ⟨A1, c1, by simp, by simpa using o1, hb1⟩
     · simp only [if_true, List.append_nil] at hput
       have HP := hide hput
       clear hput
       go_wp2
       go_ret
       rw [unhide HP]
       exact ⟨A', c', rfl, hown, hbel⟩
set_option maxHeartbeats 1000000 in
theorem actionReads_spec (a : Act) (w : World) (ha : actB a = true) :
   Calls Tryz.prog 182 #[.agg #[.int .i64 a.kind, .int .i64 a.src, .int .i64 a.dst, .int .i64 a.amt]] w fun e w' => ∃ A c, e = .returned (.slice A (actReads a).length c) ∧ w'.ownsRow w.heap.size 3 1 (.slice A (actReads a).length c) (actReads a).length ((actReads a).map (.int .i64)) ∧ Below w.heap.size w w' := by
 have HA := hide ha
 have HB := hide (show Below w.heap.size w (w.alloc (.cells #[.int .i64 a.kind, .int .i64 a.src, .int .i64 a.dst, .int .i64 a.amt] 56)) from (Below.refl _ _).alloc (Nat.le_refl _) _)
 have HK := hide (Blk.new w 56 #[.int .i64 a.kind, .int .i64 a.src, .int .i64 a.dst, .int .i64 a.amt])
 clear ha
 by_cases j1 : a.kind = 1
 · have HX := hide (show actReads a = [] by unfold actReads; rw [if_pos j1])
   have k1 : (a.kind == 1) = true := by simpa using j1
   clear j1
   go_enter Tryz.func182, Tryz.ntmps182
   go_wp2_with fail
   refine (actionValid_spec a _).mono ?_
   rintro e w1 ⟨rfl, b1⟩
   rw [unhide HA]
   have ka := (unhide HK).new_ b1
   have z0 : w1.cell? ⟨w.heap.size, 0, none⟩ = some (.int .i64 a.kind) := ka.cell 0
   have z1 : w1.cell? ⟨w.heap.size, 1, none⟩ = some (.int .i64 a.src) := ka.cell 1
   have z2 : w1.cell? ⟨w.heap.size, 2, none⟩ = some (.int .i64 a.dst) := ka.cell 2
   have hB := bthen (unhide HB) b1
   go_wp2
   go_ret
   rw [unhide HX]
   exact ⟨_, _, rfl, own_made (base := w.heap.size) (e := 3) (size := 1) w1 #[] 0 hB.size (by simp [maxLen]) rfl, hB.alloc hB.size _⟩
 have k1 : (a.kind == 1) = false := by simpa using j1
 by_cases j3 : a.kind = 3
 · have HX := hide (show actReads a = [a.src] by unfold actReads; rw [if_neg j1, if_pos (.inl j3)])
   have k3 : (a.kind == 3) = true := by simpa using j3
   clear j1 j3
   go_enter Tryz.func182, Tryz.ntmps182
   go_wp2_with fail
   refine (actionValid_spec a _).mono ?_
   rintro e w1 ⟨rfl, b1⟩
   rw [unhide HA]
   have ka := (unhide HK).new_ b1
   have z0 : w1.cell? ⟨w.heap.size, 0, none⟩ = some (.int .i64 a.kind) := ka.cell 0
   have z1 : w1.cell? ⟨w.heap.size, 1, none⟩ = some (.int .i64 a.src) := ka.cell 1
   have z2 : w1.cell? ⟨w.heap.size, 2, none⟩ = some (.int .i64 a.dst) := ka.cell 2
   have hB := bthen (unhide HB) b1
   go_wp2
   go_ret
   rw [unhide HX]
   exact ⟨_, _, rfl, own_made (base := w.heap.size) (e := 3) (size := 1) w1 #[.int .i64 a.src] 1 hB.size (by simp [maxLen]) rfl, hB.alloc hB.size _⟩
 have k3 : (a.kind == 3) = false := by simpa using j3
 by_cases j6 : a.kind = 6
 · have HX := hide (show actReads a = [a.src] by unfold actReads; rw [if_neg j1, if_pos (.inr (.inl j6))])
   have k6 : (a.kind == 6) = true := by simpa using j6
   clear j1 j3 j6
   go_enter Tryz.func182, Tryz.ntmps182
   go_wp2_with fail
   refine (actionValid_spec a _).mono ?_
   rintro e w1 ⟨rfl, b1⟩
   rw [unhide HA]
   have ka := (unhide HK).new_ b1
   have z0 : w1.cell? ⟨w.heap.size, 0, none⟩ = some (.int .i64 a.kind) := ka.cell 0
   have z1 : w1.cell? ⟨w.heap.size, 1, none⟩ = some (.int .i64 a.src) := ka.cell 1
   have z2 : w1.cell? ⟨w.heap.size, 2, none⟩ = some (.int .i64 a.dst) := ka.cell 2
   have hB := bthen (unhide HB) b1
   go_wp2
   go_ret
   rw [unhide HX]
   exact ⟨_, _, rfl, own_made (base := w.heap.size) (e := 3) (size := 1) w1 #[.int .i64 a.src] 1 hB.size (by simp [maxLen]) rfl, hB.alloc hB.size _⟩
 have k6 : (a.kind == 6) = false := by simpa using j6
 by_cases js : a.src = a.dst
 · have HX := hide (show actReads a = [a.src] by unfold actReads; rw [if_neg j1, if_pos (.inr (.inr js))])
   have ks : (a.src == a.dst) = true := by simpa using js
   clear j1 j3 j6 js
   go_enter Tryz.func182, Tryz.ntmps182
   go_wp2_with fail
   refine (actionValid_spec a _).mono ?_
   rintro e w1 ⟨rfl, b1⟩
   rw [unhide HA]
   have ka := (unhide HK).new_ b1
   have z0 : w1.cell? ⟨w.heap.size, 0, none⟩ = some (.int .i64 a.kind) := ka.cell 0
   have z1 : w1.cell? ⟨w.heap.size, 1, none⟩ = some (.int .i64 a.src) := ka.cell 1
   have z2 : w1.cell? ⟨w.heap.size, 2, none⟩ = some (.int .i64 a.dst) := ka.cell 2
   have hB := bthen (unhide HB) b1
   go_wp2
   go_ret
   rw [unhide HX]
   exact ⟨_, _, rfl, own_made (base := w.heap.size) (e := 3) (size := 1) w1 #[.int .i64 a.src] 1 hB.size (by simp [maxLen]) rfl, hB.alloc hB.size _⟩
 have HX := hide (show actReads a = [a.src, a.dst] by unfold actReads; rw [if_neg j1, if_neg (by rintro (h | h | h); exact j3 h; exact j6 h; exact js h)])
 have ks : (a.src == a.dst) = false := by simpa using js
 clear j1 j3 j6 js
 go_enter Tryz.func182, Tryz.ntmps182
 go_wp2_with fail
 refine (actionValid_spec a _).mono ?_
 rintro e w1 ⟨rfl, b1⟩
 rw [unhide HA]
 have ka := (unhide HK).new_ b1
 have z0 : w1.cell? ⟨w.heap.size, 0, none⟩ = some (.int .i64 a.kind) := ka.cell 0
 have z1 : w1.cell? ⟨w.heap.size, 1, none⟩ = some (.int .i64 a.src) := ka.cell 1
 have z2 : w1.cell? ⟨w.heap.size, 2, none⟩ = some (.int .i64 a.dst) := ka.cell 2
 have hB := bthen (unhide HB) b1
 go_wp2
 go_ret
 rw [unhide HX]
 exact ⟨_, _, rfl, own_made (base := w.heap.size) (e := 3) (size := 1) w1 #[.int .i64 a.src, .int .i64 a.dst] 2 hB.size (by simp [maxLen]) rfl, hB.alloc hB.size _⟩
theorem actEff_reads (a : Act) (x y : Int) : (actEff a x y).reads = (actReads a).map fun k => ⟨k, if k = a.src then x else y⟩ := rfl
theorem actEff_done (a : Act) (x y : Int) : (actEff a x y).done = actDone a x y := rfl
theorem actEff_yes {a : Act} {x y : Int} (h : actDone a x y = true) : (actEff a x y).writes = (actWrites a).map fun k => ⟨k, wAt a x y k⟩ := by
 show (if _ then _ else _) = _
 rw [if_pos h]
theorem actEff_no {a : Act} {x y : Int} (h : actDone a x y = false) : (actEff a x y).writes = [] := by
 show (if _ then _ else _) = _
 rw [if_neg (by simp [h])]
/-- what must hold at the end of l6Run -/
def L6End (w : World) (E : Eff) (e : Ending) (w' : World) : Prop := ∃ A1 c1 A2 c2, e = .returned (.agg #[.bool E.done, .slice A1 E.reads.length c1, .slice A2 E.writes.length c2]) ∧ w'.ownsRow w.heap.size 79 2 (.slice A1 E.reads.length c1) E.reads.length (E.reads.flatMap encE) ∧ w'.ownsRow w.heap.size 79 2 (.slice A2 E.writes.length c2) E.writes.length (E.writes.flatMap encE) ∧ (∀ g, A1 = some ⟨g, 0, none⟩ → A2 ≠ some ⟨g, 0, none⟩) ∧ Below w.heap.size w w'
theorem l6_end {w Wb Wf : World} {g2 g3 n b1 b2 : Nat} {E : Eff} {d : Bool} {A' A2 : Option Addr} {c' c2 m : Nat} (hB : Below w.heap.size w Wb) (hc : Chg (fun q => q = g2 ∨ q = g3) Wb Wf) (h2 : w.heap.size ≤ g2) (h3 : w.heap.size ≤ g3)
   (hd : E.done = d) (hr : E.reads.length = n) (hm : E.writes.length = m) (rr : Wb.ownsRow b1 79 2 (.slice A' n c') n (E.reads.flatMap encE)) (h2' : g2 < b1) (h3' : g3 < b1) (hap : ∀ g, A' = some ⟨g, 0, none⟩ → g < b2) (hb2 : w.heap.size ≤ b2) (rw_ : Wf.ownsRow b2 79 2 (.slice A2 m c2) m (E.writes.flatMap encE)) :
   L6End w E (.returned (.agg #[.bool d, .slice A' n c', .slice A2 m c2])) Wf := by
 subst hd; subst hr; subst hm
 have r2 := own_chg rr hc (fun g hA e => by have := own_rng rr g hA; omega)
 exact ⟨A', c', A2, c2, rfl, own_base r2 (by omega), own_base rw_ hb2, fun g h1 h2 => by have := hap g h1; have := own_rng rw_ g h2; omega, hB.trans (hc.below (fun q hq e => by omega) hB.size)⟩
set_option maxRecDepth 100000 in
set_option maxHeartbeats 40000000 in
theorem l6Run_any (a : Act) (x y : Int) (w : World) (ha : actB a = true) (hx : 0 ≤ x ∧ x ≤ 1000000) (hy : 0 ≤ y ∧ y ≤ 1000000) :
   Calls Tryz.prog 183 #[.agg #[.int .i64 a.kind, .int .i64 a.src, .int .i64 a.dst, .int .i64 a.amt], .int .i64 x, .int .i64 y] w fun e w' => L6End w (actEff a x y) e w' := by
 have HA := hide ha
 have hrl := actReads_len a
 have HYES := hide (actEff_yes (a := a) (x := x) (y := y))
 have HNO := hide (actEff_no (a := a) (x := x) (y := y))
 have HDN := hide (actEff_done a x y)
 have HRD := hide (actEff_reads a x y)
 have HKM := hide (fun k (h : k ∈ actReads a) => actReads_mem h)
 have HK := hide (actK_kind (actB_bd ha).2.2.2)
 have ham := (actB_bd ha).2.2.1
 generalize hE : actEff a x y = E at *
 clear ha
 have hW : ∃ W : World, W = (((w.alloc (.cells #[.int .i64 a.kind, .int .i64 a.src, .int .i64 a.dst, .int .i64 a.amt] 56)).alloc (.cells #[.bool false, .slice none 0 0, .slice none 0 0] 107)).alloc (.cells #[.bool true, .slice none 0 0, .slice none 0 0] 107)) ∧ Blk W (w.heap.size) 56 #[.int .i64 a.kind, .int .i64 a.src, .int .i64 a.dst, .int .i64 a.amt] ∧ Blk W (w.heap.size + 1) 107 #[.bool false, .slice none 0 0, .slice none 0 0] ∧ Blk W (w.heap.size + 1 + 1) 107 #[.bool true, .slice none 0 0, .slice none 0 0] ∧ Below w.heap.size w W ∧ W.heap.size = w.heap.size + 1 + 1 + 1 := by
   refine ⟨_, rfl, ?_, ?_, ?_, ?_, ?_⟩
   · exact ((Blk.new _ _ _).alloc _).alloc _
   · have := (Blk.new (w.alloc (.cells #[.int .i64 a.kind, .int .i64 a.src, .int .i64 a.dst, .int .i64 a.amt] 56)) 107 #[.bool false, .slice none 0 0, .slice none 0 0]).alloc (.cells #[.bool true, .slice none 0 0, .slice none 0 0] 107)
     simpa using this
   · have := Blk.new ((w.alloc (.cells #[.int .i64 a.kind, .int .i64 a.src, .int .i64 a.dst, .int .i64 a.amt] 56)).alloc (.cells #[.bool false, .slice none 0 0, .slice none 0 0] 107)) 107 #[.bool true, .slice none 0 0, .slice none 0 0]
     simpa using this
   · exact (((Below.refl _ _).alloc (Nat.le_refl _) _).alloc (by simp) _).alloc (by simp; omega) _
   · simp
 obtain ⟨W, hWe, kA, kR, kE, hB, hsz⟩ := hW
 go_enter Tryz.func183, Tryz.ntmps183
 go_wp2_with fail
 rw [← hWe]
 clear hWe
 refine (actionReads_spec a W (unhide HA)).mono ?_
 rintro e w1 ⟨A1, c1, rfl, o1, b1⟩
 replace kA := kA.new_ b1
 replace kR := kR.new_ b1
 replace kE := kE.new_ b1
 have hs1 : w.heap.size + 1 + 1 + 1 ≤ w1.heap.size := by have := b1.size; omega
 replace hB := bthen hB b1
 have r1 := own_rdB o1 (Nat.le_refl _)
 clear o1 b1
 generalize hks : actReads a = ks at *
 have HKS := hide hks
 clear hks
 go_wp2
 go_loopw [9, 10] (fun i _ wr => ∃ (k : Nat) (A' : Option Addr) (c' : Nat), k ≤ ks.length ∧ i = .int .i64 k ∧ Blk wr (w.heap.size + 1 + 1) 107 #[.bool true, .slice A' k c', .slice none 0 0] ∧ wr.ownsRow w1.heap.size 79 2 (.slice A' k c') k (((ks.take k).map fun k => (⟨k, if k = a.src then x else y⟩ : Ent)).flatMap encE) ∧ Chg (fun q => q = w.heap.size + 1 + 1) w1 wr) (fun i _ _ => ks.length - (intOf i).toNat)
 case atStart => exact ⟨0, none, 0, Nat.zero_le _, rfl, kE, own_nil _ _ _ _, Chg.refl _ _⟩
 case round =>
   obtain ⟨k, A', c', hk, rfl, ke, hown, hch⟩ := hrel
   have ka := kA.chg hch (by omega)
   have kr := kR.chg hch (by omega)
   have hsr := hch.size
   by_cases hlt : k < ks.length
   · have hr1 := (r1.keep (Kp.chg hch fun k hk e => by omega)).rd
     obtain ⟨b, off, rfl, hbb, hc⟩ := hr1.int hlt
     have HT := hide (show (ks.take (k + 1)).map (fun k => (⟨k, if k = a.src then x else y⟩ : Ent)) = (ks.take k).map (fun k => (⟨k, if k = a.src then x else y⟩ : Ent)) ++ [⟨ks[k], if ks[k] = a.src then x else y⟩] by rw [List.take_succ_eq_append_getElem hlt, List.map_append]; rfl)
     generalize ks[k] = key at *
     have i1 : (k : Int) < (ks.length : Int) := by omega
     have c1' : wr.cell? ⟨w.heap.size, 1, none⟩ = some (.int .i64 a.src) := ka.cell 1
     by_cases hks : key = a.src
     · have hne : (key != a.src) = false := by simpa using hks
       have HT2 := hide (show (ks.take (k + 1)).map (fun k => (⟨k, if k = a.src then x else y⟩ : Ent)) = (ks.take k).map (fun k => (⟨k, if k = a.src then x else y⟩ : Ent)) ++ [⟨key, x⟩] by rw [unhide HT, if_pos hks])
       clear hks
       go_wp2
       go_quiet (fail)
       have hd : Chg (fun q => q = w.heap.size + 1 + 1) wr (wr.drewN nq) := (Chg.refl _ wr).drewN nq
       have kd := ke.drewN nq
       have od := own_drewN hown nq
       have hcd : (wr.drewN nq).cell? ⟨b, off + k, none⟩ = some (.int .i64 key) := hc
       have hbd : b < (wr.drewN nq).heap.size := hbb
       replace hd := hch.trans hd
       have hcc := hide hc
       have hbbh := hide hbb
       clear hc hbb
       generalize wr.drewN nq = wd at *
       have ce1 : wd.cell? ⟨w.heap.size + 1 + 1, 1, none⟩ = some (.slice A' k c') := kd.cell 1
       have hle := kd.lt
       go_wp2
       have hF : StBL [bV (.pointer (some ⟨w.heap.size + 1 + 1, 1, none⟩)), bV (.slice A' k c'), bV (.slice (some ⟨b, off, none⟩) ks.length c1), bV (.int .i64 (k : Int)), bV (.pointer (some ⟨b, off + k, none⟩)), bV (.int .i64 key), bV (.int .i64 x), bV (.agg #[.int .i64 key, .int .i64 x]), bRow wd.heap.size #[.int .i64 key, .int .i64 x]] := ⟨sb_V _, sb_V _, sb_V _, sb_V _, sb_V _, sb_V _, sb_V _, sb_V _, sb_Row _ _, trivial⟩
       refine wp_region_loc (by kernel_rfl) [(0, some 29), (1, some 30), (2, some 31), (3, some 32), (4, some 33), (5, some 34), (6, some 35), (7, some 36), (8, some 37)] [[], [(0, some 29)], [], [], [(2, some 31), (3, some 32)], [(4, some 33)], [], [(5, some 34), (6, some 35)], [(7, some 36)]] (by kernel_rfl)
         (locB [bV (.pointer (some ⟨w.heap.size + 1 + 1, 1, none⟩)), bV (.slice A' k c'), bV (.slice (some ⟨b, off, none⟩) ks.length c1), bV (.int .i64 (k : Int)), bV (.pointer (some ⟨b, off + k, none⟩)), bV (.int .i64 key), bV (.int .i64 x), bV (.agg #[.int .i64 key, .int .i64 x]), bRow wd.heap.size #[.int .i64 key, .int .i64 x]]) (fun a b => Below a.heap.size a b) noR [0, 0, 0, 0, 0, 0, 0, 0, 0] 0 (by kernel_rfl) (fun _ => Below.refl _ _) (fun _ _ _ => bthen) (locB_st hF _) trivial ?_ ?_
       · refine steps_cons ?rx0 (steps_cons ?rx1 (steps_cons ?rx2 (steps_cons ?rx3 (steps_cons ?rx4 (steps_cons ?rx5 (steps_cons ?rx6 (steps_cons ?rx7 (steps_cons ?rx8 (steps_nil)))))))))
         case rx0 =>
           intro w' m hE hR  Q hQ
           go_wp2
           exact hQ _ _ _ rfl rfl (Below.refl _ _) trivial
         case rx1 =>
           intro w' m hE hR v0 h0 Q hQ
           obtain rfl : v0 = _ := h0
           have z := ((below_undrew hE).cell (p := ⟨w.heap.size + 1 + 1, 1, none⟩) hle).trans ce1
           go_wp2
           exact hQ _ _ _ rfl rfl (Below.refl _ _) trivial
         case rx2 =>
           intro w' m hE hR  Q hQ
           go_wp2
           exact hQ _ _ _ rfl rfl (Below.refl _ _) trivial
         case rx3 =>
           intro w' m hE hR  Q hQ
           go_wp2
           exact hQ _ _ _ rfl rfl (Below.refl _ _) trivial
         case rx4 =>
           intro w' m hE hR v2 h2 v3 h3 Q hQ
           obtain rfl : v2 = _ := h2
           obtain rfl : v3 = _ := h3
           go_wp2
           exact hQ _ _ _ rfl rfl (Below.refl _ _) trivial
         case rx5 =>
           intro w' m hE hR v4 h4 Q hQ
           obtain rfl : v4 = _ := h4
           have z := ((below_undrew hE).cell (p := ⟨b, off + k, none⟩) hbd).trans hcd
           go_wp2
           exact hQ _ _ _ rfl rfl (Below.refl _ _) trivial
         case rx6 =>
           intro w' m hE hR  Q hQ
           go_wp2
           exact hQ _ _ _ rfl rfl (Below.refl _ _) trivial
         case rx7 =>
           intro w' m hE hR v5 h5 v6 h6 Q hQ
           obtain rfl : v5 = _ := h5
           obtain rfl : v6 = _ := h6
           go_wp2
           exact hQ _ _ _ rfl rfl (Below.refl _ _) trivial
         case rx8 =>
           intro w' m hE hR v7 h7 Q hQ
           obtain rfl : v7 = _ := h7
           go_wp2
           exact hQ _ _ _ rfl ⟨w'.heap.size, rfl, (below_undrew hE).size, Blk.new _ _ _⟩ ((Below.refl _ _).alloc (Nat.le_refl _) _) trivial
       intro w3 hE _
       rintro v0 h0 v1 h1 v2 - v3 - v4 - v5 - v6 - v7 - v8 ⟨q7, rfl, hq7, k7⟩
       obtain rfl : v0 = _ := h0
       obtain rfl : v1 = _ := h1
       have b3 := below_undrew hE
       have o3 := own_new od b3
       have ke3 := kd.new_ b3
       have hch3 := hd.trans (Chg.of_new (S := fun q => q = w.heap.size + 1 + 1) b3)
       have hs3 := hch3.size
       clear hown od hE ce1 hcd
       change wpList _ _ _ [_, _, _] _ _
       simp only [Go.Act.put, List.setIfInBounds_toArray, List.set_cons_succ, List.set_cons_zero]
       go_wp2_with (at_builtin; refine wpList_app rfl (.tmp 30) (.tmp 37) 34 rfl el_ent rfl o3 rfl (rd_blk k7) rfl (one_ents [⟨key, x⟩]) (by simp only [maxLen]; omega) (by omega) (by omega) ?_; intro A6 c6 w6 o6 ch6 _ _; rw [snoc_ents] at o6; have zE : w6.frozen? ⟨w.heap.size + 1 + 1, 1, none⟩ = false := (ke3.chg ch6 (fun e => by have := own_rng o3 _ e; omega)).frozen 1; have zC : w6.cell? ⟨w.heap.size + 1 + 1, 1, none⟩ = some (.slice A' k c') := (ke3.chg ch6 (fun e => by have := own_rng o3 _ e; omega)).cell 1)
       have ke6 := (ke3.chg ch6 (fun e => by have := own_rng o3 _ e; omega)).set_ 1 (.slice A6 (k + 1) c6)
       have hch6 := (chg_g hch3 o3 ch6 (Nat.le_refl _)).setCell (p := ⟨w.heap.size + 1 + 1, 1, none⟩) (.inl rfl) (.slice A6 (k + 1) c6)
       have o7 := own_far o6 (p := ⟨w.heap.size + 1 + 1, 1, none⟩) (fun g hA e => by have := own_rng o6 g hA; simp only at e; omega) (.slice A6 (k + 1) c6)
       go_roundw
       case rel => exact ⟨k + 1, A6, c6, by omega, by go_num, ke6, by rw [unhide HT2]; exact o7, hch6⟩
       case measure => simp [intOf]; omega
     · have hne : (key != a.src) = true := by simpa using hks
       have HT2 := hide (show (ks.take (k + 1)).map (fun k => (⟨k, if k = a.src then x else y⟩ : Ent)) = (ks.take k).map (fun k => (⟨k, if k = a.src then x else y⟩ : Ent)) ++ [⟨key, y⟩] by rw [unhide HT, if_neg hks])
       clear hks
       go_wp2
       go_quiet (fail)
       have hd : Chg (fun q => q = w.heap.size + 1 + 1) wr (wr.drewN nq) := (Chg.refl _ wr).drewN nq
       have kd := ke.drewN nq
       have od := own_drewN hown nq
       have hcd : (wr.drewN nq).cell? ⟨b, off + k, none⟩ = some (.int .i64 key) := hc
       have hbd : b < (wr.drewN nq).heap.size := hbb
       replace hd := hch.trans hd
       have hcc := hide hc
       have hbbh := hide hbb
       clear hc hbb
       generalize wr.drewN nq = wd at *
       have ce1 : wd.cell? ⟨w.heap.size + 1 + 1, 1, none⟩ = some (.slice A' k c') := kd.cell 1
       have hle := kd.lt
       go_wp2
       have hF : StBL [bV (.pointer (some ⟨w.heap.size + 1 + 1, 1, none⟩)), bV (.slice A' k c'), bV (.slice (some ⟨b, off, none⟩) ks.length c1), bV (.int .i64 (k : Int)), bV (.pointer (some ⟨b, off + k, none⟩)), bV (.int .i64 key), bV (.int .i64 y), bV (.agg #[.int .i64 key, .int .i64 y]), bRow wd.heap.size #[.int .i64 key, .int .i64 y]] := ⟨sb_V _, sb_V _, sb_V _, sb_V _, sb_V _, sb_V _, sb_V _, sb_V _, sb_Row _ _, trivial⟩
       refine wp_region_loc (by kernel_rfl) [(0, some 29), (1, some 30), (2, some 31), (3, some 32), (4, some 33), (5, some 34), (6, some 35), (7, some 36), (8, some 37)] [[], [(0, some 29)], [], [], [(2, some 31), (3, some 32)], [(4, some 33)], [], [(5, some 34), (6, some 35)], [(7, some 36)]] (by kernel_rfl)
         (locB [bV (.pointer (some ⟨w.heap.size + 1 + 1, 1, none⟩)), bV (.slice A' k c'), bV (.slice (some ⟨b, off, none⟩) ks.length c1), bV (.int .i64 (k : Int)), bV (.pointer (some ⟨b, off + k, none⟩)), bV (.int .i64 key), bV (.int .i64 y), bV (.agg #[.int .i64 key, .int .i64 y]), bRow wd.heap.size #[.int .i64 key, .int .i64 y]]) (fun a b => Below a.heap.size a b) noR [0, 0, 0, 0, 0, 0, 0, 0, 0] 0 (by kernel_rfl) (fun _ => Below.refl _ _) (fun _ _ _ => bthen) (locB_st hF _) trivial ?_ ?_
       · refine steps_cons ?ry0 (steps_cons ?ry1 (steps_cons ?ry2 (steps_cons ?ry3 (steps_cons ?ry4 (steps_cons ?ry5 (steps_cons ?ry6 (steps_cons ?ry7 (steps_cons ?ry8 (steps_nil)))))))))
         case ry0 =>
           intro w' m hE hR  Q hQ
           go_wp2
           exact hQ _ _ _ rfl rfl (Below.refl _ _) trivial
         case ry1 =>
           intro w' m hE hR v0 h0 Q hQ
           obtain rfl : v0 = _ := h0
           have z := ((below_undrew hE).cell (p := ⟨w.heap.size + 1 + 1, 1, none⟩) hle).trans ce1
           go_wp2
           exact hQ _ _ _ rfl rfl (Below.refl _ _) trivial
         case ry2 =>
           intro w' m hE hR  Q hQ
           go_wp2
           exact hQ _ _ _ rfl rfl (Below.refl _ _) trivial
         case ry3 =>
           intro w' m hE hR  Q hQ
           go_wp2
           exact hQ _ _ _ rfl rfl (Below.refl _ _) trivial
         case ry4 =>
           intro w' m hE hR v2 h2 v3 h3 Q hQ
           obtain rfl : v2 = _ := h2
           obtain rfl : v3 = _ := h3
           go_wp2
           exact hQ _ _ _ rfl rfl (Below.refl _ _) trivial
         case ry5 =>
           intro w' m hE hR v4 h4 Q hQ
           obtain rfl : v4 = _ := h4
           have z := ((below_undrew hE).cell (p := ⟨b, off + k, none⟩) hbd).trans hcd
           go_wp2
           exact hQ _ _ _ rfl rfl (Below.refl _ _) trivial
         case ry6 =>
           intro w' m hE hR  Q hQ
           go_wp2
           exact hQ _ _ _ rfl rfl (Below.refl _ _) trivial
         case ry7 =>
           intro w' m hE hR v5 h5 v6 h6 Q hQ
           obtain rfl : v5 = _ := h5
           obtain rfl : v6 = _ := h6
           go_wp2
           exact hQ _ _ _ rfl rfl (Below.refl _ _) trivial
         case ry8 =>
           intro w' m hE hR v7 h7 Q hQ
           obtain rfl : v7 = _ := h7
           go_wp2
           exact hQ _ _ _ rfl ⟨w'.heap.size, rfl, (below_undrew hE).size, Blk.new _ _ _⟩ ((Below.refl _ _).alloc (Nat.le_refl _) _) trivial
       intro w3 hE _
       rintro v0 h0 v1 h1 v2 - v3 - v4 - v5 - v6 - v7 - v8 ⟨q7, rfl, hq7, k7⟩
       obtain rfl : v0 = _ := h0
       obtain rfl : v1 = _ := h1
       have b3 := below_undrew hE
       have o3 := own_new od b3
       have ke3 := kd.new_ b3
       have hch3 := hd.trans (Chg.of_new (S := fun q => q = w.heap.size + 1 + 1) b3)
       have hs3 := hch3.size
       clear hown od hE ce1 hcd
       change wpList _ _ _ [_, _, _] _ _
       simp only [Go.Act.put, List.setIfInBounds_toArray, List.set_cons_succ, List.set_cons_zero]
       go_wp2_with (at_builtin; refine wpList_app rfl (.tmp 30) (.tmp 37) 34 rfl el_ent rfl o3 rfl (rd_blk k7) rfl (one_ents [⟨key, y⟩]) (by simp only [maxLen]; omega) (by omega) (by omega) ?_; intro A6 c6 w6 o6 ch6 _ _; rw [snoc_ents] at o6; have zE : w6.frozen? ⟨w.heap.size + 1 + 1, 1, none⟩ = false := (ke3.chg ch6 (fun e => by have := own_rng o3 _ e; omega)).frozen 1; have zC : w6.cell? ⟨w.heap.size + 1 + 1, 1, none⟩ = some (.slice A' k c') := (ke3.chg ch6 (fun e => by have := own_rng o3 _ e; omega)).cell 1)
       have ke6 := (ke3.chg ch6 (fun e => by have := own_rng o3 _ e; omega)).set_ 1 (.slice A6 (k + 1) c6)
       have hch6 := (chg_g hch3 o3 ch6 (Nat.le_refl _)).setCell (p := ⟨w.heap.size + 1 + 1, 1, none⟩) (.inl rfl) (.slice A6 (k + 1) c6)
       have o7 := own_far o6 (p := ⟨w.heap.size + 1 + 1, 1, none⟩) (fun g hA e => by have := own_rng o6 g hA; simp only at e; omega) (.slice A6 (k + 1) c6)
       go_roundw
       case rel => exact ⟨k + 1, A6, c6, by omega, by go_num, ke6, by rw [unhide HT2]; exact o7, hch6⟩
       case measure => simp [intOf]; omega
   · obtain rfl : k = ks.length := by omega
     rw [List.take_length] at hown
     have HRL := hide (show E.reads.length = ks.length by rw [unhide HRD, List.length_map])
     have HRG := hide (own_rng hown)
     have rdR := hown
     rw [← unhide HRD] at rdR
     have RDR := hide rdR
     have hB7 := hB.trans (hch.below (fun q hq e => by omega) hB.size)
     have hg3 := ke.lt
     have c0 : wr.cell? ⟨w.heap.size, 0, none⟩ = some (.int .i64 a.kind) := ka.cell 0
     have c1' : wr.cell? ⟨w.heap.size, 1, none⟩ = some (.int .i64 a.src) := ka.cell 1
     have c2 : wr.cell? ⟨w.heap.size, 2, none⟩ = some (.int .i64 a.dst) := ka.cell 2
     have c3 : wr.cell? ⟨w.heap.size, 3, none⟩ = some (.int .i64 a.amt) := ka.cell 3
     clear rdR hown hch r1 kA kR kE
     have e0 : wr.cell? ⟨w.heap.size + 1 + 1, 0, none⟩ = some (.bool true) := ke.cell 0
     have e1 : wr.cell? ⟨w.heap.size + 1 + 1, 1, none⟩ = some (.slice A' ks.length c') := ke.cell 1
     have e2 : wr.cell? ⟨w.heap.size + 1 + 1, 2, none⟩ = some (.slice none 0 0) := ke.cell 2
     have f0 : wr.frozen? ⟨w.heap.size + 1 + 1, 0, none⟩ = false := ke.frozen 0
     have f2 : wr.frozen? ⟨w.heap.size + 1 + 1, 2, none⟩ = false := ke.frozen 2
     have y0 : wr.cell? ⟨w.heap.size + 1, 0, none⟩ = some (.bool false) := kr.cell 0
     have y1 : wr.cell? ⟨w.heap.size + 1, 1, none⟩ = some (.slice none 0 0) := kr.cell 1
     have y2 : wr.cell? ⟨w.heap.size + 1, 2, none⟩ = some (.slice none 0 0) := kr.cell 2
     have p0 : wr.frozen? ⟨w.heap.size + 1, 0, none⟩ = false := kr.frozen 0
     have p1 : wr.frozen? ⟨w.heap.size + 1, 1, none⟩ = false := kr.frozen 1
     have p2 : wr.frozen? ⟨w.heap.size + 1, 2, none⟩ = false := kr.frozen 2
     have KR := hide kr
     have KA := hide ka
     have KE := hide ke
     have hg1 := ka.lt
     have hg2 := kr.lt
     clear kr ka ke
     have hBs := hB7.size
     rcases unhide HK with hkk | hkk | hkk | hkk | hkk | hkk
     · skip
       have b1 : (a.kind == 1) = true := by rw [hkk]; rfl
       have b6 : (a.kind == 6) = false := by rw [hkk]; rfl
       have b3 : (a.kind == 3) = false := by rw [hkk]; rfl
       have b5 : (a.kind == 5) = false := by rw [hkk]; rfl
       have b4 : (a.kind == 4) = false := by rw [hkk]; rfl
       have b2 : (a.kind == 2) = false := by rw [hkk]; rfl
       have hdn : actDone a x y = true := by simp [actDone, hkk]
       have HWE := hide (show E.writes = [⟨a.src, a.amt⟩] by rw [unhide HYES hdn]; simp [actWrites, wAt, hkk])
       have HD := hide (show E.done = true from (unhide HDN).trans hdn)
       clear hdn hkk
       go_wp2
       have kb := (Blk.set_ (Blk.set_ (Blk.set_ (Blk.far_ (unhide KR) (p := ⟨w.heap.size + 1 + 1, 2, none⟩) (by simp only []; omega) (.slice (some ⟨wr.heap.size, 0, none⟩) 1 1)) 0 (.bool true)) 1 ((.slice A' ks.length c'))) 2 (.slice (some ⟨wr.heap.size, 0, none⟩) 1 1)).alloc (.cells #[.int .i64 a.src, .int .i64 a.amt] 79)
       have hc := ((((((Chg.refl (fun q => q = w.heap.size + 1 ∨ q = w.heap.size + 1 + 1) wr).setCell (p := ⟨w.heap.size + 1 + 1, 2, none⟩) (.inl (.inr rfl)) (.slice (some ⟨wr.heap.size, 0, none⟩) 1 1)).setCell (p := ⟨w.heap.size + 1, 0, none⟩) (.inl (.inl rfl)) (.bool true)).setCell (p := ⟨w.heap.size + 1, 1, none⟩) (.inl (.inl rfl)) ((.slice A' ks.length c'))).setCell (p := ⟨w.heap.size + 1, 2, none⟩) (.inl (.inl rfl)) (.slice (some ⟨wr.heap.size, 0, none⟩) 1 1)).alloc (.cells #[.int .i64 a.src, .int .i64 a.amt] 79))
       refine bodyPost_ret (v := .agg #[.bool true, .slice A' ks.length c', .slice (some ⟨wr.heap.size, 0, none⟩) 1 1]) (results_cell_row rfl _ _ (w.heap.size + 1) 107 #[.bool true, .slice A' ks.length c', .slice (some ⟨wr.heap.size, 0, none⟩) 1 1] (0, 0) _ rfl kb Tryz.underlying107 rfl info_valEffect) rfl (l6_end (g2 := w.heap.size + 1) (g3 := w.heap.size + 1 + 1) hB7 hc (by omega) (by omega) (unhide HD) (unhide HRL) (by rw [unhide HWE]; rfl) (unhide RDR) (b2 := wr.heap.size) (by omega) (by omega) (fun g hA => by have := unhide HRG g hA; omega) (by omega) ?_)
       have kl := own_made (base := wr.heap.size) (e := 79) (size := 2) ((((wr.setCell ⟨w.heap.size + 1 + 1, 2, none⟩ (.slice (some ⟨wr.heap.size, 0, none⟩) 1 1)).setCell ⟨w.heap.size + 1, 0, none⟩ (.bool true)).setCell ⟨w.heap.size + 1, 1, none⟩ ((.slice A' ks.length c'))).setCell ⟨w.heap.size + 1, 2, none⟩ (.slice (some ⟨wr.heap.size, 0, none⟩) 1 1)) #[.int .i64 a.src, .int .i64 a.amt] 1 (by simp) (by simp [maxLen]) rfl
       simp only [World.size_setCell, World.size_alloc] at kl
       rw [unhide HWE]
       exact kl
     · skip
       have b1 : (a.kind == 1) = false := by rw [hkk]; rfl
       have b6 : (a.kind == 6) = true := by rw [hkk]; rfl
       have b3 : (a.kind == 3) = false := by rw [hkk]; rfl
       have b5 : (a.kind == 5) = false := by rw [hkk]; rfl
       have b4 : (a.kind == 4) = false := by rw [hkk]; rfl
       have b2 : (a.kind == 2) = false := by rw [hkk]; rfl
       have hcs : x - a.amt ≤ 0 ∨ 0 < x - a.amt := by omega
       rcases hcs with hcs | hcs
       · have hcs2 : ¬ 0 < x - a.amt := by omega
         have hdn : actDone a x y = true := by simp [actDone, hkk, Int.max_eq_left hcs]
         have HWE := hide (show E.writes = [⟨a.src, 0⟩] by rw [unhide HYES hdn]; simp [actWrites, wAt, hkk, Int.max_eq_left hcs])
         have HD := hide (show E.done = true from (unhide HDN).trans hdn)
         clear hdn hkk
         go_wp2
         have kb := (Blk.set_ (Blk.set_ (Blk.set_ (Blk.far_ (unhide KR) (p := ⟨w.heap.size + 1 + 1, 2, none⟩) (by simp only []; omega) (.slice (some ⟨wr.heap.size, 0, none⟩) 1 1)) 0 (.bool true)) 1 ((.slice A' ks.length c'))) 2 (.slice (some ⟨wr.heap.size, 0, none⟩) 1 1)).alloc (.cells #[.int .i64 a.src, .int .i64 0] 79)
         have hc := ((((((Chg.refl (fun q => q = w.heap.size + 1 ∨ q = w.heap.size + 1 + 1) wr).setCell (p := ⟨w.heap.size + 1 + 1, 2, none⟩) (.inl (.inr rfl)) (.slice (some ⟨wr.heap.size, 0, none⟩) 1 1)).setCell (p := ⟨w.heap.size + 1, 0, none⟩) (.inl (.inl rfl)) (.bool true)).setCell (p := ⟨w.heap.size + 1, 1, none⟩) (.inl (.inl rfl)) ((.slice A' ks.length c'))).setCell (p := ⟨w.heap.size + 1, 2, none⟩) (.inl (.inl rfl)) (.slice (some ⟨wr.heap.size, 0, none⟩) 1 1)).alloc (.cells #[.int .i64 a.src, .int .i64 0] 79))
         refine bodyPost_ret (v := .agg #[.bool true, .slice A' ks.length c', .slice (some ⟨wr.heap.size, 0, none⟩) 1 1]) (results_cell_row rfl _ _ (w.heap.size + 1) 107 #[.bool true, .slice A' ks.length c', .slice (some ⟨wr.heap.size, 0, none⟩) 1 1] (0, 0) _ rfl kb Tryz.underlying107 rfl info_valEffect) rfl (l6_end (g2 := w.heap.size + 1) (g3 := w.heap.size + 1 + 1) hB7 hc (by omega) (by omega) (unhide HD) (unhide HRL) (by rw [unhide HWE]; rfl) (unhide RDR) (b2 := wr.heap.size) (by omega) (by omega) (fun g hA => by have := unhide HRG g hA; omega) (by omega) ?_)
         have kl := own_made (base := wr.heap.size) (e := 79) (size := 2) ((((wr.setCell ⟨w.heap.size + 1 + 1, 2, none⟩ (.slice (some ⟨wr.heap.size, 0, none⟩) 1 1)).setCell ⟨w.heap.size + 1, 0, none⟩ (.bool true)).setCell ⟨w.heap.size + 1, 1, none⟩ ((.slice A' ks.length c'))).setCell ⟨w.heap.size + 1, 2, none⟩ (.slice (some ⟨wr.heap.size, 0, none⟩) 1 1)) #[.int .i64 a.src, .int .i64 0] 1 (by simp) (by simp [maxLen]) rfl
         simp only [World.size_setCell, World.size_alloc] at kl
         rw [unhide HWE]
         exact kl
       · have hcs2 : ¬ x - a.amt < 0 := by omega
         have hdn : actDone a x y = true := by simp [actDone, hkk, Int.max_eq_right (Int.le_of_lt hcs)]
         have HWE := hide (show E.writes = [⟨a.src, (x - a.amt)⟩] by rw [unhide HYES hdn]; simp [actWrites, wAt, hkk, Int.max_eq_right (Int.le_of_lt hcs)])
         have HD := hide (show E.done = true from (unhide HDN).trans hdn)
         clear hdn hkk
         go_wp2
         have kb := (Blk.set_ (Blk.set_ (Blk.set_ (Blk.far_ (unhide KR) (p := ⟨w.heap.size + 1 + 1, 2, none⟩) (by simp only []; omega) (.slice (some ⟨wr.heap.size, 0, none⟩) 1 1)) 0 (.bool true)) 1 ((.slice A' ks.length c'))) 2 (.slice (some ⟨wr.heap.size, 0, none⟩) 1 1)).alloc (.cells #[.int .i64 a.src, .int .i64 (x - a.amt)] 79)
         have hc := ((((((Chg.refl (fun q => q = w.heap.size + 1 ∨ q = w.heap.size + 1 + 1) wr).setCell (p := ⟨w.heap.size + 1 + 1, 2, none⟩) (.inl (.inr rfl)) (.slice (some ⟨wr.heap.size, 0, none⟩) 1 1)).setCell (p := ⟨w.heap.size + 1, 0, none⟩) (.inl (.inl rfl)) (.bool true)).setCell (p := ⟨w.heap.size + 1, 1, none⟩) (.inl (.inl rfl)) ((.slice A' ks.length c'))).setCell (p := ⟨w.heap.size + 1, 2, none⟩) (.inl (.inl rfl)) (.slice (some ⟨wr.heap.size, 0, none⟩) 1 1)).alloc (.cells #[.int .i64 a.src, .int .i64 (x - a.amt)] 79))
         refine bodyPost_ret (v := .agg #[.bool true, .slice A' ks.length c', .slice (some ⟨wr.heap.size, 0, none⟩) 1 1]) (results_cell_row rfl _ _ (w.heap.size + 1) 107 #[.bool true, .slice A' ks.length c', .slice (some ⟨wr.heap.size, 0, none⟩) 1 1] (0, 0) _ rfl kb Tryz.underlying107 rfl info_valEffect) rfl (l6_end (g2 := w.heap.size + 1) (g3 := w.heap.size + 1 + 1) hB7 hc (by omega) (by omega) (unhide HD) (unhide HRL) (by rw [unhide HWE]; rfl) (unhide RDR) (b2 := wr.heap.size) (by omega) (by omega) (fun g hA => by have := unhide HRG g hA; omega) (by omega) ?_)
         have kl := own_made (base := wr.heap.size) (e := 79) (size := 2) ((((wr.setCell ⟨w.heap.size + 1 + 1, 2, none⟩ (.slice (some ⟨wr.heap.size, 0, none⟩) 1 1)).setCell ⟨w.heap.size + 1, 0, none⟩ (.bool true)).setCell ⟨w.heap.size + 1, 1, none⟩ ((.slice A' ks.length c'))).setCell ⟨w.heap.size + 1, 2, none⟩ (.slice (some ⟨wr.heap.size, 0, none⟩) 1 1)) #[.int .i64 a.src, .int .i64 (x - a.amt)] 1 (by simp) (by simp [maxLen]) rfl
         simp only [World.size_setCell, World.size_alloc] at kl
         rw [unhide HWE]
         exact kl
     · skip
       have b1 : (a.kind == 1) = false := by rw [hkk]; rfl
       have b6 : (a.kind == 6) = false := by rw [hkk]; rfl
       have b3 : (a.kind == 3) = true := by rw [hkk]; rfl
       have b5 : (a.kind == 5) = false := by rw [hkk]; rfl
       have b4 : (a.kind == 4) = false := by rw [hkk]; rfl
       have b2 : (a.kind == 2) = false := by rw [hkk]; rfl
       have hdn : actDone a x y = true := by simp [actDone, hkk]
       have HWE := hide (show E.writes = [⟨a.dst, x⟩] by rw [unhide HYES hdn]; simp [actWrites, wAt, hkk])
       have HD := hide (show E.done = true from (unhide HDN).trans hdn)
       clear hdn hkk
       go_wp2
       have kb := (Blk.set_ (Blk.set_ (Blk.set_ (Blk.far_ (unhide KR) (p := ⟨w.heap.size + 1 + 1, 2, none⟩) (by simp only []; omega) (.slice (some ⟨wr.heap.size, 0, none⟩) 1 1)) 0 (.bool true)) 1 ((.slice A' ks.length c'))) 2 (.slice (some ⟨wr.heap.size, 0, none⟩) 1 1)).alloc (.cells #[.int .i64 a.dst, .int .i64 x] 79)
       have hc := ((((((Chg.refl (fun q => q = w.heap.size + 1 ∨ q = w.heap.size + 1 + 1) wr).setCell (p := ⟨w.heap.size + 1 + 1, 2, none⟩) (.inl (.inr rfl)) (.slice (some ⟨wr.heap.size, 0, none⟩) 1 1)).setCell (p := ⟨w.heap.size + 1, 0, none⟩) (.inl (.inl rfl)) (.bool true)).setCell (p := ⟨w.heap.size + 1, 1, none⟩) (.inl (.inl rfl)) ((.slice A' ks.length c'))).setCell (p := ⟨w.heap.size + 1, 2, none⟩) (.inl (.inl rfl)) (.slice (some ⟨wr.heap.size, 0, none⟩) 1 1)).alloc (.cells #[.int .i64 a.dst, .int .i64 x] 79))
       refine bodyPost_ret (v := .agg #[.bool true, .slice A' ks.length c', .slice (some ⟨wr.heap.size, 0, none⟩) 1 1]) (results_cell_row rfl _ _ (w.heap.size + 1) 107 #[.bool true, .slice A' ks.length c', .slice (some ⟨wr.heap.size, 0, none⟩) 1 1] (0, 0) _ rfl kb Tryz.underlying107 rfl info_valEffect) rfl (l6_end (g2 := w.heap.size + 1) (g3 := w.heap.size + 1 + 1) hB7 hc (by omega) (by omega) (unhide HD) (unhide HRL) (by rw [unhide HWE]; rfl) (unhide RDR) (b2 := wr.heap.size) (by omega) (by omega) (fun g hA => by have := unhide HRG g hA; omega) (by omega) ?_)
       have kl := own_made (base := wr.heap.size) (e := 79) (size := 2) ((((wr.setCell ⟨w.heap.size + 1 + 1, 2, none⟩ (.slice (some ⟨wr.heap.size, 0, none⟩) 1 1)).setCell ⟨w.heap.size + 1, 0, none⟩ (.bool true)).setCell ⟨w.heap.size + 1, 1, none⟩ ((.slice A' ks.length c'))).setCell ⟨w.heap.size + 1, 2, none⟩ (.slice (some ⟨wr.heap.size, 0, none⟩) 1 1)) #[.int .i64 a.dst, .int .i64 x] 1 (by simp) (by simp [maxLen]) rfl
       simp only [World.size_setCell, World.size_alloc] at kl
       rw [unhide HWE]
       exact kl
     · skip
       have b1 : (a.kind == 1) = false := by rw [hkk]; rfl
       have b6 : (a.kind == 6) = false := by rw [hkk]; rfl
       have b3 : (a.kind == 3) = false := by rw [hkk]; rfl
       have b5 : (a.kind == 5) = false := by rw [hkk]; rfl
       have b4 : (a.kind == 4) = true := by rw [hkk]; rfl
       have b2 : (a.kind == 2) = false := by rw [hkk]; rfl
       have hdn : actDone a x y = true := by simp [actDone, hkk]
       have HWE := hide (show E.writes = put4L [⟨a.src, y⟩] a.dst x by
         rw [unhide HYES hdn]
         by_cases hs : a.src = a.dst
         · simp [actWrites, wAt, hkk, hs, put4L, putGo]
         · by_cases hle : a.dst ≤ a.src
           · have h1 : ¬ a.src = a.dst := hs
             have h2 : min a.src a.dst = a.dst := Int.min_eq_right hle
             have h3 : max a.src a.dst = a.src := Int.max_eq_left hle
             simp [actWrites, wAt, hkk, hs, put4L, putGo, hle, h2, h3]
           · have h2 : min a.src a.dst = a.src := Int.min_eq_left (by omega)
             have h3 : max a.src a.dst = a.dst := Int.max_eq_right (by omega)
             simp [actWrites, wAt, hkk, hs, put4L, putGo, hle, h2, h3])
       have HD := hide (show E.done = true from (unhide HDN).trans hdn)
       clear hdn hkk
       go_wp2_with fail
       have hbl : Below wr.heap.size wr (wr.alloc (.cells #[.int .i64 a.src, .int .i64 y] 79)) := (Below.refl _ _).alloc (Nat.le_refl _) _
       refine (l4Put_any (some ⟨wr.heap.size, 0, none⟩) 1 [⟨a.src, y⟩] (a.dst) (x) _ (rd_lit wr [.int .i64 a.src, .int .i64 y] _) (by simp)).mono ?_
       rintro e w5 ⟨A5, c5, rfl, o5, b5⟩
       have b15 := bthen hbl b5
       have hcw := own_cap o5
       have rd5 := own_base o5 (show wr.heap.size ≤ _ from hbl.size)
       have kr5 := (unhide KR).new_ b15
       have ke5 := (unhide KE).new_ b15
       have ka5 := (unhide KA).new_ b15
       have hB5 := bthen hB7 b15
       have rr5 := own_new (unhide RDR) b15
       have hs5 := b15.size
       generalize put4L [⟨a.src, y⟩] (a.dst) (x) = pl at *
       clear c0 c1' c2 c3 e0 e1 e2 f0 f2 y0 y1 y2 p0 p1 p2
       have hl51 := ka5.lt
       have hl52 := kr5.lt
       have hl53 := ke5.lt
       have c0 : w5.cell? ⟨w.heap.size, 0, none⟩ = some (.int .i64 a.kind) := ka5.cell 0
       have c1 : w5.cell? ⟨w.heap.size, 1, none⟩ = some (.int .i64 a.src) := ka5.cell 1
       have c2 : w5.cell? ⟨w.heap.size, 2, none⟩ = some (.int .i64 a.dst) := ka5.cell 2
       have c3 : w5.cell? ⟨w.heap.size, 3, none⟩ = some (.int .i64 a.amt) := ka5.cell 3
       have e0 : w5.cell? ⟨w.heap.size + 1 + 1, 0, none⟩ = some (.bool true) := ke5.cell 0
       have e1 : w5.cell? ⟨w.heap.size + 1 + 1, 1, none⟩ = some ((.slice A' ks.length c')) := ke5.cell 1
       have e2 : w5.cell? ⟨w.heap.size + 1 + 1, 2, none⟩ = some (.slice none 0 0) := ke5.cell 2
       have f0 : w5.frozen? ⟨w.heap.size + 1 + 1, 0, none⟩ = false := ke5.frozen 0
       have f2 : w5.frozen? ⟨w.heap.size + 1 + 1, 2, none⟩ = false := ke5.frozen 2
       have y0 : w5.cell? ⟨w.heap.size + 1, 0, none⟩ = some (.bool false) := kr5.cell 0
       have y1 : w5.cell? ⟨w.heap.size + 1, 1, none⟩ = some (.slice none 0 0) := kr5.cell 1
       have y2 : w5.cell? ⟨w.heap.size + 1, 2, none⟩ = some (.slice none 0 0) := kr5.cell 2
       have p0 : w5.frozen? ⟨w.heap.size + 1, 0, none⟩ = false := kr5.frozen 0
       have p1 : w5.frozen? ⟨w.heap.size + 1, 1, none⟩ = false := kr5.frozen 1
       have p2 : w5.frozen? ⟨w.heap.size + 1, 2, none⟩ = false := kr5.frozen 2
       go_wp2
       have kb := Blk.set_ (Blk.set_ (Blk.set_ (Blk.far_ (kr5) (p := ⟨w.heap.size + 1 + 1, 2, none⟩) (by simp only []; omega) (.slice A5 pl.length c5)) 0 (.bool true)) 1 ((.slice A' ks.length c'))) 2 (.slice A5 pl.length c5)
       have hc := (((((Chg.refl (fun q => q = w.heap.size + 1 ∨ q = w.heap.size + 1 + 1) w5).setCell (p := ⟨w.heap.size + 1 + 1, 2, none⟩) (.inl (.inr rfl)) (.slice A5 pl.length c5)).setCell (p := ⟨w.heap.size + 1, 0, none⟩) (.inl (.inl rfl)) (.bool true)).setCell (p := ⟨w.heap.size + 1, 1, none⟩) (.inl (.inl rfl)) ((.slice A' ks.length c'))).setCell (p := ⟨w.heap.size + 1, 2, none⟩) (.inl (.inl rfl)) (.slice A5 pl.length c5))
       refine bodyPost_ret (v := .agg #[.bool true, .slice A' ks.length c', .slice A5 pl.length c5]) (results_cell_row rfl _ _ (w.heap.size + 1) 107 #[.bool true, .slice A' ks.length c', .slice A5 pl.length c5] (0, 0) _ rfl kb Tryz.underlying107 rfl info_valEffect) rfl (l6_end (g2 := w.heap.size + 1) (g3 := w.heap.size + 1 + 1) hB5 hc (by omega) (by omega) (unhide HD) (unhide HRL) (by rw [unhide HWE]) rr5 (b2 := wr.heap.size) (by omega) (by omega) (fun g hA => by have := unhide HRG g hA; omega) (by omega) ?_)
       rw [unhide HWE]
       exact own_chg rd5 hc (fun g hA e => by have := own_rng rd5 g hA; omega)
     · skip
       have b1 : (a.kind == 1) = false := by rw [hkk]; rfl
       have b6 : (a.kind == 6) = false := by rw [hkk]; rfl
       have b3 : (a.kind == 3) = false := by rw [hkk]; rfl
       have b5 : (a.kind == 5) = true := by rw [hkk]; rfl
       have b4 : (a.kind == 4) = false := by rw [hkk]; rfl
       have b2 : (a.kind == 2) = false := by rw [hkk]; rfl
       cases hdd : decide (x + y ≤ 1000000)
       · have hle : ¬ x + y ≤ 1000000 := by simpa using hdd
         have hdn : actDone a x y = false := by simp [actDone, hkk, hle]
         have HWE := hide (unhide HNO hdn)
         have HD := hide (show E.done = false from (unhide HDN).trans hdn)
         clear hdn hkk
         have zz : (((wr.setCell ⟨w.heap.size + 1 + 1, 0, none⟩ (.bool false)).setCell ⟨w.heap.size + 1 + 1, 2, none⟩ (.slice (some ⟨wr.heap.size, 0, none⟩) 1 1)).setCell ⟨w.heap.size + 1 + 1, 2, none⟩ (.slice (some ⟨wr.heap.size + 1, 0, none⟩) 0 0)).cell? ⟨w.heap.size + 1 + 1, 2, none⟩ = some (.slice (some ⟨wr.heap.size + 1, 0, none⟩) 0 0) := ((((unhide KE).set_ 0 (.bool false)).set_ 2 (.slice (some ⟨wr.heap.size, 0, none⟩) 1 1)).set_ 2 (.slice (some ⟨wr.heap.size + 1, 0, none⟩) 0 0)).cell 2
         go_wp2
         have kb := ((Blk.set_ (Blk.set_ (Blk.set_ (Blk.far_ (Blk.far_ (Blk.far_ (unhide KR) (p := ⟨w.heap.size + 1 + 1, 0, none⟩) (by simp only []; omega) (.bool false)) (p := ⟨w.heap.size + 1 + 1, 2, none⟩) (by simp only []; omega) (.slice (some ⟨wr.heap.size, 0, none⟩) 1 1)) (p := ⟨w.heap.size + 1 + 1, 2, none⟩) (by simp only []; omega) (.slice (some ⟨wr.heap.size + 1, 0, none⟩) 0 0)) 0 (.bool false)) 1 ((.slice A' ks.length c'))) 2 (.slice (some ⟨wr.heap.size + 1, 0, none⟩) 0 0)).alloc (.cells #[.int .i64 a.dst, .int .i64 (x + y)] 79)).alloc (.cells #[] 79)
         have hc := (((((((((Chg.refl (fun q => q = w.heap.size + 1 ∨ q = w.heap.size + 1 + 1) wr).setCell (p := ⟨w.heap.size + 1 + 1, 0, none⟩) (.inl (.inr rfl)) (.bool false)).setCell (p := ⟨w.heap.size + 1 + 1, 2, none⟩) (.inl (.inr rfl)) (.slice (some ⟨wr.heap.size, 0, none⟩) 1 1)).setCell (p := ⟨w.heap.size + 1 + 1, 2, none⟩) (.inl (.inr rfl)) (.slice (some ⟨wr.heap.size + 1, 0, none⟩) 0 0)).setCell (p := ⟨w.heap.size + 1, 0, none⟩) (.inl (.inl rfl)) (.bool false)).setCell (p := ⟨w.heap.size + 1, 1, none⟩) (.inl (.inl rfl)) ((.slice A' ks.length c'))).setCell (p := ⟨w.heap.size + 1, 2, none⟩) (.inl (.inl rfl)) (.slice (some ⟨wr.heap.size + 1, 0, none⟩) 0 0)).alloc (.cells #[.int .i64 a.dst, .int .i64 (x + y)] 79)).alloc (.cells #[] 79))
         refine bodyPost_ret (v := .agg #[.bool false, .slice A' ks.length c', .slice (some ⟨wr.heap.size + 1, 0, none⟩) 0 0]) (results_cell_row rfl _ _ (w.heap.size + 1) 107 #[.bool false, .slice A' ks.length c', .slice (some ⟨wr.heap.size + 1, 0, none⟩) 0 0] (0, 0) _ rfl kb Tryz.underlying107 rfl info_valEffect) rfl (l6_end (g2 := w.heap.size + 1) (g3 := w.heap.size + 1 + 1) hB7 hc (by omega) (by omega) (unhide HD) (unhide HRL) (by rw [unhide HWE]; rfl) (unhide RDR) (b2 := wr.heap.size) (by omega) (by omega) (fun g hA => by have := unhide HRG g hA; omega) (by omega) ?_)
         have kl := own_made (base := wr.heap.size) (e := 79) (size := 2) (((((((wr.setCell ⟨w.heap.size + 1 + 1, 0, none⟩ (.bool false)).setCell ⟨w.heap.size + 1 + 1, 2, none⟩ (.slice (some ⟨wr.heap.size, 0, none⟩) 1 1)).setCell ⟨w.heap.size + 1 + 1, 2, none⟩ (.slice (some ⟨wr.heap.size + 1, 0, none⟩) 0 0)).setCell ⟨w.heap.size + 1, 0, none⟩ (.bool false)).setCell ⟨w.heap.size + 1, 1, none⟩ ((.slice A' ks.length c'))).setCell ⟨w.heap.size + 1, 2, none⟩ (.slice (some ⟨wr.heap.size + 1, 0, none⟩) 0 0)).alloc (.cells #[.int .i64 a.dst, .int .i64 (x + y)] 79)) #[] 0 (by simp) (by simp [maxLen]) rfl
         simp only [World.size_setCell, World.size_alloc] at kl
         rw [unhide HWE]
         exact kl
       · have hle : x + y ≤ 1000000 := by simpa using hdd
         have hdn : actDone a x y = true := by simp [actDone, hkk, hle]
         have HWE := hide (show E.writes = [⟨a.dst, x + y⟩] by rw [unhide HYES hdn]; simp [actWrites, wAt, hkk])
         have HD := hide (show E.done = true from (unhide HDN).trans hdn)
         clear hdn hkk
         go_wp2
         have kb := (Blk.set_ (Blk.set_ (Blk.set_ (Blk.far_ (Blk.far_ (unhide KR) (p := ⟨w.heap.size + 1 + 1, 0, none⟩) (by simp only []; omega) (.bool true)) (p := ⟨w.heap.size + 1 + 1, 2, none⟩) (by simp only []; omega) (.slice (some ⟨wr.heap.size, 0, none⟩) 1 1)) 0 (.bool true)) 1 ((.slice A' ks.length c'))) 2 (.slice (some ⟨wr.heap.size, 0, none⟩) 1 1)).alloc (.cells #[.int .i64 a.dst, .int .i64 (x + y)] 79)
         have hc := (((((((Chg.refl (fun q => q = w.heap.size + 1 ∨ q = w.heap.size + 1 + 1) wr).setCell (p := ⟨w.heap.size + 1 + 1, 0, none⟩) (.inl (.inr rfl)) (.bool true)).setCell (p := ⟨w.heap.size + 1 + 1, 2, none⟩) (.inl (.inr rfl)) (.slice (some ⟨wr.heap.size, 0, none⟩) 1 1)).setCell (p := ⟨w.heap.size + 1, 0, none⟩) (.inl (.inl rfl)) (.bool true)).setCell (p := ⟨w.heap.size + 1, 1, none⟩) (.inl (.inl rfl)) ((.slice A' ks.length c'))).setCell (p := ⟨w.heap.size + 1, 2, none⟩) (.inl (.inl rfl)) (.slice (some ⟨wr.heap.size, 0, none⟩) 1 1)).alloc (.cells #[.int .i64 a.dst, .int .i64 (x + y)] 79))
         refine bodyPost_ret (v := .agg #[.bool true, .slice A' ks.length c', .slice (some ⟨wr.heap.size, 0, none⟩) 1 1]) (results_cell_row rfl _ _ (w.heap.size + 1) 107 #[.bool true, .slice A' ks.length c', .slice (some ⟨wr.heap.size, 0, none⟩) 1 1] (0, 0) _ rfl kb Tryz.underlying107 rfl info_valEffect) rfl (l6_end (g2 := w.heap.size + 1) (g3 := w.heap.size + 1 + 1) hB7 hc (by omega) (by omega) (unhide HD) (unhide HRL) (by rw [unhide HWE]; rfl) (unhide RDR) (b2 := wr.heap.size) (by omega) (by omega) (fun g hA => by have := unhide HRG g hA; omega) (by omega) ?_)
         have kl := own_made (base := wr.heap.size) (e := 79) (size := 2) (((((wr.setCell ⟨w.heap.size + 1 + 1, 0, none⟩ (.bool true)).setCell ⟨w.heap.size + 1 + 1, 2, none⟩ (.slice (some ⟨wr.heap.size, 0, none⟩) 1 1)).setCell ⟨w.heap.size + 1, 0, none⟩ (.bool true)).setCell ⟨w.heap.size + 1, 1, none⟩ ((.slice A' ks.length c'))).setCell ⟨w.heap.size + 1, 2, none⟩ (.slice (some ⟨wr.heap.size, 0, none⟩) 1 1)) #[.int .i64 a.dst, .int .i64 (x + y)] 1 (by simp) (by simp [maxLen]) rfl
         simp only [World.size_setCell, World.size_alloc] at kl
         rw [unhide HWE]
         exact kl
     · skip
       have b1 : (a.kind == 1) = false := by rw [hkk]; rfl
       have b6 : (a.kind == 6) = false := by rw [hkk]; rfl
       have b3 : (a.kind == 3) = false := by rw [hkk]; rfl
       have b5 : (a.kind == 5) = false := by rw [hkk]; rfl
       have b4 : (a.kind == 4) = false := by rw [hkk]; rfl
       have b2 : (a.kind == 2) = true := by rw [hkk]; rfl
       by_cases hs : a.src = a.dst
       · have hsb : (a.src == a.dst) = true := by simpa using hs
         cases hge : decide (a.amt ≤ x)
         · have hdn : actDone a x y = false := by simp [actDone, hkk, hs]; simpa using hge
           have HDD := hide hdn
           have HWE := hide (unhide HNO hdn)
           have HD := hide (show E.done = false from (unhide HDN).trans hdn)
           have HS := hide hs
           clear hdn hkk hs
           go_wp2_with fail
           have ke4 := (unhide KE).set_ 0 (.bool false)
           have hc4 := (Chg.refl (fun q => q = w.heap.size + 1 + 1) wr).setCell (p := ⟨w.heap.size + 1 + 1, 0, none⟩) (.inl rfl) (.bool false)
           have hbl0 : Chg (fun q => q = w.heap.size + 1 + 1) wr ((wr.setCell ⟨w.heap.size + 1 + 1, 0, none⟩ (.bool false)).alloc (.cells #[.int .i64 a.src, .int .i64 (x - a.amt)] 79)) := hc4.alloc _
           have kl0 := Blk.new (wr.setCell ⟨w.heap.size + 1 + 1, 0, none⟩ (.bool false)) 79 #[.int .i64 a.src, .int .i64 (x - a.amt)]
           have ke0 := ke4.alloc (.cells #[.int .i64 a.src, .int .i64 (x - a.amt)] 79)
           simp only [World.size_setCell] at kl0
           refine at_world (C := fun w => Calls _ _ _ w _) (F := fun W => Blk W (w.heap.size + 1 + 1) 107 #[.bool false, .slice A' ks.length c', .slice none 0 0] ∧ Blk W wr.heap.size 79 #[.int .i64 a.src, .int .i64 (x - a.amt)] ∧ Chg (fun q => q = w.heap.size + 1 + 1) wr W) ⟨ke0, kl0, hbl0⟩ ?_
           rintro w4 ⟨ke4, kl4, hc4⟩
           refine (l4Put_any (some ⟨wr.heap.size, 0, none⟩) 1 [⟨a.src, x - a.amt⟩] a.dst (y + a.amt) w4 (rd_blk kl4) (by simp)).mono ?_
           rintro e w5 ⟨A5, c5, rfl, o5, b5⟩
           have hc5 := hc4.trans (Chg.of_new (S := fun q => q = w.heap.size + 1 + 1) b5)
           have hcw := own_cap o5
           have rd5 := own_base o5 (show wr.heap.size ≤ w4.heap.size from hc4.size)
           have kr5 := (unhide KR).chg hc5 (by omega)
           have ka5 := (unhide KA).chg hc5 (by omega)
           have ke5 := ke4.new_ b5
           have hB5 := hB7.trans (hc5.below (fun q hq e => by omega) hB7.size)
           have rr5 := own_chg (unhide RDR) hc5 (fun g hA e => by have := unhide HRG g hA; omega)
           have hs5 := hc5.size
           have hl5 := ke5.lt
           generalize put4L [⟨a.src, x - a.amt⟩] a.dst (y + a.amt) = pl at *
           clear c0 c1' c2 c3 e0 e1 e2 f0 f2 y0 y1 y2 p0 p1 p2
           have hl51 := ka5.lt
           have hl52 := kr5.lt
           have hl53 := ke5.lt
           have c0 : w5.cell? ⟨w.heap.size, 0, none⟩ = some (.int .i64 a.kind) := ka5.cell 0
           have c1 : w5.cell? ⟨w.heap.size, 1, none⟩ = some (.int .i64 a.src) := ka5.cell 1
           have c2 : w5.cell? ⟨w.heap.size, 2, none⟩ = some (.int .i64 a.dst) := ka5.cell 2
           have c3 : w5.cell? ⟨w.heap.size, 3, none⟩ = some (.int .i64 a.amt) := ka5.cell 3
           have e0 : w5.cell? ⟨w.heap.size + 1 + 1, 0, none⟩ = some (.bool false) := ke5.cell 0
           have e1 : w5.cell? ⟨w.heap.size + 1 + 1, 1, none⟩ = some ((.slice A' ks.length c')) := ke5.cell 1
           have e2 : w5.cell? ⟨w.heap.size + 1 + 1, 2, none⟩ = some (.slice none 0 0) := ke5.cell 2
           have f0 : w5.frozen? ⟨w.heap.size + 1 + 1, 0, none⟩ = false := ke5.frozen 0
           have f2 : w5.frozen? ⟨w.heap.size + 1 + 1, 2, none⟩ = false := ke5.frozen 2
           have y0 : w5.cell? ⟨w.heap.size + 1, 0, none⟩ = some (.bool false) := kr5.cell 0
           have y1 : w5.cell? ⟨w.heap.size + 1, 1, none⟩ = some (.slice none 0 0) := kr5.cell 1
           have y2 : w5.cell? ⟨w.heap.size + 1, 2, none⟩ = some (.slice none 0 0) := kr5.cell 2
           have p0 : w5.frozen? ⟨w.heap.size + 1, 0, none⟩ = false := kr5.frozen 0
           have p1 : w5.frozen? ⟨w.heap.size + 1, 1, none⟩ = false := kr5.frozen 1
           have p2 : w5.frozen? ⟨w.heap.size + 1, 2, none⟩ = false := kr5.frozen 2
           have zz : (((w5.setCell ⟨w.heap.size + 1 + 1, 2, none⟩ (.slice A5 pl.length c5)).setCell ⟨w.heap.size + 1 + 1, 2, none⟩ (.slice (some ⟨w5.heap.size, 0, none⟩) 1 1)).setCell ⟨w.heap.size + 1 + 1, 2, none⟩ (.slice (some ⟨w5.heap.size + 1, 0, none⟩) 0 0)).cell? ⟨w.heap.size + 1 + 1, 2, none⟩ = some (.slice (some ⟨w5.heap.size + 1, 0, none⟩) 0 0) := (((ke5.set_ 2 (.slice A5 pl.length c5)).set_ 2 (.slice (some ⟨w5.heap.size, 0, none⟩) 1 1)).set_ 2 (.slice (some ⟨w5.heap.size + 1, 0, none⟩) 0 0)).cell 2
           go_wp2
           have hBs5 := hB5.size
           have kb := ((Blk.set_ (Blk.set_ (Blk.set_ (Blk.far_ (Blk.far_ (Blk.far_ (kr5) (p := ⟨w.heap.size + 1 + 1, 2, none⟩) (by simp only []; omega) (.slice A5 pl.length c5)) (p := ⟨w.heap.size + 1 + 1, 2, none⟩) (by simp only []; omega) (.slice (some ⟨w5.heap.size, 0, none⟩) 1 1)) (p := ⟨w.heap.size + 1 + 1, 2, none⟩) (by simp only []; omega) (.slice (some ⟨w5.heap.size + 1, 0, none⟩) 0 0)) 0 (.bool false)) 1 ((.slice A' ks.length c'))) 2 (.slice (some ⟨w5.heap.size + 1, 0, none⟩) 0 0)).alloc (.cells #[.int .i64 a.src, .int .i64 x] 79)).alloc (.cells #[] 79)
           have hc := (((((((((Chg.refl (fun q => q = w.heap.size + 1 ∨ q = w.heap.size + 1 + 1) w5).setCell (p := ⟨w.heap.size + 1 + 1, 2, none⟩) (.inl (.inr rfl)) (.slice A5 pl.length c5)).setCell (p := ⟨w.heap.size + 1 + 1, 2, none⟩) (.inl (.inr rfl)) (.slice (some ⟨w5.heap.size, 0, none⟩) 1 1)).setCell (p := ⟨w.heap.size + 1 + 1, 2, none⟩) (.inl (.inr rfl)) (.slice (some ⟨w5.heap.size + 1, 0, none⟩) 0 0)).setCell (p := ⟨w.heap.size + 1, 0, none⟩) (.inl (.inl rfl)) (.bool false)).setCell (p := ⟨w.heap.size + 1, 1, none⟩) (.inl (.inl rfl)) ((.slice A' ks.length c'))).setCell (p := ⟨w.heap.size + 1, 2, none⟩) (.inl (.inl rfl)) (.slice (some ⟨w5.heap.size + 1, 0, none⟩) 0 0)).alloc (.cells #[.int .i64 a.src, .int .i64 x] 79)).alloc (.cells #[] 79))
           refine bodyPost_ret (v := .agg #[.bool false, .slice A' ks.length c', .slice (some ⟨w5.heap.size + 1, 0, none⟩) 0 0]) (results_cell_row rfl _ _ (w.heap.size + 1) 107 #[.bool false, .slice A' ks.length c', .slice (some ⟨w5.heap.size + 1, 0, none⟩) 0 0] (0, 0) _ rfl kb Tryz.underlying107 rfl info_valEffect) rfl (l6_end (g2 := w.heap.size + 1) (g3 := w.heap.size + 1 + 1) hB5 hc (by omega) (by omega) (unhide HD) (unhide HRL) (by rw [unhide HWE]; rfl) (rr5) (b2 := w5.heap.size) (by omega) (by omega) (fun g hA => by have := unhide HRG g hA; omega) (by omega) ?_)
           have kl := own_made (base := w5.heap.size) (e := 79) (size := 2) (((((((w5.setCell ⟨w.heap.size + 1 + 1, 2, none⟩ (.slice A5 pl.length c5)).setCell ⟨w.heap.size + 1 + 1, 2, none⟩ (.slice (some ⟨w5.heap.size, 0, none⟩) 1 1)).setCell ⟨w.heap.size + 1 + 1, 2, none⟩ (.slice (some ⟨w5.heap.size + 1, 0, none⟩) 0 0)).setCell ⟨w.heap.size + 1, 0, none⟩ (.bool false)).setCell ⟨w.heap.size + 1, 1, none⟩ ((.slice A' ks.length c'))).setCell ⟨w.heap.size + 1, 2, none⟩ (.slice (some ⟨w5.heap.size + 1, 0, none⟩) 0 0)).alloc (.cells #[.int .i64 a.src, .int .i64 x] 79)) #[] 0 (by simp) (by simp [maxLen]) rfl
           simp only [World.size_setCell, World.size_alloc] at kl
           rw [unhide HWE]
           exact kl
         · have hdn : actDone a x y = true := by simp [actDone, hkk, hs]; simpa using hge
           have HDD := hide hdn
           have HWE := hide (show E.writes = [⟨a.src, x⟩] by rw [unhide HYES hdn]; simp [actWrites, wAt, hkk, hs])
           have HD := hide (show E.done = true from (unhide HDN).trans hdn)
           have HS := hide hs
           clear hdn hkk hs
           go_wp2_with fail
           have ke4 := (unhide KE).set_ 0 (.bool true)
           have hc4 := (Chg.refl (fun q => q = w.heap.size + 1 + 1) wr).setCell (p := ⟨w.heap.size + 1 + 1, 0, none⟩) (.inl rfl) (.bool true)
           have hbl0 : Chg (fun q => q = w.heap.size + 1 + 1) wr ((wr.setCell ⟨w.heap.size + 1 + 1, 0, none⟩ (.bool true)).alloc (.cells #[.int .i64 a.src, .int .i64 (x - a.amt)] 79)) := hc4.alloc _
           have kl0 := Blk.new (wr.setCell ⟨w.heap.size + 1 + 1, 0, none⟩ (.bool true)) 79 #[.int .i64 a.src, .int .i64 (x - a.amt)]
           have ke0 := ke4.alloc (.cells #[.int .i64 a.src, .int .i64 (x - a.amt)] 79)
           simp only [World.size_setCell] at kl0
           refine at_world (C := fun w => Calls _ _ _ w _) (F := fun W => Blk W (w.heap.size + 1 + 1) 107 #[.bool true, .slice A' ks.length c', .slice none 0 0] ∧ Blk W wr.heap.size 79 #[.int .i64 a.src, .int .i64 (x - a.amt)] ∧ Chg (fun q => q = w.heap.size + 1 + 1) wr W) ⟨ke0, kl0, hbl0⟩ ?_
           rintro w4 ⟨ke4, kl4, hc4⟩
           refine (l4Put_any (some ⟨wr.heap.size, 0, none⟩) 1 [⟨a.src, x - a.amt⟩] a.dst (y + a.amt) w4 (rd_blk kl4) (by simp)).mono ?_
           rintro e w5 ⟨A5, c5, rfl, o5, b5⟩
           have hc5 := hc4.trans (Chg.of_new (S := fun q => q = w.heap.size + 1 + 1) b5)
           have hcw := own_cap o5
           have rd5 := own_base o5 (show wr.heap.size ≤ w4.heap.size from hc4.size)
           have kr5 := (unhide KR).chg hc5 (by omega)
           have ka5 := (unhide KA).chg hc5 (by omega)
           have ke5 := ke4.new_ b5
           have hB5 := hB7.trans (hc5.below (fun q hq e => by omega) hB7.size)
           have rr5 := own_chg (unhide RDR) hc5 (fun g hA e => by have := unhide HRG g hA; omega)
           have hs5 := hc5.size
           have hl5 := ke5.lt
           generalize put4L [⟨a.src, x - a.amt⟩] a.dst (y + a.amt) = pl at *
           clear c0 c1' c2 c3 e0 e1 e2 f0 f2 y0 y1 y2 p0 p1 p2
           have hl51 := ka5.lt
           have hl52 := kr5.lt
           have hl53 := ke5.lt
           have c0 : w5.cell? ⟨w.heap.size, 0, none⟩ = some (.int .i64 a.kind) := ka5.cell 0
           have c1 : w5.cell? ⟨w.heap.size, 1, none⟩ = some (.int .i64 a.src) := ka5.cell 1
           have c2 : w5.cell? ⟨w.heap.size, 2, none⟩ = some (.int .i64 a.dst) := ka5.cell 2
           have c3 : w5.cell? ⟨w.heap.size, 3, none⟩ = some (.int .i64 a.amt) := ka5.cell 3
           have e0 : w5.cell? ⟨w.heap.size + 1 + 1, 0, none⟩ = some (.bool true) := ke5.cell 0
           have e1 : w5.cell? ⟨w.heap.size + 1 + 1, 1, none⟩ = some ((.slice A' ks.length c')) := ke5.cell 1
           have e2 : w5.cell? ⟨w.heap.size + 1 + 1, 2, none⟩ = some (.slice none 0 0) := ke5.cell 2
           have f0 : w5.frozen? ⟨w.heap.size + 1 + 1, 0, none⟩ = false := ke5.frozen 0
           have f2 : w5.frozen? ⟨w.heap.size + 1 + 1, 2, none⟩ = false := ke5.frozen 2
           have y0 : w5.cell? ⟨w.heap.size + 1, 0, none⟩ = some (.bool false) := kr5.cell 0
           have y1 : w5.cell? ⟨w.heap.size + 1, 1, none⟩ = some (.slice none 0 0) := kr5.cell 1
           have y2 : w5.cell? ⟨w.heap.size + 1, 2, none⟩ = some (.slice none 0 0) := kr5.cell 2
           have p0 : w5.frozen? ⟨w.heap.size + 1, 0, none⟩ = false := kr5.frozen 0
           have p1 : w5.frozen? ⟨w.heap.size + 1, 1, none⟩ = false := kr5.frozen 1
           have p2 : w5.frozen? ⟨w.heap.size + 1, 2, none⟩ = false := kr5.frozen 2
           go_wp2
           have hBs5 := hB5.size
           have kb := (Blk.set_ (Blk.set_ (Blk.set_ (Blk.far_ (Blk.far_ (kr5) (p := ⟨w.heap.size + 1 + 1, 2, none⟩) (by simp only []; omega) (.slice A5 pl.length c5)) (p := ⟨w.heap.size + 1 + 1, 2, none⟩) (by simp only []; omega) (.slice (some ⟨w5.heap.size, 0, none⟩) 1 1)) 0 (.bool true)) 1 ((.slice A' ks.length c'))) 2 (.slice (some ⟨w5.heap.size, 0, none⟩) 1 1)).alloc (.cells #[.int .i64 a.src, .int .i64 x] 79)
           have hc := (((((((Chg.refl (fun q => q = w.heap.size + 1 ∨ q = w.heap.size + 1 + 1) w5).setCell (p := ⟨w.heap.size + 1 + 1, 2, none⟩) (.inl (.inr rfl)) (.slice A5 pl.length c5)).setCell (p := ⟨w.heap.size + 1 + 1, 2, none⟩) (.inl (.inr rfl)) (.slice (some ⟨w5.heap.size, 0, none⟩) 1 1)).setCell (p := ⟨w.heap.size + 1, 0, none⟩) (.inl (.inl rfl)) (.bool true)).setCell (p := ⟨w.heap.size + 1, 1, none⟩) (.inl (.inl rfl)) ((.slice A' ks.length c'))).setCell (p := ⟨w.heap.size + 1, 2, none⟩) (.inl (.inl rfl)) (.slice (some ⟨w5.heap.size, 0, none⟩) 1 1)).alloc (.cells #[.int .i64 a.src, .int .i64 x] 79))
           refine bodyPost_ret (v := .agg #[.bool true, .slice A' ks.length c', .slice (some ⟨w5.heap.size, 0, none⟩) 1 1]) (results_cell_row rfl _ _ (w.heap.size + 1) 107 #[.bool true, .slice A' ks.length c', .slice (some ⟨w5.heap.size, 0, none⟩) 1 1] (0, 0) _ rfl kb Tryz.underlying107 rfl info_valEffect) rfl (l6_end (g2 := w.heap.size + 1) (g3 := w.heap.size + 1 + 1) hB5 hc (by omega) (by omega) (unhide HD) (unhide HRL) (by rw [unhide HWE]; rfl) (rr5) (b2 := w5.heap.size) (by omega) (by omega) (fun g hA => by have := unhide HRG g hA; omega) (by omega) ?_)
           have kl := own_made (base := w5.heap.size) (e := 79) (size := 2) (((((w5.setCell ⟨w.heap.size + 1 + 1, 2, none⟩ (.slice A5 pl.length c5)).setCell ⟨w.heap.size + 1 + 1, 2, none⟩ (.slice (some ⟨w5.heap.size, 0, none⟩) 1 1)).setCell ⟨w.heap.size + 1, 0, none⟩ (.bool true)).setCell ⟨w.heap.size + 1, 1, none⟩ ((.slice A' ks.length c'))).setCell ⟨w.heap.size + 1, 2, none⟩ (.slice (some ⟨w5.heap.size, 0, none⟩) 1 1)) #[.int .i64 a.src, .int .i64 x] 1 (by simp) (by simp [maxLen]) rfl
           simp only [World.size_setCell, World.size_alloc] at kl
           rw [unhide HWE]
           exact kl
       · have hsb : (a.src == a.dst) = false := by simpa using hs
         cases hge : decide (a.amt ≤ x)
         · skip
           have hdn : actDone a x y = false := by simp [actDone, hkk, hs]; (intro h; have h9 : ¬ a.amt ≤ x := (by simpa using hge); omega)
           have HWE := hide (unhide HNO hdn)
           have HD := hide (show E.done = false from (unhide HDN).trans hdn)
           clear hdn hkk hs
           go_wp2_with fail
           have ke4 := (unhide KE).set_ 0 (.bool false)
           have hc4 := (Chg.refl (fun q => q = w.heap.size + 1 + 1) wr).setCell (p := ⟨w.heap.size + 1 + 1, 0, none⟩) (.inl rfl) (.bool false)
           have hbl0 : Chg (fun q => q = w.heap.size + 1 + 1) wr ((wr.setCell ⟨w.heap.size + 1 + 1, 0, none⟩ (.bool false)).alloc (.cells #[.int .i64 a.src, .int .i64 (x - a.amt)] 79)) := hc4.alloc _
           have kl0 := Blk.new (wr.setCell ⟨w.heap.size + 1 + 1, 0, none⟩ (.bool false)) 79 #[.int .i64 a.src, .int .i64 (x - a.amt)]
           have ke0 := ke4.alloc (.cells #[.int .i64 a.src, .int .i64 (x - a.amt)] 79)
           simp only [World.size_setCell] at kl0
           refine at_world (C := fun w => Calls _ _ _ w _) (F := fun W => Blk W (w.heap.size + 1 + 1) 107 #[.bool false, .slice A' ks.length c', .slice none 0 0] ∧ Blk W wr.heap.size 79 #[.int .i64 a.src, .int .i64 (x - a.amt)] ∧ Chg (fun q => q = w.heap.size + 1 + 1) wr W) ⟨ke0, kl0, hbl0⟩ ?_
           rintro w4 ⟨ke4, kl4, hc4⟩
           refine (l4Put_any (some ⟨wr.heap.size, 0, none⟩) 1 [⟨a.src, x - a.amt⟩] a.dst (y + a.amt) w4 (rd_blk kl4) (by simp)).mono ?_
           rintro e w5 ⟨A5, c5, rfl, o5, b5⟩
           have hc5 := hc4.trans (Chg.of_new (S := fun q => q = w.heap.size + 1 + 1) b5)
           have hcw := own_cap o5
           have rd5 := own_base o5 (show wr.heap.size ≤ w4.heap.size from hc4.size)
           have kr5 := (unhide KR).chg hc5 (by omega)
           have ka5 := (unhide KA).chg hc5 (by omega)
           have ke5 := ke4.new_ b5
           have hB5 := hB7.trans (hc5.below (fun q hq e => by omega) hB7.size)
           have rr5 := own_chg (unhide RDR) hc5 (fun g hA e => by have := unhide HRG g hA; omega)
           have hs5 := hc5.size
           have hl5 := ke5.lt
           generalize put4L [⟨a.src, x - a.amt⟩] a.dst (y + a.amt) = pl at *
           clear c0 c1' c2 c3 e0 e1 e2 f0 f2 y0 y1 y2 p0 p1 p2
           have hl51 := ka5.lt
           have hl52 := kr5.lt
           have hl53 := ke5.lt
           have c0 : w5.cell? ⟨w.heap.size, 0, none⟩ = some (.int .i64 a.kind) := ka5.cell 0
           have c1 : w5.cell? ⟨w.heap.size, 1, none⟩ = some (.int .i64 a.src) := ka5.cell 1
           have c2 : w5.cell? ⟨w.heap.size, 2, none⟩ = some (.int .i64 a.dst) := ka5.cell 2
           have c3 : w5.cell? ⟨w.heap.size, 3, none⟩ = some (.int .i64 a.amt) := ka5.cell 3
           have e0 : w5.cell? ⟨w.heap.size + 1 + 1, 0, none⟩ = some (.bool false) := ke5.cell 0
           have e1 : w5.cell? ⟨w.heap.size + 1 + 1, 1, none⟩ = some ((.slice A' ks.length c')) := ke5.cell 1
           have e2 : w5.cell? ⟨w.heap.size + 1 + 1, 2, none⟩ = some (.slice none 0 0) := ke5.cell 2
           have f0 : w5.frozen? ⟨w.heap.size + 1 + 1, 0, none⟩ = false := ke5.frozen 0
           have f2 : w5.frozen? ⟨w.heap.size + 1 + 1, 2, none⟩ = false := ke5.frozen 2
           have y0 : w5.cell? ⟨w.heap.size + 1, 0, none⟩ = some (.bool false) := kr5.cell 0
           have y1 : w5.cell? ⟨w.heap.size + 1, 1, none⟩ = some (.slice none 0 0) := kr5.cell 1
           have y2 : w5.cell? ⟨w.heap.size + 1, 2, none⟩ = some (.slice none 0 0) := kr5.cell 2
           have p0 : w5.frozen? ⟨w.heap.size + 1, 0, none⟩ = false := kr5.frozen 0
           have p1 : w5.frozen? ⟨w.heap.size + 1, 1, none⟩ = false := kr5.frozen 1
           have p2 : w5.frozen? ⟨w.heap.size + 1, 2, none⟩ = false := kr5.frozen 2
           go_wp2
           have hBs5 := hB5.size
           have kb := (Blk.set_ (Blk.set_ (Blk.set_ (Blk.far_ (Blk.far_ (kr5) (p := ⟨w.heap.size + 1 + 1, 2, none⟩) (by simp only []; omega) (.slice A5 pl.length c5)) (p := ⟨w.heap.size + 1 + 1, 2, none⟩) (by simp only []; omega) (.slice (some ⟨w5.heap.size, 0, none⟩) 0 0)) 0 (.bool false)) 1 ((.slice A' ks.length c'))) 2 (.slice (some ⟨w5.heap.size, 0, none⟩) 0 0)).alloc (.cells #[] 79)
           have hc := (((((((Chg.refl (fun q => q = w.heap.size + 1 ∨ q = w.heap.size + 1 + 1) w5).setCell (p := ⟨w.heap.size + 1 + 1, 2, none⟩) (.inl (.inr rfl)) (.slice A5 pl.length c5)).setCell (p := ⟨w.heap.size + 1 + 1, 2, none⟩) (.inl (.inr rfl)) (.slice (some ⟨w5.heap.size, 0, none⟩) 0 0)).setCell (p := ⟨w.heap.size + 1, 0, none⟩) (.inl (.inl rfl)) (.bool false)).setCell (p := ⟨w.heap.size + 1, 1, none⟩) (.inl (.inl rfl)) ((.slice A' ks.length c'))).setCell (p := ⟨w.heap.size + 1, 2, none⟩) (.inl (.inl rfl)) (.slice (some ⟨w5.heap.size, 0, none⟩) 0 0)).alloc (.cells #[] 79))
           refine bodyPost_ret (v := .agg #[.bool false, .slice A' ks.length c', .slice (some ⟨w5.heap.size, 0, none⟩) 0 0]) (results_cell_row rfl _ _ (w.heap.size + 1) 107 #[.bool false, .slice A' ks.length c', .slice (some ⟨w5.heap.size, 0, none⟩) 0 0] (0, 0) _ rfl kb Tryz.underlying107 rfl info_valEffect) rfl (l6_end (g2 := w.heap.size + 1) (g3 := w.heap.size + 1 + 1) hB5 hc (by omega) (by omega) (unhide HD) (unhide HRL) (by rw [unhide HWE]; rfl) (rr5) (b2 := w5.heap.size) (by omega) (by omega) (fun g hA => by have := unhide HRG g hA; omega) (by omega) ?_)
           have kl := own_made (base := w5.heap.size) (e := 79) (size := 2) (((((w5.setCell ⟨w.heap.size + 1 + 1, 2, none⟩ (.slice A5 pl.length c5)).setCell ⟨w.heap.size + 1 + 1, 2, none⟩ (.slice (some ⟨w5.heap.size, 0, none⟩) 0 0)).setCell ⟨w.heap.size + 1, 0, none⟩ (.bool false)).setCell ⟨w.heap.size + 1, 1, none⟩ ((.slice A' ks.length c'))).setCell ⟨w.heap.size + 1, 2, none⟩ (.slice (some ⟨w5.heap.size, 0, none⟩) 0 0)) #[] 0 (by simp) (by simp [maxLen]) rfl
           simp only [World.size_setCell, World.size_alloc] at kl
           rw [unhide HWE]
           exact kl
         · cases hge2 : decide (y + a.amt ≤ 1000000)
           · skip
             have hdn : actDone a x y = false := by simp [actDone, hkk, hs]; (intro h; have h9 : ¬ y + a.amt ≤ 1000000 := (by simpa using hge2); omega)
             have HWE := hide (unhide HNO hdn)
             have HD := hide (show E.done = false from (unhide HDN).trans hdn)
             clear hdn hkk hs
             go_wp2_with fail
             have ke4 := (unhide KE).set_ 0 (.bool false)
             have hc4 := (Chg.refl (fun q => q = w.heap.size + 1 + 1) wr).setCell (p := ⟨w.heap.size + 1 + 1, 0, none⟩) (.inl rfl) (.bool false)
             have hbl0 : Chg (fun q => q = w.heap.size + 1 + 1) wr ((wr.setCell ⟨w.heap.size + 1 + 1, 0, none⟩ (.bool false)).alloc (.cells #[.int .i64 a.src, .int .i64 (x - a.amt)] 79)) := hc4.alloc _
             have kl0 := Blk.new (wr.setCell ⟨w.heap.size + 1 + 1, 0, none⟩ (.bool false)) 79 #[.int .i64 a.src, .int .i64 (x - a.amt)]
             have ke0 := ke4.alloc (.cells #[.int .i64 a.src, .int .i64 (x - a.amt)] 79)
             simp only [World.size_setCell] at kl0
             refine at_world (C := fun w => Calls _ _ _ w _) (F := fun W => Blk W (w.heap.size + 1 + 1) 107 #[.bool false, .slice A' ks.length c', .slice none 0 0] ∧ Blk W wr.heap.size 79 #[.int .i64 a.src, .int .i64 (x - a.amt)] ∧ Chg (fun q => q = w.heap.size + 1 + 1) wr W) ⟨ke0, kl0, hbl0⟩ ?_
             rintro w4 ⟨ke4, kl4, hc4⟩
             refine (l4Put_any (some ⟨wr.heap.size, 0, none⟩) 1 [⟨a.src, x - a.amt⟩] a.dst (y + a.amt) w4 (rd_blk kl4) (by simp)).mono ?_
             rintro e w5 ⟨A5, c5, rfl, o5, b5⟩
             have hc5 := hc4.trans (Chg.of_new (S := fun q => q = w.heap.size + 1 + 1) b5)
             have hcw := own_cap o5
             have rd5 := own_base o5 (show wr.heap.size ≤ w4.heap.size from hc4.size)
             have kr5 := (unhide KR).chg hc5 (by omega)
             have ka5 := (unhide KA).chg hc5 (by omega)
             have ke5 := ke4.new_ b5
             have hB5 := hB7.trans (hc5.below (fun q hq e => by omega) hB7.size)
             have rr5 := own_chg (unhide RDR) hc5 (fun g hA e => by have := unhide HRG g hA; omega)
             have hs5 := hc5.size
             have hl5 := ke5.lt
             generalize put4L [⟨a.src, x - a.amt⟩] a.dst (y + a.amt) = pl at *
             clear c0 c1' c2 c3 e0 e1 e2 f0 f2 y0 y1 y2 p0 p1 p2
             have hl51 := ka5.lt
             have hl52 := kr5.lt
             have hl53 := ke5.lt
             have c0 : w5.cell? ⟨w.heap.size, 0, none⟩ = some (.int .i64 a.kind) := ka5.cell 0
             have c1 : w5.cell? ⟨w.heap.size, 1, none⟩ = some (.int .i64 a.src) := ka5.cell 1
             have c2 : w5.cell? ⟨w.heap.size, 2, none⟩ = some (.int .i64 a.dst) := ka5.cell 2
             have c3 : w5.cell? ⟨w.heap.size, 3, none⟩ = some (.int .i64 a.amt) := ka5.cell 3
             have e0 : w5.cell? ⟨w.heap.size + 1 + 1, 0, none⟩ = some (.bool false) := ke5.cell 0
             have e1 : w5.cell? ⟨w.heap.size + 1 + 1, 1, none⟩ = some ((.slice A' ks.length c')) := ke5.cell 1
             have e2 : w5.cell? ⟨w.heap.size + 1 + 1, 2, none⟩ = some (.slice none 0 0) := ke5.cell 2
             have f0 : w5.frozen? ⟨w.heap.size + 1 + 1, 0, none⟩ = false := ke5.frozen 0
             have f2 : w5.frozen? ⟨w.heap.size + 1 + 1, 2, none⟩ = false := ke5.frozen 2
             have y0 : w5.cell? ⟨w.heap.size + 1, 0, none⟩ = some (.bool false) := kr5.cell 0
             have y1 : w5.cell? ⟨w.heap.size + 1, 1, none⟩ = some (.slice none 0 0) := kr5.cell 1
             have y2 : w5.cell? ⟨w.heap.size + 1, 2, none⟩ = some (.slice none 0 0) := kr5.cell 2
             have p0 : w5.frozen? ⟨w.heap.size + 1, 0, none⟩ = false := kr5.frozen 0
             have p1 : w5.frozen? ⟨w.heap.size + 1, 1, none⟩ = false := kr5.frozen 1
             have p2 : w5.frozen? ⟨w.heap.size + 1, 2, none⟩ = false := kr5.frozen 2
             go_wp2
             have hBs5 := hB5.size
             have kb := (Blk.set_ (Blk.set_ (Blk.set_ (Blk.far_ (Blk.far_ (kr5) (p := ⟨w.heap.size + 1 + 1, 2, none⟩) (by simp only []; omega) (.slice A5 pl.length c5)) (p := ⟨w.heap.size + 1 + 1, 2, none⟩) (by simp only []; omega) (.slice (some ⟨w5.heap.size, 0, none⟩) 0 0)) 0 (.bool false)) 1 ((.slice A' ks.length c'))) 2 (.slice (some ⟨w5.heap.size, 0, none⟩) 0 0)).alloc (.cells #[] 79)
             have hc := (((((((Chg.refl (fun q => q = w.heap.size + 1 ∨ q = w.heap.size + 1 + 1) w5).setCell (p := ⟨w.heap.size + 1 + 1, 2, none⟩) (.inl (.inr rfl)) (.slice A5 pl.length c5)).setCell (p := ⟨w.heap.size + 1 + 1, 2, none⟩) (.inl (.inr rfl)) (.slice (some ⟨w5.heap.size, 0, none⟩) 0 0)).setCell (p := ⟨w.heap.size + 1, 0, none⟩) (.inl (.inl rfl)) (.bool false)).setCell (p := ⟨w.heap.size + 1, 1, none⟩) (.inl (.inl rfl)) ((.slice A' ks.length c'))).setCell (p := ⟨w.heap.size + 1, 2, none⟩) (.inl (.inl rfl)) (.slice (some ⟨w5.heap.size, 0, none⟩) 0 0)).alloc (.cells #[] 79))
             refine bodyPost_ret (v := .agg #[.bool false, .slice A' ks.length c', .slice (some ⟨w5.heap.size, 0, none⟩) 0 0]) (results_cell_row rfl _ _ (w.heap.size + 1) 107 #[.bool false, .slice A' ks.length c', .slice (some ⟨w5.heap.size, 0, none⟩) 0 0] (0, 0) _ rfl kb Tryz.underlying107 rfl info_valEffect) rfl (l6_end (g2 := w.heap.size + 1) (g3 := w.heap.size + 1 + 1) hB5 hc (by omega) (by omega) (unhide HD) (unhide HRL) (by rw [unhide HWE]; rfl) (rr5) (b2 := w5.heap.size) (by omega) (by omega) (fun g hA => by have := unhide HRG g hA; omega) (by omega) ?_)
             have kl := own_made (base := w5.heap.size) (e := 79) (size := 2) (((((w5.setCell ⟨w.heap.size + 1 + 1, 2, none⟩ (.slice A5 pl.length c5)).setCell ⟨w.heap.size + 1 + 1, 2, none⟩ (.slice (some ⟨w5.heap.size, 0, none⟩) 0 0)).setCell ⟨w.heap.size + 1, 0, none⟩ (.bool false)).setCell ⟨w.heap.size + 1, 1, none⟩ ((.slice A' ks.length c'))).setCell ⟨w.heap.size + 1, 2, none⟩ (.slice (some ⟨w5.heap.size, 0, none⟩) 0 0)) #[] 0 (by simp) (by simp [maxLen]) rfl
             simp only [World.size_setCell, World.size_alloc] at kl
             rw [unhide HWE]
             exact kl
           · skip
             have hdn : actDone a x y = true := by simp [actDone, hkk, hs]; exact ⟨by simpa using hge, by simpa using hge2⟩
             have HWE := hide (show E.writes = put4L [⟨a.src, x - a.amt⟩] a.dst (y + a.amt) by
               rw [unhide HYES hdn]
               by_cases hle : a.dst ≤ a.src
               · have h1 : ¬ a.dst = a.src := fun e => hs e.symm
                 have h2 : min a.src a.dst = a.dst := Int.min_eq_right hle
                 have h3 : max a.src a.dst = a.src := Int.max_eq_left hle
                 simp [actWrites, wAt, hkk, hs, h1, put4L, putGo, hle, h2, h3]
               · have h1 : ¬ a.dst = a.src := fun e => hs e.symm
                 have h2 : min a.src a.dst = a.src := Int.min_eq_left (by omega)
                 have h3 : max a.src a.dst = a.dst := Int.max_eq_right (by omega)
                 simp [actWrites, wAt, hkk, hs, h1, put4L, putGo, hle, h2, h3])
             have HD := hide (show E.done = true from (unhide HDN).trans hdn)
             clear hdn hkk hs
             go_wp2_with fail
             have ke4 := (unhide KE).set_ 0 (.bool true)
             have hc4 := (Chg.refl (fun q => q = w.heap.size + 1 + 1) wr).setCell (p := ⟨w.heap.size + 1 + 1, 0, none⟩) (.inl rfl) (.bool true)
             have hbl0 : Chg (fun q => q = w.heap.size + 1 + 1) wr ((wr.setCell ⟨w.heap.size + 1 + 1, 0, none⟩ (.bool true)).alloc (.cells #[.int .i64 a.src, .int .i64 (x - a.amt)] 79)) := hc4.alloc _
             have kl0 := Blk.new (wr.setCell ⟨w.heap.size + 1 + 1, 0, none⟩ (.bool true)) 79 #[.int .i64 a.src, .int .i64 (x - a.amt)]
             have ke0 := ke4.alloc (.cells #[.int .i64 a.src, .int .i64 (x - a.amt)] 79)
             simp only [World.size_setCell] at kl0
             refine at_world (C := fun w => Calls _ _ _ w _) (F := fun W => Blk W (w.heap.size + 1 + 1) 107 #[.bool true, .slice A' ks.length c', .slice none 0 0] ∧ Blk W wr.heap.size 79 #[.int .i64 a.src, .int .i64 (x - a.amt)] ∧ Chg (fun q => q = w.heap.size + 1 + 1) wr W) ⟨ke0, kl0, hbl0⟩ ?_
             rintro w4 ⟨ke4, kl4, hc4⟩
             refine (l4Put_any (some ⟨wr.heap.size, 0, none⟩) 1 [⟨a.src, x - a.amt⟩] a.dst (y + a.amt) w4 (rd_blk kl4) (by simp)).mono ?_
             rintro e w5 ⟨A5, c5, rfl, o5, b5⟩
             have hc5 := hc4.trans (Chg.of_new (S := fun q => q = w.heap.size + 1 + 1) b5)
             have hcw := own_cap o5
             have rd5 := own_base o5 (show wr.heap.size ≤ w4.heap.size from hc4.size)
             have kr5 := (unhide KR).chg hc5 (by omega)
             have ka5 := (unhide KA).chg hc5 (by omega)
             have ke5 := ke4.new_ b5
             have hB5 := hB7.trans (hc5.below (fun q hq e => by omega) hB7.size)
             have rr5 := own_chg (unhide RDR) hc5 (fun g hA e => by have := unhide HRG g hA; omega)
             have hs5 := hc5.size
             have hl5 := ke5.lt
             generalize put4L [⟨a.src, x - a.amt⟩] a.dst (y + a.amt) = pl at *
             clear c0 c1' c2 c3 e0 e1 e2 f0 f2 y0 y1 y2 p0 p1 p2
             have hl51 := ka5.lt
             have hl52 := kr5.lt
             have hl53 := ke5.lt
             have c0 : w5.cell? ⟨w.heap.size, 0, none⟩ = some (.int .i64 a.kind) := ka5.cell 0
             have c1 : w5.cell? ⟨w.heap.size, 1, none⟩ = some (.int .i64 a.src) := ka5.cell 1
             have c2 : w5.cell? ⟨w.heap.size, 2, none⟩ = some (.int .i64 a.dst) := ka5.cell 2
             have c3 : w5.cell? ⟨w.heap.size, 3, none⟩ = some (.int .i64 a.amt) := ka5.cell 3
             have e0 : w5.cell? ⟨w.heap.size + 1 + 1, 0, none⟩ = some (.bool true) := ke5.cell 0
             have e1 : w5.cell? ⟨w.heap.size + 1 + 1, 1, none⟩ = some ((.slice A' ks.length c')) := ke5.cell 1
             have e2 : w5.cell? ⟨w.heap.size + 1 + 1, 2, none⟩ = some (.slice none 0 0) := ke5.cell 2
             have f0 : w5.frozen? ⟨w.heap.size + 1 + 1, 0, none⟩ = false := ke5.frozen 0
             have f2 : w5.frozen? ⟨w.heap.size + 1 + 1, 2, none⟩ = false := ke5.frozen 2
             have y0 : w5.cell? ⟨w.heap.size + 1, 0, none⟩ = some (.bool false) := kr5.cell 0
             have y1 : w5.cell? ⟨w.heap.size + 1, 1, none⟩ = some (.slice none 0 0) := kr5.cell 1
             have y2 : w5.cell? ⟨w.heap.size + 1, 2, none⟩ = some (.slice none 0 0) := kr5.cell 2
             have p0 : w5.frozen? ⟨w.heap.size + 1, 0, none⟩ = false := kr5.frozen 0
             have p1 : w5.frozen? ⟨w.heap.size + 1, 1, none⟩ = false := kr5.frozen 1
             have p2 : w5.frozen? ⟨w.heap.size + 1, 2, none⟩ = false := kr5.frozen 2
             go_wp2
             have hBs5 := hB5.size
             have kb := Blk.set_ (Blk.set_ (Blk.set_ (Blk.far_ (kr5) (p := ⟨w.heap.size + 1 + 1, 2, none⟩) (by simp only []; omega) (.slice A5 pl.length c5)) 0 (.bool true)) 1 ((.slice A' ks.length c'))) 2 (.slice A5 pl.length c5)
             have hc := (((((Chg.refl (fun q => q = w.heap.size + 1 ∨ q = w.heap.size + 1 + 1) w5).setCell (p := ⟨w.heap.size + 1 + 1, 2, none⟩) (.inl (.inr rfl)) (.slice A5 pl.length c5)).setCell (p := ⟨w.heap.size + 1, 0, none⟩) (.inl (.inl rfl)) (.bool true)).setCell (p := ⟨w.heap.size + 1, 1, none⟩) (.inl (.inl rfl)) ((.slice A' ks.length c'))).setCell (p := ⟨w.heap.size + 1, 2, none⟩) (.inl (.inl rfl)) (.slice A5 pl.length c5))
             refine bodyPost_ret (v := .agg #[.bool true, .slice A' ks.length c', .slice A5 pl.length c5]) (results_cell_row rfl _ _ (w.heap.size + 1) 107 #[.bool true, .slice A' ks.length c', .slice A5 pl.length c5] (0, 0) _ rfl kb Tryz.underlying107 rfl info_valEffect) rfl (l6_end (g2 := w.heap.size + 1) (g3 := w.heap.size + 1 + 1) hB5 hc (by omega) (by omega) (unhide HD) (unhide HRL) (by rw [unhide HWE]) rr5 (b2 := wr.heap.size) (by omega) (by omega) (fun g hA => by have := unhide HRG g hA; omega) (by omega) ?_)
             rw [unhide HWE]
             exact own_chg rd5 hc (fun g hA e => by have := own_rng rd5 g hA; omega)
end Go.Proofs.YtihlhejencninaaGreat
