/- Stores of the reference: what a key has, a value for a key. The reference's stores: put a value, changed keys, differences. Stores and values: the plain law. Values as arrays: valuesOf, store, write. Differences: ValueAt, ChangedKeys, DiffStores, ApplyDiff of the program; ApplyDiff of the reference. Keys as bits of a number. No program is in sight here. Regions that draw and hold an append beside moves: facts that are kept under a growth E. -/
import Derived.Test.YtihlhejencninaaGreatGint
import Derived.Deep.RegionHeld3
import Derived.Deep.DrawnRows
import Derived.Laws.Rows
import Derived.Laws.Tables
import Derived.Test.YtihlhejencninaaGreatGloc
namespace Go.Proofs.YtihlhejencninaaGreat
open Go.RowKit
set_option linter.unusedVariables false
set_option linter.unusedSimpArgs false

theorem ent_info : (Tryz.prog.info? 79).map (fun i => (i.zero, i.size, i.bytes)) = some (some (.agg #[.int .i64 0, .int .i64 0]), 2, 16) := by kernel_rfl
theorem el_ent : El Tryz.prog 34 79 2 16 := El.mk_ Tryz.underlying34 ent_info rfl (by omega)
theorem one_ents (es : List Ent) : ∀ u ∈ es.flatMap encE, u.oneCell' = true := by
 intro u hu
 obtain ⟨e, _, h⟩ := List.mem_flatMap.1 hu
 simp [encE] at h
 rcases h with rfl | rfl <;> rfl
theorem snoc_ents (gs : List Ent) (k v : Int) : gs.flatMap encE ++ [.int .i64 k, .int .i64 v] = (gs ++ [(⟨k, v⟩ : Ent)]).flatMap encE := by simp [encE]

/-- the value of a key: the first entry's that has it -/
def atL : List Ent → Int → Int
 | [], _ => 0
 | e :: es, key => if e.k = key then e.v else atL es key
def putGo (key value : Int) : Bool → List Ent → List Ent
 | pl, [] => if pl then [] else [⟨key, value⟩]
 | pl, e :: es => (if pl = false ∧ key ≤ e.k then [⟨key, value⟩] else []) ++ ((if e.k = key then [] else [e]) ++ putGo key value (pl || decide (key ≤ e.k)) es)
def putL (s : List Ent) (key value : Int) : List Ent := putGo key value (value == 0) s

theorem l2At_any (A : Option Addr) (c : Nat) (es : List Ent) (key : Int) (w : World) (h : Rd w A (es.flatMap encE)) (hb : es.length ≤ 4611686018427387904) :
   Calls Tryz.prog 149 #[.slice A es.length c, .int .i64 key] w fun e w' => e = .returned (.int .i64 (atL es key)) ∧ w = w' := by
 go_enter Tryz.func149, Tryz.ntmps149
 go_wp2
 go_loop [5] (fun i => ∃ k : Nat, k ≤ es.length ∧ i = .int .i64 k ∧ atL es key = atL (es.drop k) key) (fun i => es.length - (intOf i).toNat)
 case atStart => exact ⟨0, Nat.zero_le _, rfl, rfl⟩
 case round =>
   obtain ⟨k, hk, rfl, hat⟩ := hrel
   by_cases hlt : k < es.length
   · obtain ⟨b, off, rfl, hbb, hc1, hc2⟩ := h.ent hlt
     rw [drop_get es k hlt, atL] at hat
     generalize hek : es[k] = ek at *
     clear hek
     by_cases he : ek.k = key
     · have g : (ek.k == key) = true := by simp [he]
       rw [if_pos he] at hat
       have HA := hide hat
       clear hat he
       go_wp2
       go_ret
       exact ⟨reti (unhide HA).symm, rfl⟩
     · have g : (ek.k == key) = false := by simp [he]
       rw [if_neg he] at hat
       have HA := hide hat
       clear hat he
       go_wp2
       go_round
       case rel => exact ⟨k + 1, by omega, by go_num, unhide HA⟩
       case measure => simp [intOf]; omega
   · have hat' : atL es key = 0 := by rw [hat, List.drop_of_length_le (by omega)]; rfl
     clear hat
     have HA := hide hat'
     clear hat'
     go_wp2
     go_ret
     exact ⟨reti (unhide HA).symm, rfl⟩
theorem l2Put_any (A : Option Addr) (c : Nat) (es : List Ent) (key value : Int) (w : World) (h : Rd w A (es.flatMap encE)) (hb : es.length ≤ 1099511627776) :
   Calls Tryz.prog 173 #[.slice A es.length c, .int .i64 key, .int .i64 value] w fun e w' => ∃ A' c', e = .returned (.slice A' (putL es key value).length c') ∧ w'.ownsRow w.heap.size 79 2 (.slice A' (putL es key value).length c') (putL es key value).length ((putL es key value).flatMap encE) ∧ Below w.heap.size w w' := by
 go_enter Tryz.func173, Tryz.ntmps173
 go_wp2
 go_loopw [7, 8, 9] (fun v pl i wr => ∃ (k : Nat) (b : Bool) (gs : List Ent) (A' : Option Addr) (c' : Nat), k ≤ es.length ∧ i = .int .i64 k ∧ pl = .bool b ∧ v = .slice A' gs.length c' ∧ gs.length ≤ k + b.toNat ∧
     putL es key value = gs ++ putGo key value b (es.drop k) ∧ wr.ownsRow w.heap.size 79 2 (.slice A' gs.length c') gs.length (gs.flatMap encE) ∧ Below w.heap.size w wr) (fun _ _ i _ => es.length - (intOf i).toNat)
 case atStart => exact ⟨0, _, [], _, _, Nat.zero_le _, rfl, rfl, rfl, by simp, rfl, own_made w #[] 0 (Nat.le_refl _) (by simp [maxLen]) rfl, (Below.refl _ _).alloc (Nat.le_refl _) _⟩
 case round =>
   obtain ⟨k, pl, gs, A', c', hk, rfl, rfl, rfl, hgl, hput, hown, hbel⟩ := hrel
   have hbt : pl.toNat ≤ 1 := by cases pl <;> simp
   by_cases hlt : k < es.length
   · obtain ⟨b, off, rfl, hbb, hc1, hc2⟩ := h.ent hlt
     rw [drop_get es k hlt, putGo] at hput
     generalize hek : es[k] = ek at *
     clear hek
     have HC := hide (show ∀ W, Below w.heap.size w W → W.cell? ⟨b, off + k * 2, none⟩ = some (.int .i64 ek.k) ∧ W.cell? ⟨b, off + k * 2 + 1, none⟩ = some (.int .i64 ek.v) from fun W hb => ⟨(hb.cell (p := ⟨b, off + k * 2, none⟩) hbb).trans hc1, (hb.cell (p := ⟨b, off + k * 2 + 1, none⟩) hbb).trans hc2⟩)
     clear hc1 hc2
     have c1 := (unhide HC wr hbel).1
     have c2 := (unhide HC wr hbel).2
     by_cases h1 : pl = false ∧ key ≤ ek.k
     · obtain ⟨rfl, h1⟩ := h1
       simp only [Bool.toNat_false, Nat.add_zero] at hgl
       have g1 : decide (key ≤ ek.k) = true := by simpa using h1
       simp only [h1, and_self, if_true, g1, Bool.or_true] at hput
       by_cases h2 : ek.k = key
       · have g2 : (ek.k != key) = false := by simp [h2]
         simp only [h2, if_true, List.nil_append] at hput
         rw [← List.append_assoc] at hput
         have HP := hide hput
         clear hput h2
         go_wp2_with (at_builtin; refine wpList_app rfl (.tmp 30) (.tmp 34) 34 rfl el_ent rfl (own_alloc hown _) rfl (rd_lit wr [.int .i64 key, .int .i64 value] _) rfl (one_ents [⟨key, value⟩]) (by simp only [maxLen]; omega) (by omega) (by have := hbel.size; simp; omega) ?_; intro A1 c1 w1 o1 ch1 _ _; rw [snoc_ents] at o1; have hb1 := app_below hbel hown ch1 (Nat.le_refl _); have d1 := (unhide HC w1 hb1).1; have d2 := (unhide HC w1 hb1).2; have o1' : w1.ownsRow w.heap.size 79 2 (.slice A1 (gs ++ [(⟨key, value⟩ : Ent)]).length c1) (gs ++ [(⟨key, value⟩ : Ent)]).length ((gs ++ [(⟨key, value⟩ : Ent)]).flatMap encE) := (by simpa using o1))
         go_roundw
         case rel => exact ⟨k + 1, true, gs ++ [⟨key, value⟩], A1, c1, by omega, by go_num, rfl, by simp, by simp; omega, unhide HP, o1', hb1⟩
         case measure => simp [intOf]; omega
       · have g2 : (ek.k != key) = true := by simp [h2]
         simp only [h2, if_false] at hput
         rw [← List.append_assoc, ← List.append_assoc] at hput
         have HP := hide hput
         clear hput h2
         go_wp2_with (first | (at_builtin; refine wpList_app rfl (.tmp 30) (.tmp 34) 34 rfl el_ent rfl (own_alloc hown _) rfl (rd_lit wr [.int .i64 key, .int .i64 value] _) rfl (one_ents [⟨key, value⟩]) (by simp only [maxLen]; omega) (by omega) (by have := hbel.size; simp; omega) ?_; intro A1 c1 w1 o1 ch1 _ _; rw [snoc_ents] at o1; have hb1 := app_below hbel hown ch1 (Nat.le_refl _); have d1 := (unhide HC w1 hb1).1; have d2 := (unhide HC w1 hb1).2; have o1' : w1.ownsRow w.heap.size 79 2 (.slice A1 (gs ++ [(⟨key, value⟩ : Ent)]).length c1) (gs ++ [(⟨key, value⟩ : Ent)]).length ((gs ++ [(⟨key, value⟩ : Ent)]).flatMap encE) := (by simpa using o1)) | (at_builtin; refine wpList_app rfl (.tmp 43) (.tmp 48) 34 rfl el_ent rfl (own_alloc o1 _) rfl (rd_lit w1 [.int .i64 ek.k, .int .i64 ek.v] _) rfl (one_ents [⟨ek.k, ek.v⟩]) (by simp only [maxLen]; omega) (by omega) (by have := hb1.size; simp; omega) ?_; intro A2 c2 w2 o2 ch2 _ _; rw [snoc_ents] at o2))
         have hb2 := app_below hb1 o1 ch2 (Nat.le_refl _)
         go_roundw
         case rel => exact ⟨k + 1, true, gs ++ [⟨key, value⟩] ++ [ek], A2, c2, by omega, by go_num, rfl, by simp, by simp; omega, unhide HP, by simpa using o2, hb2⟩
         case measure => simp [intOf]; omega
     · simp only [h1, if_false, List.nil_append] at hput
       cases pl
       · have h3 : ¬ key ≤ ek.k := fun h => h1 ⟨rfl, h⟩
         have g1 : decide (key ≤ ek.k) = false := by simpa using h3
         simp only [g1, Bool.or_false] at hput
         clear h1
         by_cases h2 : ek.k = key
         · exact absurd (show key ≤ ek.k by omega) h3
         · have g2 : (ek.k != key) = true := by simp [h2]
           simp only [h2, if_false] at hput
           rw [← List.append_assoc] at hput
           have HP := hide hput
           clear hput h2
           go_wp2_with (at_builtin; refine wpList_app rfl (.tmp 43) (.tmp 48) 34 rfl el_ent rfl (own_alloc hown _) rfl (rd_lit wr [.int .i64 ek.k, .int .i64 ek.v] _) rfl (one_ents [⟨ek.k, ek.v⟩]) (by simp only [maxLen]; omega) (by omega) (by have := hbel.size; simp; omega) ?_; intro A2 c2 w2 o2 ch2 _ _; rw [snoc_ents] at o2)
           have hb2 := app_below hbel hown ch2 (Nat.le_refl _)
           go_roundw
           case rel => exact ⟨k + 1, false, gs ++ [ek], A2, c2, by omega, by go_num, rfl, by simp, by simp at hgl ⊢; omega, unhide HP, by simpa using o2, hb2⟩
           case measure => simp [intOf]; omega
       · simp only [Bool.true_or] at hput
         clear h1
         by_cases h2 : ek.k = key
         · have g2 : (ek.k != key) = false := by simp [h2]
           simp only [h2, if_true, List.nil_append] at hput
           have HP := hide hput
           clear hput h2
           go_wp2
           go_roundw
           case rel => exact ⟨k + 1, true, gs, A', c', by omega, by go_num, rfl, rfl, by simp at hgl ⊢; omega, unhide HP, hown, hbel⟩
           case measure => simp [intOf]; omega
         · have g2 : (ek.k != key) = true := by simp [h2]
           simp only [h2, if_false] at hput
           rw [← List.append_assoc] at hput
           have HP := hide hput
           clear hput h2
           go_wp2_with (at_builtin; refine wpList_app rfl (.tmp 43) (.tmp 48) 34 rfl el_ent rfl (own_alloc hown _) rfl (rd_lit wr [.int .i64 ek.k, .int .i64 ek.v] _) rfl (one_ents [⟨ek.k, ek.v⟩]) (by simp only [maxLen]; omega) (by omega) (by have := hbel.size; simp; omega) ?_; intro A2 c2 w2 o2 ch2 _ _; rw [snoc_ents] at o2)
           have hb2 := app_below hbel hown ch2 (Nat.le_refl _)
           go_roundw
           case rel => exact ⟨k + 1, true, gs ++ [ek], A2, c2, by omega, by go_num, rfl, by simp, by simp at hgl ⊢; omega, unhide HP, by simpa using o2, hb2⟩
           case measure => simp [intOf]; omega
   · rw [List.drop_of_length_le (by omega), putGo] at hput
     cases pl
     · simp only [Bool.false_eq_true, if_false] at hput
       have HP := hide hput
       clear hput
       go_wp2_with (at_builtin; refine wpList_app rfl (.tmp 52) (.tmp 56) 34 rfl el_ent rfl (own_alloc hown _) rfl (rd_lit wr [.int .i64 key, .int .i64 value] _) rfl (one_ents [⟨key, value⟩]) (by simp only [maxLen]; omega) (by omega) (by have := hbel.size; simp; omega) ?_; intro A1 c1 w1 o1 ch1 _ _; rw [snoc_ents] at o1)
       have hb1 := app_below hbel hown ch1 (Nat.le_refl _)
       go_ret
       rw [unhide HP]
       exact ⟨A1, c1, by simp, by simpa using o1, hb1⟩
     · simp only [if_true, List.append_nil] at hput
       have HP := hide hput
       clear hput
       go_wp2
       go_ret
       rw [unhide HP]
       exact ⟨A', c', rfl, hown, hbel⟩
end Go.Proofs.YtihlhejencninaaGreat
namespace Go.Proofs.YtihlhejencninaaGreat
open Go.RowKit
set_option linter.unusedVariables false
set_option linter.unusedSimpArgs false
attribute [local go_sem ↓] Go.wp_at_zero Go.wp_at_succ

def putV (es : List Ent) (key value : Int) : List Ent := if storeB es then (if inB key 0 31 && inB value 0 1000000 then putL es key value else es) else []
def putOk (es : List Ent) (key value : Int) : Bool := storeB es && (inB key 0 31 && inB value 0 1000000)
theorem putGo_len (key value : Int) (pl : Bool) (es : List Ent) : (putGo key value pl es).length ≤ es.length + 1 - pl.toNat := by
 induction es generalizing pl with
 | nil => cases pl <;> simp [putGo]
 | cons e es ih =>
   simp only [putGo, List.length_append, List.length_cons]
   have h1 := ih (pl || decide (key ≤ e.k))
   cases pl <;> by_cases h2 : key ≤ e.k <;> by_cases h3 : e.k = key <;> simp [h2, h3] at h1 ⊢ <;> omega
theorem putL_len (es : List Ent) (key value : Int) : (putL es key value).length ≤ es.length + 1 := by
 have := putGo_len key value (value == 0) es
 unfold putL
 omega
theorem putV_len (es : List Ent) (key value : Int) : (putV es key value).length ≤ es.length + 1 := by
 unfold putV
 split
 · split
   · exact putL_len es key value
   · omega
 · simp
theorem putValue_spec (A : Option Addr) (c : Nat) (es : List Ent) (key value : Int) (w : World) (h : Rd w A (es.flatMap encE)) (hb : es.length ≤ 1099511627776) :
   Calls Tryz.prog 130 #[.slice A es.length c, .int .i64 key, .int .i64 value] w fun e w' => ∃ A' c', e = .returned (.tuple #[.slice A' (putV es key value).length c', .bool (putOk es key value)]) ∧ w'.ownsRow w.heap.size 79 2 (.slice A' (putV es key value).length c') (putV es key value).length ((putV es key value).flatMap encE) ∧ Below w.heap.size w w' := by
 cases hs : storeB es
 · have HV := hide (show putV es key value = [] by simp [putV, hs])
   have HO := hide (show putOk es key value = false by simp [putOk, hs])
   go_enter Tryz.func130, Tryz.ntmps130
   go_wp2_with fail
   refine (storeB_store_spec A c es w h (by omega)).mono ?_
   rintro e w' ⟨rfl, m, rfl⟩
   go_wp2
   go_ret2
   rw [unhide HV, unhide HO]
   exact ⟨_, _, rfl, own_made (w.drewN m) #[] 0 (Nat.le_refl _) (by simp [maxLen]) rfl, (below_drewN (Below.refl _ _) m).alloc (Nat.le_refl _) _⟩
 · by_cases hkv : inB key 0 31 = true ∧ inB value 0 1000000 = true
   · obtain ⟨h1, h2⟩ := hkv
     have HV := hide (show putV es key value = putL es key value by simp [putV, hs, h1, h2])
     have HO := hide (show putOk es key value = true by simp [putOk, hs, h1, h2])
     go_enter Tryz.func130, Tryz.ntmps130
     go_wp2_with fail
     refine (storeB_store_spec A c es w h (by omega)).mono ?_
     rintro e w' ⟨rfl, m, rfl⟩
     go_wp2_with (go_at_call 93; refine (l1In_any _ _ _ _).mono ?_; rintro e w' ⟨rfl, rfl⟩)
     refine (l2Put_any A c es key value _ (h.drewN m) hb).mono ?_
     rintro e w1 ⟨A1, c1, rfl, o1, b1⟩
     go_wp2
     go_ret2
     rw [unhide HV, unhide HO]
     exact ⟨_, _, rfl, o1, (below_drewN (Below.refl _ _) m).trans b1⟩
   · have HV := hide (show putV es key value = es by
       unfold putV
       rw [if_pos hs, if_neg]
       intro hh
       simp only [Bool.and_eq_true] at hh
       exact hkv hh)
     have HO := hide (show putOk es key value = false by
       unfold putOk
       cases h1 : inB key 0 31 <;> cases h2 : inB value 0 1000000 <;> simp_all)
     cases h1 : inB key 0 31
     · clear hkv
       go_enter Tryz.func130, Tryz.ntmps130
       go_wp2_with fail
       refine (storeB_store_spec A c es w h (by omega)).mono ?_
       rintro e w' ⟨rfl, m, rfl⟩
       go_wp2_with (first
         | (go_at_call 93; refine (l1In_any _ _ _ _).mono ?_; rintro e w' ⟨rfl, rfl⟩)
         | (at_builtin; refine wpList_app rfl (.tmp 20) (.tmp 21) 34 rfl el_ent rfl (own_made (base := w.heap.size) (w.drewN m) #[] 0 (Nat.le_refl _) (by simp [maxLen]) rfl) rfl ((h.drewN m).alloc _) (by rw [length_flat encE 2 encE_len]) (one_ents es) (by simp only [maxLen]; omega) (by omega) (by simp) ?_; intro A1 c1 w1 o1 ch1 _ _; simp only [Nat.zero_add, List.nil_append] at o1))
       go_ret2
       rw [unhide HV, unhide HO]
       exact ⟨A1, c1, rfl, o1, ((below_drewN (Below.refl _ _) m).alloc (Nat.le_refl _) _).trans (ch1.below (fun k hk hA => by injection hA with hA; injection hA with hA; have e0 : (w.drewN m).heap.size = w.heap.size := rfl; omega) (by simp))⟩
     · have h2 : inB value 0 1000000 = false := by cases h2 : inB value 0 1000000 <;> simp_all
       clear hkv
       go_enter Tryz.func130, Tryz.ntmps130
       go_wp2_with fail
       refine (storeB_store_spec A c es w h (by omega)).mono ?_
       rintro e w' ⟨rfl, m, rfl⟩
       go_wp2_with (first
         | (go_at_call 93; refine (l1In_any _ _ _ _).mono ?_; rintro e w' ⟨rfl, rfl⟩)
         | (at_builtin; refine wpList_app rfl (.tmp 20) (.tmp 21) 34 rfl el_ent rfl (own_made (base := w.heap.size) (w.drewN m) #[] 0 (Nat.le_refl _) (by simp [maxLen]) rfl) rfl ((h.drewN m).alloc _) (by rw [length_flat encE 2 encE_len]) (one_ents es) (by simp only [maxLen]; omega) (by omega) (by simp) ?_; intro A1 c1 w1 o1 ch1 _ _; simp only [Nat.zero_add, List.nil_append] at o1))
       go_ret2
       rw [unhide HV, unhide HO]
       exact ⟨A1, c1, rfl, o1, ((below_drewN (Below.refl _ _) m).alloc (Nat.le_refl _) _).trans (ch1.below (fun k hk hA => by injection hA with hA; injection hA with hA; have e0 : (w.drewN m).heap.size = w.heap.size := rfl; omega) (by simp))⟩

end Go.Proofs.YtihlhejencninaaGreat
namespace Go.Proofs.YtihlhejencninaaGreat
open Go.RowKit
set_option linter.unusedVariables false
set_option linter.unusedSimpArgs false

def setV (v : List Int) (e : Ent) : List Int := v.set e.k.toNat e.v
def setAll (v : List Int) (es : List Ent) : List Int := es.foldl setV v
def zeroV : List Int := List.replicate 32 0
def valsL (es : List Ent) : List Int := setAll zeroV es
def stGo (v : List Int) : Nat → List Ent
 | 0 => []
 | n + 1 => stGo v n ++ (if 0 < v.getD n 0 then [⟨(n : Int), v.getD n 0⟩] else [])
def storeL (v : List Int) : List Ent := stGo v 32
def findL : List Ent → Int → Option Int
 | [], _ => none
 | e :: es, key => if e.k = key then some e.v else findL es key
/-- everything that entries write, one after the other -/
def putAll (s : List Ent) (es : List Ent) : List Ent := es.foldl (fun s e => putL s e.k e.v) s

theorem setAll_len (v : List Int) (es : List Ent) : (setAll v es).length = v.length := by
 induction es generalizing v with
 | nil => rfl
 | cons e es ih => exact (ih _).trans (by simp [setV])
theorem valsL_len (es : List Ent) : (valsL es).length = 32 := (setAll_len _ _).trans (by simp [zeroV])
theorem setAll_snoc (v : List Int) (es : List Ent) (e : Ent) : setAll v (es ++ [e]) = setV (setAll v es) e := by simp [setAll]
theorem atL_find (es : List Ent) (key : Int) : atL es key = (findL es key).getD 0 := by
 induction es with
 | nil => rfl
 | cons e es ih =>
   simp only [atL, findL]
   split
   · rfl
   · exact ih
theorem evOk_cons {l z : Int} {e : Ent} {es : List Ent} (h : evOk l z (e :: es) = true) : z < e.k ∧ e.k ≤ 31 ∧ l ≤ e.v ∧ e.v ≤ 1000000 ∧ evOk l e.k es = true := by
 simp only [evOk, Bool.and_eq_true, inB_true] at h
 obtain ⟨⟨⟨a, b⟩, c, d⟩, e⟩ := h
 exact ⟨by omega, b, c, d, e⟩
theorem evOk_mk {l z : Int} {e : Ent} {es : List Ent} (h1 : z < e.k) (h2 : e.k ≤ 31) (h3 : l ≤ e.v) (h4 : e.v ≤ 1000000) (h5 : evOk l e.k es = true) : evOk l z (e :: es) = true := by
 simp only [evOk, Bool.and_eq_true, inB_true]
 exact ⟨⟨by omega, by omega⟩, h5⟩
theorem evOk_mono {l z z' : Int} {es : List Ent} (h : evOk l z' es = true) (hz : z ≤ z') : evOk l z es = true := by
 cases es with
 | nil => rfl
 | cons e es =>
   obtain ⟨h1, h2, h3, h4, h5⟩ := evOk_cons h
   exact evOk_mk (by omega) h2 h3 h4 h5
theorem find_low {l z : Int} {es : List Ent} (h : evOk l z es = true) {key : Int} (hk : key ≤ z) : findL es key = none := by
 induction es generalizing z with
 | nil => rfl
 | cons e es ih =>
   obtain ⟨h1, h2, h3, h4, h5⟩ := evOk_cons h
   rw [findL, if_neg (by omega)]
   exact ih h5 (by omega)
theorem evOk_all {l z : Int} {es : List Ent} (h : evOk l z es = true) : ∀ e ∈ es, z < e.k ∧ e.k ≤ 31 ∧ l ≤ e.v ∧ e.v ≤ 1000000 := by
 induction es generalizing z with
 | nil => intro e he; cases he
 | cons x es ih =>
   obtain ⟨h1, h2, h3, h4, h5⟩ := evOk_cons h
   intro e he
   rcases List.mem_cons.1 he with rfl | he
   · exact ⟨h1, h2, h3, h4⟩
   · obtain ⟨g1, g2, g3, g4⟩ := ih h5 e he
     exact ⟨by omega, g2, g3, g4⟩
theorem setV_get (v : List Int) (e : Ent) (k : Nat) (hk : k < v.length) (h0 : 0 ≤ e.k) : (setV v e).getD k 0 = if e.k = (k : Int) then e.v else v.getD k 0 := by
 unfold setV
 rw [List.getD_eq_getElem?_getD, List.getD_eq_getElem?_getD]
 by_cases h : e.k = (k : Int)
 · rw [if_pos h, h]
   simp [hk]
 · rw [if_neg h, List.getElem?_set_ne (by omega)]
theorem setAll_get {l z : Int} {es : List Ent} (h : evOk l z es = true) (hz : -1 ≤ z) (v : List Int) (k : Nat) (hk : k < v.length) : (setAll v es).getD k 0 = (findL es (k : Int)).getD (v.getD k 0) := by
 induction es generalizing z v with
 | nil => rfl
 | cons e es ih =>
   obtain ⟨h1, h2, h3, h4, h5⟩ := evOk_cons h
   show (setAll (setV v e) es).getD k 0 = _
   rw [ih h5 (by omega) (setV v e) (by simpa [setV] using hk), setV_get v e k hk (by omega), findL]
   by_cases hek : e.k = (k : Int)
   · rw [if_pos hek, if_pos hek, find_low h5 (by omega)]
     rfl
   · rw [if_neg hek, if_neg hek]
theorem zeroV_get (k : Nat) : zeroV.getD k 0 = 0 := by
 rw [List.getD_eq_getElem?_getD, zeroV, List.getElem?_replicate]
 split <;> rfl
theorem vals_get {l z : Int} {es : List Ent} (h : evOk l z es = true) (hz : -1 ≤ z) (k : Nat) (hk : k < 32) : (valsL es).getD k 0 = atL es (k : Int) := by
 rw [valsL, setAll_get h hz zeroV k (by simpa [zeroV] using hk), zeroV_get, atL_find]
theorem store_ext {z : Int} {a b : List Ent} (ha : evOk 1 z a = true) (hb : evOk 1 z b = true) (h : ∀ k, z < k → k ≤ 31 → atL a k = atL b k) : a = b := by
 induction a generalizing z b with
 | nil =>
   cases b with
   | nil => rfl
   | cons f bs =>
     obtain ⟨h1, h2, h3, h4, h5⟩ := evOk_cons hb
     have := h f.k h1 h2
     rw [atL, atL, if_pos rfl] at this
     omega
 | cons e us ih =>
   obtain ⟨h1, h2, h3, h4, h5⟩ := evOk_cons ha
   cases b with
   | nil =>
     have := h e.k h1 h2
     rw [atL, atL, if_pos rfl] at this
     omega
   | cons f bs =>
     obtain ⟨g1, g2, g3, g4, g5⟩ := evOk_cons hb
     have he := h e.k h1 h2
     have hf := h f.k g1 g2
     have hk : e.k = f.k := by
       rcases Int.lt_trichotomy e.k f.k with hlt | heq | hgt
       · rw [atL_find, atL_find, findL, if_pos rfl, findL, if_neg (by omega), find_low g5 (by omega)] at he
         simp at he
         omega
       · exact heq
       · rw [atL_find, atL_find, findL, if_neg (by omega), find_low h5 (by omega), findL, if_pos rfl] at hf
         simp at hf
         omega
     have hv : e.v = f.v := by
       rw [atL, atL, if_pos rfl, if_pos hk.symm] at he
       exact he
     have hef : e = f := by cases e; cases f; simp_all
     subst hef
     rw [ih h5 g5 fun k hk1 hk2 => ?_]
     have := h k (by omega) hk2
     rw [atL, atL, if_neg (by omega), if_neg (by omega)] at this
     exact this
theorem putGo_true (key value : Int) (es : List Ent) : putGo key value true es = es.filter fun e => e.k != key := by
 induction es with
 | nil => rfl
 | cons e es ih =>
   rw [putGo, Bool.true_or, ih]
   by_cases h : e.k = key <;> simp [h]
theorem evOk_filter {l z : Int} {es : List Ent} (p : Ent → Bool) (h : evOk l z es = true) : evOk l z (es.filter p) = true := by
 induction es generalizing z with
 | nil => rfl
 | cons e es ih =>
   obtain ⟨h1, h2, h3, h4, h5⟩ := evOk_cons h
   rw [List.filter_cons]
   split
   · exact evOk_mk h1 h2 h3 h4 (ih h5)
   · exact evOk_mono (ih h5) (by omega)
theorem find_filter (key k : Int) (es : List Ent) : findL (es.filter fun e => e.k != key) k = if k = key then none else findL es k := by
 induction es with
 | nil => simp [findL]
 | cons e es ih =>
   rw [List.filter_cons]
   by_cases h : e.k = key
   · rw [if_neg (by simp [h]), ih]
     by_cases hk : k = key
     · simp [hk]
     · rw [if_neg hk, if_neg hk, findL, if_neg (by omega)]
   · rw [if_pos (by simp [h]), findL, ih, findL]
     by_cases hk : k = key
     · subst hk
       rw [if_neg h, if_pos rfl, if_pos rfl]
     · rw [if_neg hk, if_neg hk]
theorem putGo_false {l z key value : Int} {es : List Ent} (h : evOk l z es = true) (hz : z < key) (hk : key ≤ 31) (hv : l ≤ value) (hv2 : value ≤ 1000000) :
   evOk l z (putGo key value false es) = true ∧ ∀ k, findL (putGo key value false es) k = if k = key then some value else findL es k := by
 induction es generalizing z with
 | nil =>
   rw [putGo, if_neg (by simp)]
   refine ⟨evOk_mk hz hk hv hv2 rfl, fun k => ?_⟩
   by_cases hkk : k = key
   · simp [findL, hkk]
   · have : ¬ key = k := fun e => hkk e.symm
     simp [findL, hkk, this]
 | cons e es ih =>
   obtain ⟨h1, h2, h3, h4, h5⟩ := evOk_cons h
   rw [putGo]
   by_cases hke : key ≤ e.k
   · simp only [hke, and_self, if_true, decide_true, Bool.or_true, putGo_true]
     by_cases hek : e.k = key
     · rw [if_pos hek]
       refine ⟨evOk_mk hz hk hv hv2 (evOk_mono (evOk_filter _ h5) (by omega)), fun k => ?_⟩
       show findL (⟨key, value⟩ :: (es.filter fun e => e.k != key)) k = _
       rw [findL, find_filter, findL]
       by_cases hkk : k = key
       · simp [hkk]
       · rw [if_neg (by simp only; omega), if_neg hkk, if_neg hkk, if_neg (by omega)]
     · rw [if_neg hek]
       refine ⟨evOk_mk hz hk hv hv2 (evOk_mk (by simp only; omega) h2 h3 h4 (evOk_filter _ h5)), fun k => ?_⟩
       show findL (⟨key, value⟩ :: e :: (es.filter fun e => e.k != key)) k = _
       rw [findL, findL, find_filter, findL]
       by_cases hkk : k = key
       · simp [hkk]
       · rw [if_neg (by simp only; omega), if_neg hkk, if_neg hkk]
   · have hke' : decide (key ≤ e.k) = false := by simpa using hke
     simp only [hke, and_false, if_false, hke', Bool.or_false, List.nil_append]
     rw [if_neg (by omega)]
     obtain ⟨i1, i2⟩ := ih h5 (by omega)
     refine ⟨evOk_mk h1 h2 h3 h4 i1, fun k => ?_⟩
     show findL (e :: putGo key value false es) k = _
     rw [findL, i2, findL]
     by_cases hkk : k = key
     · subst hkk
       rw [if_neg (by omega), if_pos rfl, if_pos rfl]
     · rw [if_neg hkk, if_neg hkk]
theorem putL_ok {s : List Ent} {key value : Int} (h : storeB s = true) (h1 : 0 ≤ key) (h2 : key ≤ 31) (h3 : 0 ≤ value) (h4 : value ≤ 1000000) :
   storeB (putL s key value) = true ∧ ∀ k, atL (putL s key value) k = if k = key then value else atL s k := by
 unfold putL
 by_cases hv : value = 0
 · subst hv
   rw [show ((0 : Int) == 0) = true from rfl, putGo_true]
   refine ⟨evOk_filter _ h, fun k => ?_⟩
   rw [atL_find, find_filter, atL_find]
   by_cases hk : k = key
   · simp [hk]
   · rw [if_neg hk, if_neg hk]
 · rw [show (value == 0) = false by simpa using hv]
   obtain ⟨i1, i2⟩ := putGo_false (key := key) (value := value) h (by omega) h2 (by omega) h4
   refine ⟨i1, fun k => ?_⟩
   rw [atL_find, i2, atL_find]
   by_cases hk : k = key
   · simp [hk]
   · rw [if_neg hk, if_neg hk]
theorem stGo_ok (v : List Int) (hv : ∀ k, 0 ≤ v.getD k 0 ∧ v.getD k 0 ≤ 1000000) (n : Nat) (hn : n ≤ 32) : (∀ z : Int, (n : Int) ≤ z + 1 ∨ True → evOk 1 (-1) (stGo v n) = true) ∧ ∀ k, findL (stGo v n) k = if 0 ≤ k ∧ k < n ∧ 0 < v.getD k.toNat 0 then some (v.getD k.toNat 0) else none := by
 have key : ∀ n, n ≤ 32 → evOk 1 (-1) (stGo v n) = true ∧ (∀ e ∈ stGo v n, e.k < n) ∧ ∀ k, findL (stGo v n) k = if 0 ≤ k ∧ k < n ∧ 0 < v.getD k.toNat 0 then some (v.getD k.toNat 0) else none := by
   have app : ∀ (es : List Ent) (z : Int) (e : Ent), evOk 1 z es = true → z < e.k → (∀ x ∈ es, x.k < e.k) → e.k ≤ 31 → 1 ≤ e.v → e.v ≤ 1000000 → evOk 1 z (es ++ [e]) = true := by
     intro es
     induction es with
     | nil => intro z e _ h1 _ h2 h3 h4; exact evOk_mk h1 h2 h3 h4 rfl
     | cons x es ih =>
       intro z e h h1 hx h2 h3 h4
       obtain ⟨g1, g2, g3, g4, g5⟩ := evOk_cons h
       exact evOk_mk g1 g2 g3 g4 (ih x.k e g5 (hx x (by simp)) (fun y hy => hx y (by simp [hy])) h2 h3 h4)
   have fap : ∀ (es : List Ent) (e : Ent) (k : Int), findL (es ++ [e]) k = match findL es k with | some u => some u | none => if e.k = k then some e.v else none := by
     intro es e k
     induction es with
     | nil => rfl
     | cons x es ih =>
       show findL (x :: (es ++ [e])) k = _
       rw [findL, findL]
       split
       · rfl
       · exact ih
   intro n
   induction n with
   | zero =>
     intro _
     refine ⟨rfl, fun e he => (by cases he), fun k => ?_⟩
     rw [if_neg (by omega)]
     rfl
   | succ n ih =>
     intro hn
     obtain ⟨i1, i2, i3⟩ := ih (by omega)
     rw [stGo]
     by_cases hp : 0 < v.getD n 0
     · rw [if_pos hp]
       refine ⟨app _ _ _ i1 (by simp only; omega) (fun x hx => i2 x hx) (by simp only; omega) (by simp only; omega) (hv n).2, fun e he => ?_, fun k => ?_⟩
       · rcases List.mem_append.1 he with he | he
         · have := i2 e he; omega
         · have : e = ⟨(n : Int), v.getD n 0⟩ := by simpa using he
           rw [this]; simp only; omega
       · rw [fap, i3]
         by_cases hk : k = (n : Int)
         · subst hk
           have c1 : ¬ (0 ≤ (n : Int) ∧ (n : Int) < (n : Int) ∧ 0 < v.getD (n : Int).toNat 0) := by omega
           have c2 : 0 ≤ (n : Int) ∧ (n : Int) < ((n + 1 : Nat) : Int) ∧ 0 < v.getD (n : Int).toNat 0 := ⟨by omega, by omega, by simpa using hp⟩
           rw [if_neg c1, if_pos c2]
           simp
         · by_cases hc : 0 ≤ k ∧ k < n ∧ 0 < v.getD k.toNat 0
           · have c2 : 0 ≤ k ∧ k < ((n + 1 : Nat) : Int) ∧ 0 < v.getD k.toNat 0 := ⟨hc.1, by omega, hc.2.2⟩
             rw [if_pos hc, if_pos c2]
           · have c2 : ¬ (0 ≤ k ∧ k < ((n + 1 : Nat) : Int) ∧ 0 < v.getD k.toNat 0) := fun h => hc ⟨h.1, by omega, h.2.2⟩
             have c3 : ¬ (n : Int) = k := fun h => hk h.symm
             rw [if_neg hc, if_neg c2]
             simp only [c3, if_false]
     · rw [if_neg hp, List.append_nil]
       refine ⟨i1, fun e he => by have := i2 e he; omega, fun k => ?_⟩
       rw [i3]
       by_cases hc : 0 ≤ k ∧ k < n ∧ 0 < v.getD k.toNat 0
       · rw [if_pos hc, if_pos ⟨hc.1, by omega, hc.2.2⟩]
       · rw [if_neg hc, if_neg]
         rintro ⟨h1, h2, h3⟩
         by_cases hk : k = (n : Int)
         · subst hk; exact hp (by simpa using h3)
         · exact hc ⟨h1, by omega, h3⟩
 exact ⟨fun _ _ => (key n hn).1, (key n hn).2.2⟩
/-- values as a list of numbers in 0..1000000 -/
def valOk (v : List Int) : Prop := v.length = 32 ∧ ∀ k, 0 ≤ v.getD k 0 ∧ v.getD k 0 ≤ 1000000
theorem storeL_ok {v : List Int} (hv : valOk v) : storeB (storeL v) = true ∧ ∀ k : Nat, k < 32 → atL (storeL v) (k : Int) = v.getD k 0 := by
 obtain ⟨h1, h2⟩ := stGo_ok v hv.2 32 (Nat.le_refl _)
 refine ⟨h1 31 (.inr trivial), fun k hk => ?_⟩
 rw [atL_find]
 show (findL (stGo v 32) k).getD 0 = _
 rw [h2]
 by_cases hc : 0 < v.getD k 0
 · rw [if_pos ⟨by omega, by omega, by simpa using hc⟩]
   simp
 · rw [if_neg (fun h => hc (by simpa using h.2.2))]
   have := (hv.2 k).1
   simp only [Option.getD_none]
   omega
theorem valOk_set {v : List Int} (hv : valOk v) {e : Ent} (h0 : 0 ≤ e.k) (h1 : 0 ≤ e.v) (h2 : e.v ≤ 1000000) : valOk (setV v e) := by
 refine ⟨by simpa [setV] using hv.1, fun k => ?_⟩
 by_cases hk : k < v.length
 · rw [setV_get v e k hk h0]
   split
   · exact ⟨h1, h2⟩
   · exact hv.2 k
 · rw [List.getD_eq_getElem?_getD, List.getElem?_eq_none (by simp [setV]; omega)]
   simp
theorem valOk_zero : valOk zeroV := ⟨by simp [zeroV], fun k => by rw [zeroV_get]; omega⟩
theorem valOk_all {v : List Int} (hv : valOk v) {l z : Int} {es : List Ent} (h : evOk l z es = true) (hl : 0 ≤ l) (hz : -1 ≤ z) : valOk (setAll v es) := by
 induction es generalizing z v with
 | nil => exact hv
 | cons e es ih =>
   obtain ⟨h1, h2, h3, h4, h5⟩ := evOk_cons h
   exact ih (valOk_set hv (by omega) (by omega) h4) h5 (by omega)
theorem valOk_vals {l : Int} {es : List Ent} (h : evOk l (-1) es = true) (hl : 0 ≤ l) : valOk (valsL es) := valOk_all valOk_zero h hl (by omega)
theorem vals_ext {v u : List Int} (hv : valOk v) (hu : valOk u) (h : ∀ k, k < 32 → v.getD k 0 = u.getD k 0) : v = u := by
 refine List.ext_getElem (hv.1.trans hu.1.symm) fun k h1 h2 => ?_
 have := h k (by have := hv.1; omega)
 rw [List.getD_eq_getElem?_getD, List.getD_eq_getElem?_getD, List.getElem?_eq_getElem h1, List.getElem?_eq_getElem h2] at this
 simpa using this
theorem storeB_def (es : List Ent) : storeB es = evOk 1 (-1) es := rfl
/-- a store is what its values are as a store -/
theorem store_vals {s : List Ent} (h : storeB s = true) : storeL (valsL s) = s := by
 rw [storeB_def] at h
 obtain ⟨h1, h2⟩ := storeL_ok (valOk_vals h (by omega))
 rw [storeB_def] at h1
 generalize hv : valsL s = v at *
 generalize storeL v = t at *
 refine store_ext h1 h fun k hk1 hk2 => ?_
 obtain ⟨j, hj⟩ := Int.eq_ofNat_of_zero_le (show 0 ≤ k by omega)
 subst hj
 have e1 := h2 j (by omega)
 have e2 := vals_get h (by omega) j (by omega)
 rw [hv] at e2
 exact e1.trans e2
theorem vals_store {v : List Int} (hv : valOk v) : valsL (storeL v) = v := by
 obtain ⟨h1, h2⟩ := storeL_ok hv
 rw [storeB_def] at h1
 generalize storeL v = t at *
 refine vals_ext (valOk_vals h1 (by omega)) hv fun k hk => ?_
 rw [vals_get h1 (by omega) k hk, h2 k hk]
theorem vals_put {s : List Ent} {key value : Int} (h : storeB s = true) (h1 : 0 ≤ key) (h2 : key ≤ 31) (h3 : 0 ≤ value) (h4 : value ≤ 1000000) : valsL (putL s key value) = setV (valsL s) ⟨key, value⟩ := by
 obtain ⟨g1, g2⟩ := putL_ok h h1 h2 h3 h4
 refine vals_ext (valOk_vals g1 (by omega)) (valOk_set (valOk_vals h (by omega)) h1 h3 h4) fun k hk => ?_
 rw [vals_get g1 (by omega) k hk, g2, setV_get _ _ k (by rw [valsL_len]; exact hk) h1, vals_get h (by omega) k hk]
 by_cases hkk : key = (k : Int)
 · simp [hkk]
 · rw [if_neg (fun e => hkk e.symm), if_neg hkk]
theorem putAll_ok {l z : Int} {s es : List Ent} (hs : storeB s = true) (h : evOk l z es = true) (hl : 0 ≤ l) (hz : -1 ≤ z) : storeB (putAll s es) = true ∧ valsL (putAll s es) = setAll (valsL s) es := by
 induction es generalizing z s with
 | nil => exact ⟨hs, rfl⟩
 | cons e es ih =>
   obtain ⟨h1, h2, h3, h4, h5⟩ := evOk_cons h
   obtain ⟨g1, g2⟩ := ih (putL_ok hs (by omega) h2 (by omega) h4).1 h5 (by omega)
   refine ⟨g1, g2.trans ?_⟩
   rw [vals_put hs (by omega) h2 (by omega) h4]
   rfl
theorem storeL_len (v : List Int) : (storeL v).length ≤ 32 := by
 have : ∀ n, (stGo v n).length ≤ n := by
   intro n
   induction n with
   | zero => simp [stGo]
   | succ n ih => rw [stGo, List.length_append]; split <;> simp <;> omega
 exact this 32
theorem evOk_len {l z : Int} {es : List Ent} (h : evOk l z es = true) (hz : -1 ≤ z) (hz2 : z ≤ 31) : (es.length : Int) ≤ 31 - z := by
 induction es generalizing z with
 | nil => simp; omega
 | cons e es ih =>
   obtain ⟨h1, h2, h3, h4, h5⟩ := evOk_cons h
   have := ih h5 (by omega) h2
   rw [List.length_cons]
   omega
theorem store_len {es : List Ent} (h : storeB es = true) : es.length ≤ 32 := by have := evOk_len h (by omega) (by omega); omega
theorem diff_len {es : List Ent} (h : diffB es = true) : es.length ≤ 32 := by have := evOk_len h (by omega) (by omega); omega
end Go.Proofs.YtihlhejencninaaGreat
namespace Go.Proofs.YtihlhejencninaaGreat
open Go.RowKit
set_option linter.unusedVariables false
set_option linter.unusedSimpArgs false

/-- numbers as cells -/
def vA (v : List Int) : Array Value := (v.map (Value.int .i64)).toArray
theorem vA_size (v : List Int) : (vA v).size = v.length := by simp [vA]
theorem vA_one (v : List Int) : (vA v).all (·.oneCell') = true := by
 rw [Array.all_eq_true_iff_forall_mem]
 intro x hx
 obtain ⟨z, _, rfl⟩ := List.mem_map.1 (by simpa [vA] using hx : x ∈ v.map (Value.int .i64))
 rfl
theorem vA_get {w : World} {g : Nat} {t : TypeId} {v : List Int} (h : Blk w g t (vA v)) {k : Nat} (hk : k < v.length) : w.cell? ⟨g, k, none⟩ = some (.int .i64 (v.getD k 0)) := by
 rw [h.cell]
 simp [vA, hk]
theorem vA_set {w : World} {g : Nat} {t : TypeId} {v : List Int} (h : Blk w g t (vA v)) (k : Nat) (x : Int) : Blk (w.setCell ⟨g, k, none⟩ (.int .i64 x)) g t (vA (v.set k x)) := by
 have := h.set_ k (.int .i64 x)
 simpa [vA, List.map_set] using this
theorem vA_zero : vA zeroV = #[.int .i64 0, .int .i64 0, .int .i64 0, .int .i64 0, .int .i64 0, .int .i64 0, .int .i64 0, .int .i64 0, .int .i64 0, .int .i64 0, .int .i64 0, .int .i64 0, .int .i64 0, .int .i64 0, .int .i64 0, .int .i64 0, .int .i64 0, .int .i64 0, .int .i64 0, .int .i64 0, .int .i64 0, .int .i64 0, .int .i64 0, .int .i64 0, .int .i64 0, .int .i64 0, .int .i64 0, .int .i64 0, .int .i64 0, .int .i64 0, .int .i64 0, .int .i64 0] := rfl
theorem blk_setRow {w : World} {g : Nat} {t : TypeId} {cs ds : Array Value} (h : Blk w g t cs) : Blk (w.setRow g ds) g t ds := setRow_heap w g cs ds t (0, 0) h
theorem info_vals : (Tryz.prog.info? 112).map (·.size) = some 32 := by kernel_rfl
theorem index_vals (v : List Int) (hv : v.length = 32) (k : Nat) (hk : k < 32) (w : World) : (Instr.index 112 (.agg (vA v)) (.int .i64 (k : Int))).run Tryz.prog w = .ok (.int .i64 (v.getD k 0)) w := by
 have h3 : Tryz.prog.underlying 3 = some (.int .i64) := Tryz.underlying3
 have hk2 : (k : Int) < 32 := by omega
 have hc : (vA v)[k]? = some (.int .i64 (v.getD k 0)) := by simp [vA, hk, hv]
 simp [Instr.index, go_sem, run_underlying Tryz.underlying112, hk2, hk, hc, part]

set_option maxRecDepth 100000 in
theorem valuesOf_any (A : Option Addr) (c : Nat) (es : List Ent) (w : World) (h : Rd w A (es.flatMap encE)) (hb : es.length ≤ 4611686018427387904) (hk : ∀ e ∈ es, 0 ≤ e.k ∧ e.k ≤ 31) :
   Calls Tryz.prog 83 #[.slice A es.length c] w fun e w' => e = .returned (.agg (vA (valsL es))) ∧ Below w.heap.size w w' := by
 have HK := hide hk
 clear hk
 go_enter Tryz.func83, Tryz.ntmps83
 go_wp2
 have hb0 : Below w.heap.size w ((w.alloc (.cells (vA zeroV) 112)).alloc (.cells (vA zeroV) 112)) := ((Below.refl _ _).alloc (Nat.le_refl _) _).alloc (by simp) _
 have k0 : Blk ((w.alloc (.cells (vA zeroV) 112)).alloc (.cells (vA zeroV) 112)) w.heap.size 112 (vA zeroV) := (Blk.new _ _ _).alloc _
 have k1 : Blk ((w.alloc (.cells (vA zeroV) 112)).alloc (.cells (vA zeroV) 112)) (w.heap.size + 1) 112 (vA zeroV) := by
   have := Blk.new (w.alloc (.cells (vA zeroV) 112)) 112 (vA zeroV)
   simpa using this
 rw [vA_zero] at hb0 k0 k1
 generalize (w.alloc _).alloc _ = w2 at *
 rw [← vA_zero] at k0 k1
 have hl := valsL_len
 go_loopw [8] (fun i wr => ∃ k : Nat, k ≤ es.length ∧ i = .int .i64 k ∧ Blk wr (w.heap.size + 1) 112 (vA (setAll zeroV (es.take k))) ∧ Chg (fun q => q = w.heap.size + 1) w2 wr) (fun i _ => es.length - (intOf i).toNat)
 case atStart => exact ⟨0, Nat.zero_le _, rfl, k1, Chg.refl _ _⟩
 case round =>
   obtain ⟨k, hk, rfl, kv, hch⟩ := hrel
   have hB : Below w.heap.size w wr := hb0.trans (hch.below (fun q hq e => by omega) hb0.size)
   by_cases hlt : k < es.length
   · obtain ⟨b, off, rfl, hbb, c0, c1⟩ := (h.new hB).ent hlt
     have hkb := unhide HK es[k] (List.getElem_mem hlt)
     have HS := hide (show setAll zeroV (es.take (k + 1)) = (setAll zeroV (es.take k)).set es[k].k.toNat es[k].v by rw [List.take_succ_eq_append_getElem hlt, setAll_snoc]; rfl)
     have hlen : (setAll zeroV (es.take k)).length = 32 := (setAll_len _ _).trans (by simp [zeroV])
     generalize setAll zeroV (es.take k) = v at *
     generalize es[k] = x at *
     obtain ⟨key, val⟩ := x
     simp only at c0 c1 hkb HS
     obtain ⟨q, rfl⟩ := Int.eq_ofNat_of_zero_le hkb.1
     have i1 : (k : Int) < (es.length : Int) := by omega
     have i2 : (q : Int) < 32 := by omega
     have i3 : q < 32 := by omega
     have cv := vA_get kv (show q < v.length by omega)
     have zv := kv.frozen q
     have hvl := kv.lt
     have hne : w.heap.size + 1 ≠ wr.heap.size := by omega
     go_wp2
     go_roundw
     case rel => exact ⟨k + 1, by omega, by go_num, by rw [unhide HS]; exact (vA_set kv q val).alloc _, (hch.setCell (p := ⟨w.heap.size + 1, q, none⟩) (.inl rfl) _).alloc _⟩
     case measure => simp [intOf]; omega
   · obtain rfl : k = es.length := by omega
     rw [List.take_length] at kv
     have kr : Blk wr w.heap.size 112 (vA zeroV) := k0.chg hch (by omega)
     have hls : (vA (valsL es)).size = 32 := by rw [vA_size, valsL_len]
     go_wp2_with (first | (refine wpList_load_row rfl 112 (.tmp 3) rfl (w.heap.size + 1) rfl 112 (vA (valsL es)) (0, 0) _ kv Tryz.underlying112 rfl (by rw [hls]; exact info_vals) ?_) | (refine wpList_store_row rfl 112 (.tmp 2) (.tmp 18) rfl w.heap.size (vA (valsL es)) rfl rfl 112 (vA zeroV) kr (by rw [hls]; exact info_vals) (by rw [hls]; rfl) (vA_one _) ?_))
     refine bodyPost_ret (v := .agg (vA (valsL es))) (results_cell_row (p := 2) (ty := 112) rfl _ _ w.heap.size 112 (vA (valsL es)) (0, 0) _ rfl (blk_setRow kr) Tryz.underlying112 rfl (by rw [hls]; exact info_vals)) rfl ⟨rfl, ?_⟩
     exact ⟨hB.os, hB.tape, hB.output, by rw [size_setRow]; exact hB.size, fun q hq => (setRow_other wr w.heap.size q _ (by omega)).trans (hB.block q hq)⟩
set_option maxRecDepth 100000 in
theorem store_any (v : List Int) (w : World) (hv : v.length = 32) :
   Calls Tryz.prog 84 #[.agg (vA v)] w fun e w' => ∃ A' c', e = .returned (.slice A' (storeL v).length c') ∧ w'.ownsRow w.heap.size 79 2 (.slice A' (storeL v).length c') (storeL v).length ((storeL v).flatMap encE) ∧ Below w.heap.size w w' := by
 have hls : (vA v).size = 32 := by rw [vA_size, hv]
 have HL := hide (show storeL v = stGo v 32 from rfl)
 generalize storeL v = r at *
 go_enter Tryz.func84, Tryz.ntmps84
 go_wp2_with (refine wpList_load_row rfl 112 (.tmp 1) rfl w.heap.size rfl 112 (vA v) (0, 0) _ (Blk.new w 112 (vA v)) Tryz.underlying112 rfl (by rw [hls]; exact info_vals) ?_)
 have hb0 : Below w.heap.size w (w.alloc (.cells (vA v) 112)) := (Below.refl _ _).alloc (Nat.le_refl _) _
 generalize w.alloc (.cells (vA v) 112) = w2 at *
 go_loopw [3, 7] (fun r i wr => ∃ (k : Nat) (A' : Option Addr) (c' : Nat), k ≤ 32 ∧ i = .int .i64 k ∧ r = .slice A' (stGo v k).length c' ∧ (stGo v k).length ≤ k ∧ wr.ownsRow w.heap.size 79 2 (.slice A' (stGo v k).length c') (stGo v k).length ((stGo v k).flatMap encE) ∧ Below w.heap.size w wr) (fun _ i _ => 32 - (intOf i).toNat)
 case atStart => exact ⟨0, none, 0, by omega, rfl, rfl, by simp [stGo], own_nil _ _ _ _, hb0⟩
 case round =>
   obtain ⟨k, A', c', hk, rfl, rfl, hgl, hown, hB⟩ := hrel
   by_cases hlt : k < 32
   · have hix := index_vals v hv k hlt
     have i1 : (k : Int) < 32 := by omega
     have hst := show stGo v (k + 1) = stGo v k ++ (if 0 < v.getD k 0 then [⟨(k : Int), v.getD k 0⟩] else []) from rfl
     generalize stGo v k = gs at *
     generalize v.getD k 0 = x at *
     by_cases hx : 0 < x
     · have hx2 : decide (0 < x) = true := by simpa using hx
       rw [if_pos hx] at hst
       have HS := hide hst
       clear hst
       go_wp2_with (at_builtin; refine wpList_app rfl (.tmp 13) (.tmp 17) 34 rfl el_ent rfl (own_alloc hown _) rfl (rd_lit wr [.int .i64 (k : Int), .int .i64 x] _) rfl (one_ents [⟨(k : Int), x⟩]) (by simp only [maxLen]; omega) (by omega) (by have := hB.size; simp; omega) ?_; intro A1 c1 w1 o1 ch1 _ _; rw [snoc_ents] at o1)
       have hB1 := app_below hB hown ch1 (Nat.le_refl _)
       go_roundw
       case rel => exact ⟨k + 1, A1, c1, by omega, by go_num, by rw [unhide HS]; simp, by rw [unhide HS]; simp; omega, by rw [unhide HS]; simpa using o1, hB1⟩
       case measure => simp [intOf]; omega
     · have hx2 : decide (0 < x) = false := by simpa using hx
       rw [if_neg hx, List.append_nil] at hst
       have HS := hide hst
       clear hst
       go_wp2
       go_roundw
       case rel => exact ⟨k + 1, A', c', by omega, by go_num, by rw [unhide HS], by rw [unhide HS]; omega, by rw [unhide HS]; exact hown, hB⟩
       case measure => simp [intOf]; omega
   · obtain rfl : k = 32 := by omega
     go_wp2
     go_ret
     rw [unhide HL]
     exact ⟨A', c', rfl, hown, hB⟩
end Go.Proofs.YtihlhejencninaaGreat
namespace Go.Proofs.YtihlhejencninaaGreat
open Go.RowKit
set_option linter.unusedVariables false
set_option linter.unusedSimpArgs false
attribute [local go_sem ↓] Go.wp_at_zero Go.wp_at_succ

theorem store_keys {s : List Ent} (h : storeB s = true) : ∀ e ∈ s, 0 ≤ e.k ∧ e.k ≤ 31 := fun e he => by
 have := evOk_all (show evOk 1 (-1) s = true from h) e he
 omega
theorem store_get {s : List Ent} (h : storeB s = true) (k : Nat) (hk : k < 32) : (valsL s).getD k 0 = atL s (k : Int) := vals_get (show evOk 1 (-1) s = true from h) (by omega) k hk
def zA : Array Value := #[.int .i64 0, .int .i64 0, .int .i64 0, .int .i64 0, .int .i64 0, .int .i64 0, .int .i64 0, .int .i64 0, .int .i64 0, .int .i64 0, .int .i64 0, .int .i64 0, .int .i64 0, .int .i64 0, .int .i64 0, .int .i64 0, .int .i64 0, .int .i64 0, .int .i64 0, .int .i64 0, .int .i64 0, .int .i64 0, .int .i64 0, .int .i64 0, .int .i64 0, .int .i64 0, .int .i64 0, .int .i64 0, .int .i64 0, .int .i64 0, .int .i64 0, .int .i64 0]
/-- a world by what is known of it -/
theorem at_world {C F : World → Prop} {w : World} (hf : F w) (h : ∀ w, F w → C w) : C w := h w hf
/-- one variable of values that is laid and stored into -/
theorem one_vals (w : World) (t : TypeId) (v : List Int) : Blk (w.alloc (.cells zA t)) w.heap.size t zA ∧ Blk ((w.alloc (.cells zA t)).setRow w.heap.size (vA v)) w.heap.size t (vA v) ∧ Below w.heap.size w ((w.alloc (.cells zA t)).setRow w.heap.size (vA v)) := by
 have h1 : Blk (w.alloc (.cells zA t)) w.heap.size t zA := Blk.new _ _ _
 have b1 : Below w.heap.size w (w.alloc (.cells zA t)) := (Below.refl _ _).alloc (Nat.le_refl _) _
 exact ⟨h1, blk_setRow h1, ⟨b1.os, b1.tape, b1.output, by rw [size_setRow]; exact b1.size, fun q hq => (setRow_other _ w.heap.size q _ (by omega)).trans (b1.block q hq)⟩⟩
end Go.Proofs.YtihlhejencninaaGreat
namespace Go.Proofs.YtihlhejencninaaGreat
open Go.RowKit
set_option linter.unusedVariables false
set_option linter.unusedSimpArgs false

end Go.Proofs.YtihlhejencninaaGreat
namespace Go.Proofs.YtihlhejencninaaGreat
open Go.RowKit
set_option linter.unusedVariables false
set_option linter.unusedSimpArgs false

section
variable {g n M : Nat} {A2 : Option Addr} {a b c : World}
end
end Go.Proofs.YtihlhejencninaaGreat
