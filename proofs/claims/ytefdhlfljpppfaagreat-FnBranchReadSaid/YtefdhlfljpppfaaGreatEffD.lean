/- Effects and stores: ApplyEffect, EffectsStore of impl and spec. -/
import Derived.Test.YtefdhlfljpppfaaGreatEffS
import Derived.Test.YtefdhlfljpppfaaGreatDiffs
import Derived.StillTailTactics
namespace Go.Proofs.YtefdhlfljpppfaaGreat
open Go.RowKit
set_option linter.unusedVariables false
set_option linter.unusedSimpArgs false
attribute [local go_sem ↓] Go.wp_at_zero Go.wp_at_succ

theorem evOk_take {l z : Int} {es : List Ent} (h : evOk l z es = true) (n : Nat) : evOk l z (es.take n) = true := by
  induction n generalizing z es with
  | zero => rfl
  | succ n ih =>
    cases es with
    | nil => rfl
    | cons e es =>
      obtain ⟨h1, h2, h3, h4, h5⟩ := evOk_cons h
      exact evOk_mk h1 h2 h3 h4 (ih h5)
theorem putAll_snoc (s es : List Ent) (e : Ent) : putAll s (es ++ [e]) = putL (putAll s es) e.k e.v := by unfold putAll; rw [List.foldl_append]; rfl
/-- a store with the values of a difference -/
def applyL (s d : List Ent) : List Ent := if storeB s = true ∧ diffB d = true then putAll s d else []
theorem applyL_len (s d : List Ent) : (applyL s d).length ≤ 32 := by
  unfold applyL
  split
  · rename_i h
    exact store_len (putAll_ok h.1 (show evOk 0 (-1) d = true from h.2) (by omega) (by omega)).1
  · simp
theorem applyL_storeB {s d : List Ent} (hs : storeB s = true) (hd : diffB d = true) : storeB (applyL s d) = true := by
  unfold applyL
  rw [if_pos ⟨hs, hd⟩]
  exact (putAll_ok hs (show evOk 0 (-1) d = true from hd) (by omega) (by omega)).1
set_option maxRecDepth 100000 in
set_option maxHeartbeats 1000000 in
theorem applyEffect_spec (A : Option Addr) (ca : Nat) (a : List Ent) (x : Eff) (A1 : Option Addr) (c1 : Nat) (B : Option Addr) (cb : Nat) (w : World) (ha : Rd w A (a.flatMap encE)) (hb : Rd w B (x.writes.flatMap encE)) (hla : a.length ≤ 4611686018427387904) (hlb : x.writes.length ≤ 4611686018427387904) :
    Calls Tryz.prog 113 #[.slice A a.length ca, .agg #[.bool x.done, .slice A1 x.reads.length c1, .slice B x.writes.length cb]] w fun e w' => ∃ A' c', e = .returned (.slice A' (applyL a x.writes).length c') ∧ w'.ownsRow w.heap.size 85 2 (.slice A' (applyL a x.writes).length c') (applyL a x.writes).length ((applyL a x.writes).flatMap encE) ∧ Below w.heap.size w w' := by
  have hb0 : Below w.heap.size w (w.alloc (.cells #[.bool x.done, .slice A1 x.reads.length c1, .slice B x.writes.length cb] 83)) := (Below.refl _ _).alloc (Nat.le_refl _) _
  have k0 := Blk.new w 83 #[.bool x.done, .slice A1 x.reads.length c1, .slice B x.writes.length cb]
  replace ha := ha.new hb0
  replace hb := hb.new hb0
  have HW := hide (show applyL a x.writes = applyL a x.writes from rfl)
  obtain ⟨xd, xr, b⟩ := x
  simp only at *
  cases hsa : storeB a
  · have HL := hide (show applyL a b = [] by simp [applyL, hsa])
    go_enter Tryz.func113, Tryz.ntmps113
    go_wp2_with fail
    refine (storeB_store_spec A ca a _ ha (by omega)).mono ?_
    rintro e w' ⟨rfl, m1, rfl⟩
    rw [hsa]
    have hb1 := below_drewN hb0 m1
    generalize (w.alloc (.cells #[.bool xd, .slice A1 xr.length c1, .slice B b.length cb] 83)).drewN m1 = w2 at *
    go_wp2
    go_ret
    rw [unhide HL]
    exact ⟨_, _, rfl, own_made (base := w.heap.size) w2 #[] 0 hb1.size (by simp [maxLen]) rfl, hb1.alloc hb1.size _⟩
  cases hsb : diffB b
  · have HL := hide (show applyL a b = [] by simp [applyL, hsb])
    go_enter Tryz.func113, Tryz.ntmps113
    go_wp2_with fail
    refine (storeB_store_spec A ca a _ ha (by omega)).mono ?_
    rintro e w' ⟨rfl, m1, rfl⟩
    rw [hsa]
    have z2 : ((w.alloc (.cells #[.bool xd, .slice A1 xr.length c1, .slice B b.length cb] 83)).drewN m1).cell? ⟨w.heap.size, 2, none⟩ = some (.slice B b.length cb) := (k0.drewN m1).cell 2
    go_wp2_with fail
    refine (diffB_writes_spec B cb b _ (hb.drewN m1) (by omega)).mono ?_
    rintro e w' ⟨rfl, m2, rfl⟩
    rw [hsb, World.drewN_drewN]
    have hb1 := below_drewN hb0 (m1 + m2)
    clear z2
    generalize (w.alloc (.cells #[.bool xd, .slice A1 xr.length c1, .slice B b.length cb] 83)).drewN (m1 + m2) = w2 at *
    go_wp2
    go_ret
    rw [unhide HL]
    exact ⟨_, _, rfl, own_made (base := w.heap.size) w2 #[] 0 hb1.size (by simp [maxLen]) rfl, hb1.alloc hb1.size _⟩
  have HL := hide (show applyL a b = putAll a b by unfold applyL; rw [if_pos ⟨hsa, hsb⟩])
  have HPL := hide (show ∀ k, (putAll a (b.take k)).length ≤ 32 from fun k => store_len (putAll_ok hsa (show evOk 0 (-1) (b.take k) = true from evOk_take hsb k) (by omega) (by omega)).1)
  have hal := store_len hsa
  have hbl := diff_len hsb
  have HSA := hide hsa
  have HSB := hide hsb
  clear hsa hsb
  go_enter Tryz.func113, Tryz.ntmps113
  go_wp2_with fail
  refine (storeB_store_spec A ca a _ ha (by omega)).mono ?_
  rintro e w' ⟨rfl, m1, rfl⟩
  rw [unhide HSA]
  have z2 : ((w.alloc (.cells #[.bool xd, .slice A1 xr.length c1, .slice B b.length cb] 83)).drewN m1).cell? ⟨w.heap.size, 2, none⟩ = some (.slice B b.length cb) := (k0.drewN m1).cell 2
  go_wp2_with fail
  refine (diffB_writes_spec B cb b _ (hb.drewN m1) (by omega)).mono ?_
  rintro e w' ⟨rfl, m2, rfl⟩
  rw [unhide HSB]
  rw [World.drewN_drewN]
  clear z2
  have ha2 := ha.drewN (m1 + m2)
  have hb2 := hb.drewN (m1 + m2)
  have k2 := k0.drewN (m1 + m2)
  have hB2 := below_drewN hb0 (m1 + m2)
  generalize (w.alloc (.cells #[.bool xd, .slice A1 xr.length c1, .slice B b.length cb] 83)).drewN (m1 + m2) = w2 at *
  clear ha hb k0 hb0
  have o2 := own_made (base := w2.heap.size) (e := 85) (size := 2) w2 #[] 0 (Nat.le_refl _) (by simp [maxLen]) rfl
  go_wp2_with (at_builtin; refine wpList_app rfl (.tmp 17) (.tmp 18) 23 rfl el_ent rfl o2 rfl (ha2.alloc _) (length_flat encE 2 encE_len a) (one_ents a) (by simp only [maxLen]; omega) (by omega) (by simp) ?_; intro A3 c3 w3 o3 ch3 _ _)
  have hb23 : Below w2.heap.size w2 w3 := ((Below.refl _ _).alloc (Nat.le_refl _) _).trans (ch3.below (fun q hq e => by injection e with e; injection e with e; omega) (by simp))
  rw [show (0 : Nat) + a.length = a.length by omega] at o3
  have hb3 := hb2.new hb23
  have k3 := k2.new_ hb23
  have hB3 : Below w.heap.size w w3 := bthen hB2 hb23
  have o4 : w3.ownsRow w.heap.size 85 2 (.slice A3 a.length c3) a.length (a.flatMap encE) := own_base o3 (by simpa using hB2.size)
  clear o3 ch3 o2 ha2 hb2 k2
  go_loopw [5, 6] (fun v i wr => ∃ (k : Nat) (A' : Option Addr) (c' : Nat), k ≤ b.length ∧ i = .int .i64 k ∧ v = .slice A' (putAll a (b.take k)).length c' ∧ wr.ownsRow w.heap.size 85 2 (.slice A' (putAll a (b.take k)).length c') (putAll a (b.take k)).length ((putAll a (b.take k)).flatMap encE) ∧ Below w3.heap.size w3 wr) (fun _ i _ => b.length - (intOf i).toNat)
  case atStart => exact ⟨0, A3, c3, by omega, rfl, rfl, o4, Below.refl _ _⟩
  case round =>
    obtain ⟨k, A', c', hk, rfl, rfl, hown, hB⟩ := hrel
    have z2 : wr.cell? ⟨w.heap.size, 2, none⟩ = some (.slice B b.length cb) := (k3.new_ hB).cell 2
    by_cases hlt : k < b.length
    · obtain ⟨b', off, rfl, hbb, d1, d2⟩ := (hb3.new hB).ent hlt
      have HS := hide (show putAll a (b.take (k + 1)) = putL (putAll a (b.take k)) b[k].k b[k].v by rw [List.take_succ_eq_append_getElem hlt, putAll_snoc])
      have hln := unhide HPL k
      generalize putAll a (b.take k) = cur at *
      generalize b[k] = x at *
      have i1 : (k : Int) < (b.length : Int) := by omega
      have hrd := (own_rd hown).drew
      have hB' : Below w3.heap.size w3 wr.drew := hB.drew
      go_wp2
      go_still_tail 13, (by kernel_rfl)
      change wpList _ _ _ _ _ wr.drew
      go_wp2_with fail
      refine (l2Put_any A' c' cur x.k x.v wr.drew hrd (by omega)).mono ?_
      rintro e w5 ⟨A5, c5, rfl, o5, b5⟩
      go_wp2
      go_roundw
      case rel => exact ⟨k + 1, A5, c5, by omega, by go_num, by rw [unhide HS], by rw [unhide HS]; exact own_base o5 (show w.heap.size ≤ wr.heap.size by have := hB.size; have := hB3.size; omega), hB'.trans (b5.mono (show w3.heap.size ≤ wr.heap.size from hB.size))⟩
      case measure => simp [intOf]; omega
    · obtain rfl : k = b.length := by omega
      rw [List.take_length] at hown ⊢
      go_wp2
      go_ret
      rw [unhide HL]
      exact ⟨A', c', rfl, hown, bthen hB3 hB⟩
/-- a store after everything that effects write -/
def effGo : List Ent → List Eff → List Ent
  | s, [] => s
  | s, e :: es => if diffB e.writes = true then effGo (applyL s e.writes) es else []
def effStore (s : List Ent) (es : List Eff) : List Ent := if storeB s = true then effGo s es else []
theorem effGo_len (s : List Ent) (hs : storeB s = true) (es : List Eff) : (effGo s es).length ≤ 32 := by
  induction es generalizing s with
  | nil => exact store_len hs
  | cons e es ih =>
    rw [effGo]
    split
    · rename_i h; exact ih _ (applyL_storeB hs h)
    · simp
theorem effStore_len (s : List Ent) (es : List Eff) : (effStore s es).length ≤ 32 := by
  unfold effStore
  split
  · rename_i h; exact effGo_len s h es
  · simp
theorem cloneEntries_any (A : Option Addr) (c : Nat) (es : List Ent) (w : World) (h : Rd w A (es.flatMap encE)) (hb : es.length ≤ 1099511627776) :
    Calls Tryz.prog 94 #[.slice A es.length c] w fun e w' => ∃ A' c', e = .returned (.slice A' es.length c') ∧ w'.ownsRow w.heap.size 85 2 (.slice A' es.length c') es.length (es.flatMap encE) ∧ Below w.heap.size w w' := by
  go_enter Tryz.func94, Tryz.ntmps94
  go_wp2_with (at_builtin; refine wpList_app rfl (.const (.slice none 0 0)) (.tmp 3) 23 rfl el_ent rfl (own_nil w w.heap.size _ _) rfl h (length_flat encE 2 encE_len es) (one_ents es) (by simp only [maxLen]; omega) (by omega) (by simp) ?_; intro A1 c1 w1 o1 ch1 _ _)
  go_ret
  exact ⟨A1, c1, rfl, by simpa using o1, ch1.below (fun q hq e => by cases e) (Nat.le_refl _)⟩
/-- are the reads what the store has? -/
def readsOk (s : List Ent) (rs : List Ent) : Bool := rs.all fun r => inB r.k 0 31 && atL s r.k == r.v
theorem readsOk_snoc (s rs : List Ent) (r : Ent) : readsOk s (rs ++ [r]) = (readsOk s rs && (inB r.k 0 31 && atL s r.k == r.v)) := by simp [readsOk, List.all_append]
def rightGo : List Ent → List Eff → Bool
  | _, [] => true
  | s, e :: es => diffB e.writes && (readsOk s e.reads && rightGo (applyL s e.writes) es)
def rightB (s : List Ent) (es : List Eff) : Bool := storeB s && rightGo s es
end Go.Proofs.YtefdhlfljpppfaaGreat
