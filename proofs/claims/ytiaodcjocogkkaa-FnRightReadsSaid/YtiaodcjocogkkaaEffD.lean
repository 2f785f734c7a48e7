/- Effects and stores: ApplyEffect, EffectsStore of impl and spec. -/
import Derived.Test.YtiaodcjocogkkaaEffS
import Derived.Test.YtiaodcjocogkkaaDiffs
import Derived.StillTailTactics
namespace Go.Proofs.Ytiaodcjocogkkaa
open Go.RowKit
set_option linter.unusedVariables false
set_option linter.unusedSimpArgs false
attribute [local go_sem ↓] Go.wp_at_zero Go.wp_at_succ

theorem evOk_take {l z : Int} {es : List Ent} (h : evOk l z es = true) (n : Nat) : evOk l z (es.take n) = true := by
  induction n generalizing z es with
  | zero => rfl
  | succ n ih =>
    cases es with
    | nil => rfl
    | cons e es =>
      obtain ⟨h1, h2, h3, h4, h5⟩ := evOk_cons h
      exact evOk_mk h1 h2 h3 h4 (ih h5)
theorem putAll_snoc (s es : List Ent) (e : Ent) : putAll s (es ++ [e]) = putL (putAll s es) e.k e.v := by unfold putAll; rw [List.foldl_append]; rfl
/-- a store with the values of a difference -/
def applyL (s d : List Ent) : List Ent := if storeB s = true ∧ diffB d = true then putAll s d else []
theorem applyL_len (s d : List Ent) : (applyL s d).length ≤ 32 := by
  unfold applyL
  split
  · rename_i h
    exact store_len (putAll_ok h.1 (show evOk 0 (-1) d = true from h.2) (by omega) (by omega)).1
  · simp
theorem applyL_storeB {s d : List Ent} (hs : storeB s = true) (hd : diffB d = true) : storeB (applyL s d) = true := by
  unfold applyL
  rw [if_pos ⟨hs, hd⟩]
  exact (putAll_ok hs (show evOk 0 (-1) d = true from hd) (by omega) (by omega)).1
set_option maxRecDepth 100000 in
set_option maxHeartbeats 1000000 in
theorem applyEffect_spec (A : Option Addr) (ca : Nat) (a : List Ent) (x : Eff) (A1 : Option Addr) (c1 : Nat) (B : Option Addr) (cb : Nat) (w : World) (ha : Rd w A (a.flatMap encE)) (hb : Rd w B (x.writes.flatMap encE)) (hla : a.length ≤ 4611686018427387904) (hlb : x.writes.length ≤ 4611686018427387904) :
    Calls Try.prog 52 #[.slice A a.length ca, .agg #[.bool x.done, .slice A1 x.reads.length c1, .slice B x.writes.length cb]] w fun e w' => ∃ A' c', e = .returned (.slice A' (applyL a x.writes).length c') ∧ w'.ownsRow w.heap.size 80 2 (.slice A' (applyL a x.writes).length c') (applyL a x.writes).length ((applyL a x.writes).flatMap encE) ∧ Below w.heap.size w w' := by
  have hb0 : Below w.heap.size w (w.alloc (.cells #[.bool x.done, .slice A1 x.reads.length c1, .slice B x.writes.length cb] 71)) := (Below.refl _ _).alloc (Nat.le_refl _) _
  have k0 := Blk.new w 71 #[.bool x.done, .slice A1 x.reads.length c1, .slice B x.writes.length cb]
  replace ha := ha.new hb0
  replace hb := hb.new hb0
  have HW := hide (show applyL a x.writes = applyL a x.writes from rfl)
  obtain ⟨xd, xr, b⟩ := x
  simp only at *
  cases hsa : storeB a
  · have HL := hide (show applyL a b = [] by simp [applyL, hsa])
    go_enter Try.func52, Try.ntmps52
    go_wp2_with fail
    refine (storeB_store_spec A ca a _ ha (by omega)).mono ?_
    rintro e w' ⟨rfl, m1, rfl⟩
    rw [hsa]
    have hb1 := below_drewN hb0 m1
    generalize (w.alloc (.cells #[.bool xd, .slice A1 xr.length c1, .slice B b.length cb] 71)).drewN m1 = w2 at *
    go_wp2
    go_ret
    rw [unhide HL]
    exact ⟨_, _, rfl, own_made (base := w.heap.size) w2 #[] 0 hb1.size (by simp [maxLen]) rfl, hb1.alloc hb1.size _⟩
  cases hsb : diffB b
  · have HL := hide (show applyL a b = [] by simp [applyL, hsb])
    go_enter Try.func52, Try.ntmps52
    go_wp2_with fail
    refine (storeB_store_spec A ca a _ ha (by omega)).mono ?_
    rintro e w' ⟨rfl, m1, rfl⟩
    rw [hsa]
    have z2 : ((w.alloc (.cells #[.bool xd, .slice A1 xr.length c1, .slice B b.length cb] 71)).drewN m1).cell? ⟨w.heap.size, 2, none⟩ = some (.slice B b.length cb) := (k0.drewN m1).cell 2
    go_wp2_with fail
    refine (diffB_writes_spec B cb b _ (hb.drewN m1) (by omega)).mono ?_
    rintro e w' ⟨rfl, m2, rfl⟩
    rw [hsb, World.drewN_drewN]
    have hb1 := below_drewN hb0 (m1 + m2)
    clear z2
    generalize (w.alloc (.cells #[.bool xd, .slice A1 xr.length c1, .slice B b.length cb] 71)).drewN (m1 + m2) = w2 at *
    go_wp2
    go_ret
    rw [unhide HL]
    exact ⟨_, _, rfl, own_made (base := w.heap.size) w2 #[] 0 hb1.size (by simp [maxLen]) rfl, hb1.alloc hb1.size _⟩
  have HL := hide (show applyL a b = putAll a b by unfold applyL; rw [if_pos ⟨hsa, hsb⟩])
  have HPL := hide (show ∀ k, (putAll a (b.take k)).length ≤ 32 from fun k => store_len (putAll_ok hsa (show evOk 0 (-1) (b.take k) = true from evOk_take hsb k) (by omega) (by omega)).1)
  have hal := store_len hsa
  have hbl := diff_len hsb
  have HSA := hide hsa
  have HSB := hide hsb
  clear hsa hsb
  go_enter Try.func52, Try.ntmps52
  go_wp2_with fail
  refine (storeB_store_spec A ca a _ ha (by omega)).mono ?_
  rintro e w' ⟨rfl, m1, rfl⟩
  rw [unhide HSA]
  have z2 : ((w.alloc (.cells #[.bool xd, .slice A1 xr.length c1, .slice B b.length cb] 71)).drewN m1).cell? ⟨w.heap.size, 2, none⟩ = some (.slice B b.length cb) := (k0.drewN m1).cell 2
  go_wp2_with fail
  refine (diffB_writes_spec B cb b _ (hb.drewN m1) (by omega)).mono ?_
  rintro e w' ⟨rfl, m2, rfl⟩
  rw [unhide HSB]
  rw [World.drewN_drewN]
  clear z2
  have ha2 := ha.drewN (m1 + m2)
  have hb2 := hb.drewN (m1 + m2)
  have k2 := k0.drewN (m1 + m2)
  have hB2 := below_drewN hb0 (m1 + m2)
  generalize (w.alloc (.cells #[.bool xd, .slice A1 xr.length c1, .slice B b.length cb] 71)).drewN (m1 + m2) = w2 at *
  clear ha hb k0 hb0
  have o2 := own_made (base := w2.heap.size) (e := 80) (size := 2) w2 #[] 0 (Nat.le_refl _) (by simp [maxLen]) rfl
  go_wp2_with (at_builtin; refine wpList_app rfl (.tmp 17) (.tmp 18) 27 rfl el_ent rfl o2 rfl (ha2.alloc _) (length_flat encE 2 encE_len a) (one_ents a) (by simp only [maxLen]; omega) (by omega) (by simp) ?_; intro A3 c3 w3 o3 ch3 _ _)
  have hb23 : Below w2.heap.size w2 w3 := ((Below.refl _ _).alloc (Nat.le_refl _) _).trans (ch3.below (fun q hq e => by injection e with e; injection e with e; omega) (by simp))
  rw [show (0 : Nat) + a.length = a.length by omega] at o3
  have hb3 := hb2.new hb23
  have k3 := k2.new_ hb23
  have hB3 : Below w.heap.size w w3 := bthen hB2 hb23
  have o4 : w3.ownsRow w.heap.size 80 2 (.slice A3 a.length c3) a.length (a.flatMap encE) := own_base o3 (by simpa using hB2.size)
  clear o3 ch3 o2 ha2 hb2 k2
  go_loopw [5, 6] (fun v i wr => ∃ (k : Nat) (A' : Option Addr) (c' : Nat), k ≤ b.length ∧ i = .int .i64 k ∧ v = .slice A' (putAll a (b.take k)).length c' ∧ wr.ownsRow w.heap.size 80 2 (.slice A' (putAll a (b.take k)).length c') (putAll a (b.take k)).length ((putAll a (b.take k)).flatMap encE) ∧ Below w3.heap.size w3 wr) (fun _ i _ => b.length - (intOf i).toNat)
  case atStart => exact ⟨0, A3, c3, by omega, rfl, rfl, o4, Below.refl _ _⟩
  case round =>
    obtain ⟨k, A', c', hk, rfl, rfl, hown, hB⟩ := hrel
    have z2 : wr.cell? ⟨w.heap.size, 2, none⟩ = some (.slice B b.length cb) := (k3.new_ hB).cell 2
    by_cases hlt : k < b.length
    · obtain ⟨b', off, rfl, hbb, d1, d2⟩ := (hb3.new hB).ent hlt
      have HS := hide (show putAll a (b.take (k + 1)) = putL (putAll a (b.take k)) b[k].k b[k].v by rw [List.take_succ_eq_append_getElem hlt, putAll_snoc])
      have hln := unhide HPL k
      generalize putAll a (b.take k) = cur at *
      generalize b[k] = x at *
      have i1 : (k : Int) < (b.length : Int) := by omega
      have hrd := (own_rd hown).drew
      have hB' : Below w3.heap.size w3 wr.drew := hB.drew
      go_wp2
      go_still_tail 13, (by kernel_rfl)
      change wpList _ _ _ _ _ wr.drew
      go_wp2_with fail
      refine (l2Put_any A' c' cur x.k x.v wr.drew hrd (by omega)).mono ?_
      rintro e w5 ⟨A5, c5, rfl, o5, b5⟩
      go_wp2
      go_roundw
      case rel => exact ⟨k + 1, A5, c5, by omega, by go_num, by rw [unhide HS], by rw [unhide HS]; exact own_base o5 (show w.heap.size ≤ wr.heap.size by have := hB.size; have := hB3.size; omega), hB'.trans (b5.mono (show w3.heap.size ≤ wr.heap.size from hB.size))⟩
      case measure => simp [intOf]; omega
    · obtain rfl : k = b.length := by omega
      rw [List.take_length] at hown ⊢
      go_wp2
      go_ret
      rw [unhide HL]
      exact ⟨A', c', rfl, hown, bthen hB3 hB⟩
/-- a store after everything that effects write -/
def effGo : List Ent → List Eff → List Ent
  | s, [] => s
  | s, e :: es => if diffB e.writes = true then effGo (applyL s e.writes) es else []
def effStore (s : List Ent) (es : List Eff) : List Ent := if storeB s = true then effGo s es else []
theorem effGo_len (s : List Ent) (hs : storeB s = true) (es : List Eff) : (effGo s es).length ≤ 32 := by
  induction es generalizing s with
  | nil => exact store_len hs
  | cons e es ih =>
    rw [effGo]
    split
    · rename_i h; exact ih _ (applyL_storeB hs h)
    · simp
theorem effStore_len (s : List Ent) (es : List Eff) : (effStore s es).length ≤ 32 := by
  unfold effStore
  split
  · rename_i h; exact effGo_len s h es
  · simp
theorem cloneEntries_any (A : Option Addr) (c : Nat) (es : List Ent) (w : World) (h : Rd w A (es.flatMap encE)) (hb : es.length ≤ 1099511627776) :
    Calls Try.prog 60 #[.slice A es.length c] w fun e w' => ∃ A' c', e = .returned (.slice A' es.length c') ∧ w'.ownsRow w.heap.size 80 2 (.slice A' es.length c') es.length (es.flatMap encE) ∧ Below w.heap.size w w' := by
  go_enter Try.func60, Try.ntmps60
  go_wp2_with (at_builtin; refine wpList_app rfl (.const (.slice none 0 0)) (.tmp 3) 27 rfl el_ent rfl (own_nil w w.heap.size _ _) rfl h (length_flat encE 2 encE_len es) (one_ents es) (by simp only [maxLen]; omega) (by omega) (by simp) ?_; intro A1 c1 w1 o1 ch1 _ _)
  go_ret
  exact ⟨A1, c1, rfl, by simpa using o1, ch1.below (fun q hq e => by cases e) (Nat.le_refl _)⟩
set_option maxHeartbeats 1000000 in
theorem effectsStore_impl (A : Option Addr) (ca : Nat) (s : List Ent) (B : Option Addr) (cb : Nat) (es : List Eff) (P : Nat → Prop) (w : World) (ha : Rd w A (s.flatMap encE)) (hla : s.length ≤ 1099511627776) (hb : RdD effR P w B es) (hlb : es.length ≤ 1099511627776) (hbs : ∀ x ∈ es, x.reads.length ≤ 1048576 ∧ x.writes.length ≤ 1048576) :
    Calls Try.prog 19 #[.slice A s.length ca, .slice B es.length cb] w fun e w' => ∃ A' c', e = .returned (.slice A' (effStore s es).length c') ∧ w'.ownsRow w.heap.size 80 2 (.slice A' (effStore s es).length c') (effStore s es).length ((effStore s es).flatMap encE) ∧ Below w.heap.size w w' := by
  have HBS := hide hbs
  clear hbs
  cases hsa : storeB s
  · have HL := hide (show effStore s es = [] by simp [effStore, hsa])
    go_enter Try.func19, Try.ntmps19
    go_wp2_with fail
    refine (storeB_impl A ca s w ha (by omega)).mono ?_
    rintro e w1 ⟨rfl, b1⟩
    rw [hsa]
    go_wp2
    go_ret
    rw [unhide HL]
    exact ⟨none, 0, rfl, own_nil _ _ _ _, b1⟩
  have HL := hide (show effStore s es = effGo s es by simp [effStore, hsa])
  have HS := hide hsa
  go_enter Try.func19, Try.ntmps19
  go_wp2_with fail
  refine (storeB_impl A ca s w ha (by omega)).mono ?_
  rintro e w1 ⟨rfl, b1⟩
  rw [hsa]
  clear hsa
  go_wp2_with fail
  refine (cloneEntries_any A ca s w1 (ha.new b1) hla).mono ?_
  rintro e w2 ⟨A2, c2, rfl, o2, b2⟩
  have hB2 := bthen b1 b2
  replace o2 := own_base o2 b1.size
  replace hb := hb.new eff_good hB2
  clear ha b1 b2
  go_wp2
  go_loopw [5, 7, 15] (fun v _ i wr => ∃ (k : Nat) (A' : Option Addr) (c' : Nat) (cur : List Ent), k ≤ es.length ∧ i = .int .i64 k ∧ v = .slice A' cur.length c' ∧ Hid (storeB cur = true ∧ effGo s es = effGo cur (es.drop k)) ∧ wr.ownsRow w.heap.size 80 2 (.slice A' cur.length c') cur.length (cur.flatMap encE) ∧ Below w2.heap.size w2 wr) (fun _ _ i _ => es.length - (intOf i).toNat)
  case atStart => exact ⟨0, A2, c2, s, by omega, rfl, rfl, hide ⟨unhide HS, rfl⟩, o2, Below.refl _ _⟩
  case round =>
    clear o2
    obtain ⟨k, A', c', cur, hk, rfl, rfl, HC, hown, hB⟩ := hrel
    have hcl := store_len (unhide HC).1
    by_cases hlt : k < es.length
    · obtain ⟨b, off, A1, c1, A3, c3, rfl, hbP, hbb, d0, d1, d2, -, -, r1, r3⟩ := (hb.new eff_good hB).eff hlt
      obtain ⟨-, hx2⟩ := unhide HBS es[k] (List.getElem_mem hlt)
      have HG := hide (show effGo cur (es.drop k) = if diffB es[k].writes = true then effGo (applyL cur es[k].writes) (es.drop (k + 1)) else [] by rw [drop_get es k hlt, effGo])
      generalize es[k] = x at *
      have i1 : (k : Int) < (es.length : Int) := by omega
      have rw3 := r3.rd
      have hbx : Below wr.heap.size wr (wr.alloc (.cells #[.bool x.done, .slice A1 x.reads.length c1, .slice A3 x.writes.length c3] 71)) := (Below.refl _ _).alloc (Nat.le_refl _) _
      have kx := Blk.new wr 71 #[.bool x.done, .slice A1 x.reads.length c1, .slice A3 x.writes.length c3]
      clear r1 r3
      cases hd : diffB x.writes
      · have HN := hide (show effStore s es = [] by rw [unhide HL, (unhide HC).2, unhide HG, hd]; simp)
        go_wp2_with fail
        refine (entriesValid_any A3 c3 x.writes 0 _ (rw3.new hbx) (by omega)).mono ?_
        rintro e w3 ⟨rfl, b3⟩
        rw [show evOk 0 (-1) x.writes = false from hd]
        go_wp2
        go_ret
        rw [unhide HN]
        exact ⟨none, 0, rfl, own_nil _ _ _ _, bthen (bthen hB2 hB) (bthen hbx b3)⟩
      · have HN := hide (show storeB (applyL cur x.writes) = true ∧ effGo s es = effGo (applyL cur x.writes) (es.drop (k + 1)) from ⟨applyL_storeB (unhide HC).1 hd, by rw [(unhide HC).2, unhide HG, if_pos hd]⟩)
        have HKA := hide (store_keys (unhide HC).1)
        have HKB := hide (diff_keys hd)
        have HWR := hide (show writeL cur x.writes = applyL cur x.writes by unfold applyL writeL; rw [if_pos ⟨(unhide HC).1, hd⟩, write_eq (unhide HC).1 hd])
        go_wp2_with fail
        refine (entriesValid_any A3 c3 x.writes 0 _ (rw3.new hbx) (by omega)).mono ?_
        rintro e w3 ⟨rfl, b3⟩
        rw [show evOk 0 (-1) x.writes = true from hd]
        have b13 := bthen hbx b3
        have z2 : w3.cell? ⟨wr.heap.size, 2, none⟩ = some (.slice A3 x.writes.length c3) := (kx.new_ b3).cell 2
        have o3 := own_new hown b13
        clear hd
        go_wp2_with fail
        refine (write_any A' A3 c' c3 cur x.writes w3 (own_rd o3) (rw3.new b13) (by omega) (by omega) (unhide HKA) (unhide HKB)).mono ?_
        rintro e w4 ⟨A4, c4, rfl, o4, b4⟩
        rw [unhide HWR] at o4 ⊢
        have hB4 := bthen hB (bthen b13 b4)
        have hs : w.heap.size ≤ w3.heap.size := by have := hB2.size; have := hB.size; have := b13.size; omega
        go_wp2
        go_roundw
        case rel => exact ⟨k + 1, A4, c4, _, by omega, by go_num, rfl, HN, own_base o4 hs, hB4⟩
        case measure => simp [intOf]; omega
    · obtain rfl : k = es.length := by omega
      have HN := hide (show effStore s es = cur by rw [unhide HL, (unhide HC).2, List.drop_length]; rfl)
      go_wp2
      go_ret
      rw [unhide HN]
      exact ⟨A', c', rfl, hown, bthen hB2 hB⟩
set_option maxHeartbeats 1000000 in
theorem effectsStore_spec (A : Option Addr) (ca : Nat) (s : List Ent) (B : Option Addr) (cb : Nat) (es : List Eff) (P : Nat → Prop) (w : World) (ha : Rd w A (s.flatMap encE)) (hla : s.length ≤ 1099511627776) (hb : RdD effR P w B es) (hlb : es.length ≤ 1099511627776) (hbs : ∀ x ∈ es, x.reads.length ≤ 1048576 ∧ x.writes.length ≤ 1048576) :
    Calls Try.prog 18 #[.slice A s.length ca, .slice B es.length cb] w fun e w' => ∃ A' c', e = .returned (.slice A' (effStore s es).length c') ∧ w'.ownsRow w.heap.size 80 2 (.slice A' (effStore s es).length c') (effStore s es).length ((effStore s es).flatMap encE) ∧ Below w.heap.size w w' := by
  have HBS := hide hbs
  clear hbs
  cases hsa : storeB s
  · have HL := hide (show effStore s es = [] by simp [effStore, hsa])
    go_enter Try.func18, Try.ntmps18
    go_wp2_with fail
    refine (storeB_store_spec A ca s w ha (by omega)).mono ?_
    rintro e w' ⟨rfl, m1, rfl⟩
    rw [hsa]
    go_wp2
    go_ret
    rw [unhide HL]
    exact ⟨_, _, rfl, own_made (w.drewN m1) #[] 0 (Nat.le_refl _) (by simp [maxLen]) rfl, (below_drewN (Below.refl _ _) m1).alloc (Nat.le_refl _) _⟩
  have HL := hide (show effStore s es = effGo s es by simp [effStore, hsa])
  have HS := hide hsa
  go_enter Try.func18, Try.ntmps18
  go_wp2_with fail
  refine (storeB_store_spec A ca s w ha (by omega)).mono ?_
  rintro e w' ⟨rfl, m1, rfl⟩
  rw [hsa]
  clear hsa
  have ha1 := ha.drewN m1
  have hb1 := hb.drewN eff_good m1
  have hB1 : Below w.heap.size w (w.drewN m1) := below_drewN (Below.refl _ _) m1
  have HSZ := hide (show (w.drewN m1).heap.size = w.heap.size from rfl)
  generalize w.drewN m1 = w1 at *
  clear ha hb
  have o1 := own_made (base := w1.heap.size) (e := 80) (size := 2) w1 #[] 0 (Nat.le_refl _) (by simp [maxLen]) rfl
  go_wp2_with (at_builtin; refine wpList_app rfl (.tmp 11) (.tmp 12) 27 rfl el_ent rfl o1 rfl (ha1.alloc _) (length_flat encE 2 encE_len s) (one_ents s) (by simp only [maxLen]; omega) (by omega) (by simp) ?_; intro A2 c2 w2 o2 ch2 _ _)
  have b12 : Below w1.heap.size w1 w2 := ((Below.refl _ _).alloc (Nat.le_refl _) _).trans (ch2.below (fun q hq e => by injection e with e; injection e with e; omega) (by simp))
  rw [show (0 : Nat) + s.length = s.length by omega] at o2
  have o3 : w2.ownsRow w.heap.size 80 2 (.slice A2 s.length c2) s.length (s.flatMap encE) := by rw [← unhide HSZ]; simpa using o2
  have hb2 := hb1.new eff_good b12
  have hB2 := bthen hB1 b12
  clear o2 ch2 o1 ha1 hb1 b12
  go_loopw [5, 6] (fun v i wr => ∃ (k : Nat) (A' : Option Addr) (c' : Nat) (cur : List Ent), k ≤ es.length ∧ i = .int .i64 k ∧ v = .slice A' cur.length c' ∧ Hid (storeB cur = true ∧ effGo s es = effGo cur (es.drop k)) ∧ wr.ownsRow w.heap.size 80 2 (.slice A' cur.length c') cur.length (cur.flatMap encE) ∧ Below w2.heap.size w2 wr) (fun _ i _ => es.length - (intOf i).toNat)
  case atStart => exact ⟨0, A2, c2, s, by omega, rfl, by simp, hide ⟨unhide HS, rfl⟩, o3, Below.refl _ _⟩
  case round =>
    clear o3
    obtain ⟨k, A', c', cur, hk, rfl, rfl, HC, hown, hB⟩ := hrel
    have hcl := store_len (unhide HC).1
    by_cases hlt : k < es.length
    · obtain ⟨b, off, A1, c1, A3, c3, rfl, hbP, hbb, d0, d1, d2, -, -, r1, r3⟩ := (hb2.new eff_good hB).eff hlt
      obtain ⟨-, hx2⟩ := unhide HBS es[k] (List.getElem_mem hlt)
      have HG := hide (show effGo cur (es.drop k) = if diffB es[k].writes = true then effGo (applyL cur es[k].writes) (es.drop (k + 1)) else [] by rw [drop_get es k hlt, effGo])
      generalize es[k] = x at *
      have i1 : (k : Int) < (es.length : Int) := by omega
      have rw3 := r3.rd
      clear r1 r3
      cases hd : diffB x.writes
      · have HN := hide (show effStore s es = [] by rw [unhide HL, (unhide HC).2, unhide HG, hd]; simp)
        go_wp2_with fail
        refine (diffB_writes_spec A3 c3 x.writes _ rw3 (by omega)).mono ?_
        rintro e w' ⟨rfl, m3, rfl⟩
        rw [hd]
        go_wp2
        go_ret
        rw [unhide HN]
        have hB3 := below_drewN (bthen hB2 hB) m3
        exact ⟨_, _, rfl, own_made (base := w.heap.size) (wr.drewN m3) #[] 0 hB3.size (by simp [maxLen]) rfl, hB3.alloc hB3.size _⟩
      · have HN := hide (show storeB (applyL cur x.writes) = true ∧ effGo s es = effGo (applyL cur x.writes) (es.drop (k + 1)) from ⟨applyL_storeB (unhide HC).1 hd, by rw [(unhide HC).2, unhide HG, if_pos hd]⟩)
        go_wp2_with fail
        refine (diffB_writes_spec A3 c3 x.writes _ rw3 (by omega)).mono ?_
        rintro e w' ⟨rfl, m3, rfl⟩
        rw [hd]
        clear hd
        have hB3 := below_drewN hB m3
        have o3 := own_drewN hown m3
        have r3 := rw3.drewN m3
        have d0' : (wr.drewN m3).cell? ⟨b, off + k * 3, none⟩ = some (.bool x.done) := d0
        have d1' : (wr.drewN m3).cell? ⟨b, off + k * 3 + 1, none⟩ = some (.slice A1 x.reads.length c1) := d1
        have d2' : (wr.drewN m3).cell? ⟨b, off + k * 3 + 2, none⟩ = some (.slice A3 x.writes.length c3) := d2
        clear d0 d1 d2
        generalize wr.drewN m3 = w3 at *
        go_wp2_with fail
        refine (applyEffect_spec A' c' cur x A1 c1 A3 c3 w3 (own_rd o3) r3 (by omega) (by omega)).mono ?_
        rintro e w4 ⟨A4, c4, rfl, o4, b4⟩
        have hB4 := bthen hB3 b4
        have hs : w.heap.size ≤ w3.heap.size := by have := hB2.size; have := hB3.size; omega
        go_wp2
        go_roundw
        case rel => exact ⟨k + 1, A4, c4, _, by omega, by go_num, rfl, HN, own_base o4 hs, hB4⟩
        case measure => simp [intOf]; omega
    · obtain rfl : k = es.length := by omega
      have HN := hide (show effStore s es = cur by rw [unhide HL, (unhide HC).2, List.drop_length]; rfl)
      go_wp2
      go_ret
      rw [unhide HN]
      exact ⟨A', c', rfl, hown, bthen hB2 hB⟩
/-- are the reads what the store has? -/
def readsOk (s : List Ent) (rs : List Ent) : Bool := rs.all fun r => inB r.k 0 31 && atL s r.k == r.v
theorem readsOk_snoc (s rs : List Ent) (r : Ent) : readsOk s (rs ++ [r]) = (readsOk s rs && (inB r.k 0 31 && atL s r.k == r.v)) := by simp [readsOk, List.all_append]
def rightGo : List Ent → List Eff → Bool
  | _, [] => true
  | s, e :: es => diffB e.writes && (readsOk s e.reads && rightGo (applyL s e.writes) es)
def rightB (s : List Ent) (es : List Eff) : Bool := storeB s && rightGo s es
set_option maxRecDepth 100000 in
set_option maxHeartbeats 2000000 in
theorem rightReads_impl (A : Option Addr) (ca : Nat) (s : List Ent) (B : Option Addr) (cb : Nat) (es : List Eff) (P : Nat → Prop) (w : World) (ha : Rd w A (s.flatMap encE)) (hla : s.length ≤ 1099511627776) (hb : RdD effR P w B es) (hlb : es.length ≤ 1099511627776) (hbs : ∀ x ∈ es, x.reads.length ≤ 1048576 ∧ x.writes.length ≤ 1048576) :
    Calls Try.prog 15 #[.slice A s.length ca, .slice B es.length cb] w fun e w' => e = .returned (.bool (rightB s es)) ∧ Below w.heap.size w w' := by
  have HBS := hide hbs
  clear hbs
  cases hsa : storeB s
  · have HL := hide (show rightB s es = false by simp [rightB, hsa])
    go_enter Try.func15, Try.ntmps15
    go_wp2_with fail
    refine (storeB_impl A ca s w ha (by omega)).mono ?_
    rintro e w1 ⟨rfl, b1⟩
    rw [hsa]
    go_wp2
    go_ret
    exact ⟨retb (unhide HL).symm, b1⟩
  have HL := hide (show rightB s es = rightGo s es by simp [rightB, hsa])
  have HS := hide hsa
  have HKS := hide (store_keys hsa)
  have HV0 := hide (valsL_len s)
  go_enter Try.func15, Try.ntmps15
  go_wp2_with fail
  refine (storeB_impl A ca s w ha (by omega)).mono ?_
  rintro e w1 ⟨rfl, b1⟩
  rw [hsa]
  clear hsa
  go_wp2_with fail
  refine (valuesOf_any A ca s w1 (ha.new b1) (by omega) (unhide HKS)).mono ?_
  rintro e w2 ⟨rfl, b2⟩
  have hB2 := bthen b1 b2
  clear ha b1 b2
  generalize hv0 : valsL s = v0 at *
  have HVV := hide hv0
  clear hv0
  have hsV : (vA v0).size = 32 := by rw [vA_size, unhide HV0]
  obtain ⟨k0, kV, bF⟩ := one_vals w2 87 v0
  go_wp2_with (first | (refine wpList_store_row rfl 87 (.tmp 6) (.tmp 17) rfl w2.heap.size (vA v0) rfl rfl 87 _ k0 (by rw [hsV]; exact info_vals) (by rw [hsV]; rfl) (vA_one _) ?_) | fail)
  replace bF := bthen hB2 bF
  refine at_world (C := fun w => Code.wp _ _ _ _ w) (F := fun x => Blk x w2.heap.size 87 (vA v0) ∧ Below w.heap.size w x) ⟨kV, bF⟩ ?_
  clear kV bF k0
  rintro wF ⟨kV, bF⟩
  have hs2 := hB2.size
  go_loopw [5, 20] (fun rt i wr => ∃ (k : Nat) (r : Bool) (cur : List Ent), k ≤ es.length ∧ i = .int .i64 k ∧ rt = .bool r ∧ Hid (storeB cur = true ∧ rightGo s es = (r && rightGo cur (es.drop k))) ∧ Blk wr w2.heap.size 87 (vA (valsL cur)) ∧ Chg (fun q => q = w2.heap.size) wF wr) (fun _ i _ => es.length - (intOf i).toNat)
  case atStart => exact ⟨0, true, s, by omega, rfl, rfl, hide ⟨unhide HS, by simp⟩, by rw [unhide HVV]; exact kV, Chg.refl _ _⟩
  case round =>
    obtain ⟨k, r, cur, hk, rfl, rfl, HC, kv, hch⟩ := hrel
    have hB : Below w.heap.size w wr := bF.trans (hch.below (fun q hq e => by omega) bF.size)
    by_cases hlt : k < es.length
    · obtain ⟨b, off, A1, c1, A3, c3, rfl, hbP, hbb, d0, d1, d2, -, -, r1, r3⟩ := hb.eff hlt
      replace d0 := (hB.cell (p := ⟨b, off + k * 3, none⟩) hbb).trans d0
      replace d1 := (hB.cell (p := ⟨b, off + k * 3 + 1, none⟩) hbb).trans d1
      replace d2 := (hB.cell (p := ⟨b, off + k * 3 + 2, none⟩) hbb).trans d2
      obtain ⟨hx1, hx2⟩ := unhide HBS es[k] (List.getElem_mem hlt)
      have HG := hide (show rightGo cur (es.drop k) = (diffB es[k].writes && (readsOk cur es[k].reads && rightGo (applyL cur es[k].writes) (es.drop (k + 1)))) by rw [drop_get es k hlt, rightGo])
      generalize es[k] = x at *
      have i1 : (k : Int) < (es.length : Int) := by omega
      have q5 := r3.rd
      have q1 := r1.rd.new hB
      have q3 := q5.new hB
      have hbx : Below wr.heap.size wr (wr.alloc (.cells #[.bool x.done, .slice A1 x.reads.length c1, .slice A3 x.writes.length c3] 71)) := (Below.refl _ _).alloc (Nat.le_refl _) _
      have kx := Blk.new wr 71 #[.bool x.done, .slice A1 x.reads.length c1, .slice A3 x.writes.length c3]
      have hgx := kv.lt
      clear r1 r3
      cases hd : diffB x.writes
      · have HN := hide (show rightB s es = false by rw [unhide HL, (unhide HC).2, unhide HG, hd]; simp)
        go_wp2_with fail
        refine (entriesValid_any A3 c3 x.writes 0 _ (q3.new hbx) (by omega)).mono ?_
        rintro e w3 ⟨rfl, b3⟩
        rw [show evOk 0 (-1) x.writes = false from hd]
        go_wp2
        go_ret
        exact ⟨retb (unhide HN).symm, bthen hB (bthen hbx b3)⟩
      go_wp2_with fail
      refine (entriesValid_any A3 c3 x.writes 0 _ (q3.new hbx) (by omega)).mono ?_
      rintro e w3 ⟨rfl, b3⟩
      rw [show evOk 0 (-1) x.writes = true from hd]
      have HD := hide hd
      have HKW := hide (diff_keys hd)
      clear hd
      have b13 := bthen hbx b3
      have hch3 : Chg (fun q => q = w2.heap.size) wF w3 := hch.trans (Chg.of_new b13)
      replace kv := kv.new_ b13
      replace kx := kx.new_ b3
      replace q1 := q1.new b13
      replace q3 := q3.new b13
      have hB3 := bthen hB b13
      have hs3 : wr.heap.size < w3.heap.size := by have := b3.size; simp at this; omega
      have z1 : w3.cell? ⟨wr.heap.size, 1, none⟩ = some (.slice A1 x.reads.length c1) := kx.cell 1
      clear b13 b3 hbx d0 d1 d2 hch hB hbP
      generalize wr.heap.size = gx at *
      go_wp2
      go_loopw [5, 31] (fun rt i wq => ∃ (j : Nat) (r2 : Bool), j ≤ x.reads.length ∧ i = .int .i64 j ∧ rt = .bool r2 ∧ Hid (r2 = (r && readsOk cur (x.reads.take j))) ∧ Below w3.heap.size w3 wq) (fun _ i _ => x.reads.length - (intOf i).toNat)
      case atStart => exact ⟨0, r, Nat.zero_le _, rfl, rfl, hide (by simp [readsOk]), Below.refl _ _⟩
      case round =>
        obtain ⟨j, r2, hj, rfl, rfl, HR, hBq⟩ := hrel
        have hkv := kv.new_ hBq
        have hkx := kx.new_ hBq
        have hsq := hBq.size
        by_cases hlt2 : j < x.reads.length
        · obtain ⟨b', off', rfl, hbb', c0, c1'⟩ := (q1.new hBq).ent hlt2
          have HT := hide (show readsOk cur (x.reads.take (j + 1)) = (readsOk cur (x.reads.take j) && (inB x.reads[j].k 0 31 && atL cur x.reads[j].k == x.reads[j].v)) by rw [List.take_succ_eq_append_getElem hlt2, readsOk_snoc])
          generalize x.reads[j] = y at *
          have i2 : (j : Int) < (x.reads.length : Int) := by omega
          cases r2
          · have HR2 := hide (show false = (r && readsOk cur (x.reads.take (j + 1))) by rw [unhide HT, ← Bool.and_assoc, ← unhide HR]; rfl)
            go_wp2
            go_quiet ((go_at_call 57; first | exact quiet_left (isKey_any _ _) | exact quiet_add_left (isKey_any _ _)))
            go_wp2
            go_roundw
            case rel => exact ⟨j + 1, false, by omega, by go_num, rfl, HR2, below_drewN (hBq.alloc hBq.size _) _⟩
            case measure => simp [intOf]; omega
          · cases hky : inB y.k 0 31
            · have HR2 := hide (show false = (r && readsOk cur (x.reads.take (j + 1))) by rw [unhide HT, hky]; simp)
              go_wp2
              go_quiet ((go_at_call 57; first | exact quiet_left (isKey_any _ _) | exact quiet_add_left (isKey_any _ _)))
              go_wp2
              go_roundw
              case rel => exact ⟨j + 1, false, by omega, by go_num, rfl, HR2, below_drewN (hBq.alloc hBq.size _) _⟩
              case measure => simp [intOf]; omega
            · have hy := inB_true.1 hky
              have HKY := hide hky
              obtain ⟨yk, yv⟩ := y
              simp only at *
              obtain ⟨q, rfl⟩ := Int.eq_ofNat_of_zero_le hy.1
              have hq : q < 32 := by omega
              have i3 : (q : Int) < 32 := by omega
              have hvl := valsL_len cur
              have cv := vA_get hkv (show q < (valsL cur).length by omega)
              have hgl := hkv.lt
              rw [store_get (unhide HC).1 q hq] at cv
              have HR2 := hide (show (atL cur (q : Int) == yv) = (r && readsOk cur (x.reads.take (j + 1))) by rw [unhide HT, hky, ← Bool.and_assoc, ← unhide HR]; simp)
              clear hy
              generalize atL cur (q : Int) = u at *
              cases huv : (u == yv)
              · rw [huv] at HR2
                go_wp2
                go_quiet ((go_at_call 57; first | exact quiet_left (isKey_any _ _) | exact quiet_add_left (isKey_any _ _)))
                go_wp2
                go_roundw
                case rel => exact ⟨j + 1, false, by omega, by go_num, rfl, HR2, below_drewN (hBq.alloc hBq.size _) _⟩
                case measure => simp [intOf]; omega
              · rw [huv] at HR2
                go_wp2
                go_quiet ((go_at_call 57; first | exact quiet_left (isKey_any _ _) | exact quiet_add_left (isKey_any _ _)))
                go_wp2
                go_roundw
                case rel => exact ⟨j + 1, true, by omega, by go_num, rfl, HR2, below_drewN (hBq.alloc hBq.size _) _⟩
                case measure => simp [intOf]; omega
        · obtain rfl : j = x.reads.length := by omega
          rw [List.take_length] at HR
          have z2 : wr.cell? ⟨gx, 2, none⟩ = some (.slice A3 x.writes.length c3) := hkx.cell 2
          have q4 := q3.new hBq
          have hch4 : Chg (fun q => q = w2.heap.size) wF wr := hch3.trans (Chg.of_new hBq)
          have hB4 := bthen hB3 hBq
          obtain ⟨w4, hw4⟩ : ∃ w4 : World, w4 = wr := ⟨_, rfl⟩
          subst hw4
          go_wp2
          go_loopw [54] (fun i wq => ∃ (j : Nat), j ≤ x.writes.length ∧ i = .int .i64 j ∧ Blk wq w2.heap.size 87 (vA (setAll (valsL cur) (x.writes.take j))) ∧ Chg (fun q => q = w2.heap.size) w4 wq) (fun i _ => x.writes.length - (intOf i).toNat)
          case atStart => exact ⟨0, Nat.zero_le _, rfl, hkv, Chg.refl _ _⟩
          case round =>
            obtain ⟨j, hj, rfl, kq, hcq⟩ := hrel
            by_cases hlt3 : j < x.writes.length
            · have hBw := hcq.size
              have hBB : Below w.heap.size w wr := hB4.trans (hcq.below (fun q hq e => by omega) hB4.size)
              obtain ⟨b2, off2, rfl, hbb2, c0, c1'⟩ := (q5.new hBB).ent hlt3
              have hkb := unhide HKW x.writes[j] (List.getElem_mem hlt3)
              have HSS := hide (show setAll (valsL cur) (x.writes.take (j + 1)) = (setAll (valsL cur) (x.writes.take j)).set x.writes[j].k.toNat x.writes[j].v by rw [List.take_succ_eq_append_getElem hlt3, setAll_snoc]; rfl)
              have hlen : (setAll (valsL cur) (x.writes.take j)).length = 32 := (setAll_len _ _).trans (valsL_len cur)
              generalize setAll (valsL cur) (x.writes.take j) = v at *
              generalize x.writes[j] = y at *
              obtain ⟨key, val⟩ := y
              simp only at c0 c1' hkb HSS
              obtain ⟨q, rfl⟩ := Int.eq_ofNat_of_zero_le hkb.1
              have i3 : (j : Int) < (x.writes.length : Int) := by omega
              have i4 : (q : Int) < 32 := by omega
              have i5 : q < 32 := by omega
              have cv := vA_get kq (show q < v.length by omega)
              have zv := kq.frozen q
              have hvl := kq.lt
              have hne : w2.heap.size ≠ wr.heap.size := by omega
              go_wp2
              go_roundw
              case rel => exact ⟨j + 1, by omega, by go_num, by rw [unhide HSS]; exact (vA_set kq q val).alloc _, (hcq.setCell (p := ⟨w2.heap.size, q, none⟩) (.inl rfl) _).alloc _⟩
              case measure => simp [intOf]; omega
            · obtain rfl : j = x.writes.length := by omega
              rw [List.take_length] at kq
              have HN := hide (show storeB (applyL cur x.writes) = true ∧ rightGo s es = (r2 && rightGo (applyL cur x.writes) (es.drop (k + 1))) from ⟨applyL_storeB (unhide HC).1 (unhide HD), by rw [(unhide HC).2, unhide HG, unhide HD, unhide HR, Bool.true_and, Bool.and_assoc]⟩)
              have HVN := hide (show valsL (applyL cur x.writes) = setAll (valsL cur) x.writes by
                unfold applyL
                rw [if_pos ⟨(unhide HC).1, unhide HD⟩]
                exact (putAll_ok (unhide HC).1 (show evOk 0 (-1) x.writes = true from unhide HD) (by omega) (by omega)).2)
              go_wp2
              go_roundw
              case rel => exact ⟨k + 1, r2, _, by omega, by go_num, rfl, HN, by rw [unhide HVN]; exact kq, hch4.trans hcq⟩
              case measure => simp [intOf]; omega
    · obtain rfl : k = es.length := by omega
      have HN := hide (show rightB s es = r by rw [unhide HL, (unhide HC).2, List.drop_length]; simp [rightGo])
      go_wp2
      go_ret
      exact ⟨retb (unhide HN).symm, hB⟩
theorem readsOk_no {s rs : List Ent} {j : Nat} (hj : j < rs.length) (h : (inB rs[j].k 0 31 && atL s rs[j].k == rs[j].v) = false) : readsOk s rs = false := by
  unfold readsOk
  rw [List.all_eq_false]
  exact ⟨rs[j], List.getElem_mem hj, by rw [h]; simp⟩
theorem readsOk_all {s rs : List Ent} (h : ∀ j (hj : j < rs.length), (inB rs[j].k 0 31 && atL s rs[j].k == rs[j].v) = true) : readsOk s rs = true := by
  unfold readsOk
  rw [List.all_eq_true]
  intro x hx
  obtain ⟨j, hj, rfl⟩ := List.getElem_of_mem hx
  exact h j hj
set_option maxRecDepth 100000 in
set_option maxHeartbeats 2000000 in
theorem rightReads_spec (A : Option Addr) (ca : Nat) (s : List Ent) (B : Option Addr) (cb : Nat) (es : List Eff) (P : Nat → Prop) (w : World) (ha : Rd w A (s.flatMap encE)) (hla : s.length ≤ 1099511627776) (hb : RdD effR P w B es) (hlb : es.length ≤ 1099511627776) (hbs : ∀ x ∈ es, x.reads.length ≤ 1048576 ∧ x.writes.length ≤ 1048576) :
    Calls Try.prog 12 #[.slice A s.length ca, .slice B es.length cb] w fun e w' => e = .returned (.bool (rightB s es)) ∧ Below w.heap.size w w' := by
  have HBS := hide hbs
  clear hbs
  cases hsa : storeB s
  · have HL := hide (show rightB s es = false by simp [rightB, hsa])
    go_enter Try.func12, Try.ntmps12
    go_wp2_with fail
    refine (storeB_store_spec A ca s w ha (by omega)).mono ?_
    rintro e w' ⟨rfl, m1, rfl⟩
    rw [hsa]
    go_wp2
    go_ret
    exact ⟨retb (unhide HL).symm, below_drewN (Below.refl _ _) m1⟩
  have HL := hide (show rightB s es = rightGo s es by simp [rightB, hsa])
  have HS := hide hsa
  go_enter Try.func12, Try.ntmps12
  go_wp2_with fail
  refine (storeB_store_spec A ca s w ha (by omega)).mono ?_
  rintro e w' ⟨rfl, m1, rfl⟩
  rw [hsa]
  clear hsa
  have ha1 := ha.drewN m1
  have hb1 := hb.drewN eff_good m1
  have hB1 : Below w.heap.size w (w.drewN m1) := below_drewN (Below.refl _ _) m1
  generalize w.drewN m1 = w1 at *
  clear ha hb
  have o1 := own_made (base := w1.heap.size) (e := 80) (size := 2) w1 #[] 0 (Nat.le_refl _) (by simp [maxLen]) rfl
  go_wp2_with (at_builtin; refine wpList_app rfl (.tmp 12) (.tmp 13) 27 rfl el_ent rfl o1 rfl (ha1.alloc _) (length_flat encE 2 encE_len s) (one_ents s) (by simp only [maxLen]; omega) (by omega) (by simp) ?_; intro A2 c2 w2 o2 ch2 _ _)
  have b12 : Below w1.heap.size w1 w2 := ((Below.refl _ _).alloc (Nat.le_refl _) _).trans (ch2.below (fun q hq e => by injection e with e; injection e with e; omega) (by simp))
  rw [show (0 : Nat) + s.length = s.length by omega] at o2
  have o3 : Rd w2 A2 (s.flatMap encE) := by have := own_rd o2; simpa using this
  have hb2 := hb1.new eff_good b12
  have hB2 := bthen hB1 b12
  clear o2 ch2 o1 ha1 hb1 b12
  go_loopw [5, 6, 7, 8] (fun v i _ _ wr => ∃ (k : Nat) (A' : Option Addr) (c' : Nat) (cur : List Ent), k ≤ es.length ∧ i = .int .i64 k ∧ v = .slice A' cur.length c' ∧ Hid (storeB cur = true ∧ rightGo s es = rightGo cur (es.drop k)) ∧ Rd wr A' (cur.flatMap encE) ∧ Below w2.heap.size w2 wr) (fun _ i _ _ _ => es.length - (intOf i).toNat)
  case atStart => exact ⟨0, A2, c2, s, by omega, rfl, by simp, hide ⟨unhide HS, rfl⟩, o3, Below.refl _ _⟩
  case round =>
    clear o3
    obtain ⟨k, A', c', cur, hk, rfl, rfl, HC, hcr, hB⟩ := hrel
    have hcl := store_len (unhide HC).1
    by_cases hlt : k < es.length
    · obtain ⟨b, off, A1, c1, A3, c3, rfl, hbP, hbb, d0, d1, d2, -, -, r1, r3⟩ := (hb2.new eff_good hB).eff hlt
      obtain ⟨hx1, hx2⟩ := unhide HBS es[k] (List.getElem_mem hlt)
      have HG := hide (show rightGo cur (es.drop k) = (diffB es[k].writes && (readsOk cur es[k].reads && rightGo (applyL cur es[k].writes) (es.drop (k + 1)))) by rw [drop_get es k hlt, rightGo])
      generalize es[k] = x at *
      have i1 : (k : Int) < (es.length : Int) := by omega
      have q1 := r1.rd
      have q3 := r3.rd
      clear r1 r3
      cases hd : diffB x.writes
      · have HN := hide (show rightB s es = false by rw [unhide HL, (unhide HC).2, unhide HG, hd]; simp)
        go_wp2_with fail
        refine (diffB_writes_spec A3 c3 x.writes _ q3 (by omega)).mono ?_
        rintro e w' ⟨rfl, m3, rfl⟩
        rw [hd]
        go_wp2
        go_ret
        exact ⟨retb (unhide HN).symm, below_drewN (bthen hB2 hB) m3⟩
      go_wp2_with fail
      refine (diffB_writes_spec A3 c3 x.writes _ q3 (by omega)).mono ?_
      rintro e w' ⟨rfl, m3, rfl⟩
      rw [hd]
      have HD := hide hd
      clear hd
      replace hB := below_drewN hB m3
      replace hcr := hcr.drewN m3
      replace q1 := q1.drewN m3
      replace q3 := q3.drewN m3
      have d0' : (wr.drewN m3).cell? ⟨b, off + k * 3, none⟩ = some (.bool x.done) := d0
      have d1' : (wr.drewN m3).cell? ⟨b, off + k * 3 + 1, none⟩ = some (.slice A1 x.reads.length c1) := d1
      have d2' : (wr.drewN m3).cell? ⟨b, off + k * 3 + 2, none⟩ = some (.slice A3 x.writes.length c3) := d2
      have hbb3 : b < (wr.drewN m3).heap.size := hbb
      clear d0 d1 d2 hbb
      generalize wr.drewN m3 = w3 at *
      go_wp2
      go_loopw [7, 8] (fun i _ wq => ∃ (j : Nat), j ≤ x.reads.length ∧ i = .int .i64 j ∧ Hid (∀ q (hq : q < x.reads.length), q < j → (inB x.reads[q].k 0 31 && atL cur x.reads[q].k == x.reads[q].v) = true) ∧ Below w3.heap.size w3 wq) (fun i _ _ => x.reads.length - (intOf i).toNat)
      case atStart => exact ⟨0, Nat.zero_le _, rfl, hide fun q _ hq => absurd hq (by omega), Below.refl _ _⟩
      case round =>
        obtain ⟨j, hj, rfl, HR, hBq⟩ := hrel
        have e0 := (hBq.cell (p := ⟨b, off + k * 3, none⟩) hbb3).trans d0'
        have e1 := (hBq.cell (p := ⟨b, off + k * 3 + 1, none⟩) hbb3).trans d1'
        have e2 := (hBq.cell (p := ⟨b, off + k * 3 + 2, none⟩) hbb3).trans d2'
        have hsq := hBq.size
        by_cases hlt2 : j < x.reads.length
        · obtain ⟨b', off', rfl, hbb', c0, c1'⟩ := (q1.new hBq).ent hlt2
          have HNX := hide (fun (hh : (inB x.reads[j].k 0 31 && atL cur x.reads[j].k == x.reads[j].v) = true) => show ∀ q (hq : q < x.reads.length), q < j + 1 → (inB x.reads[q].k 0 31 && atL cur x.reads[q].k == x.reads[q].v) = true from fun q hq hqj => by
            rcases Nat.lt_or_ge q j with h1 | h1
            · exact unhide HR q hq h1
            · have : q = j := by omega
              subst this
              exact hh)
          have HNO := hide (fun (hh : (inB x.reads[j].k 0 31 && atL cur x.reads[j].k == x.reads[j].v) = false) => show rightB s es = false by rw [unhide HL, (unhide HC).2, unhide HG, readsOk_no hlt2 hh]; simp)
          generalize x.reads[j] = y at *
          have i2 : (j : Int) < (x.reads.length : Int) := by omega
          have hrd := (hcr.new hBq).alloc (.cells #[.int .i64 y.k, .int .i64 y.v] 80)
          have hBf := hBq.alloc hBq.size (.cells #[.int .i64 y.k, .int .i64 y.v] 80)
          cases hky : inB y.k 0 31
          · have HN := hide (unhide HNO (by rw [hky]; rfl))
            clear HNO HNX
            go_wp2
            go_quiet ((first | (go_at_call 50; first | exact quiet_left (l1In_any _ _ _ _) | exact quiet_add_left (l1In_any _ _ _ _)) | (go_at_call 51; first | exact quiet_left (l2At_any _ _ _ _ _ (hrd.drewN _) (by omega)) | exact quiet_add_left (l2At_any _ _ _ _ _ (hrd.drewN _) (by omega)))))
            go_wp2
            go_ret
            exact ⟨retb (unhide HN).symm, below_drewN (bthen (bthen hB2 hB) hBf) _⟩
          · cases huv : (atL cur y.k == y.v)
            · have HN := hide (unhide HNO (by rw [hky, huv]; rfl))
              have hne : (atL cur y.k != y.v) = true := by rw [bne, huv]; rfl
              clear HNO HNX
              go_wp2
              go_quiet ((first | (go_at_call 50; first | exact quiet_left (l1In_any _ _ _ _) | exact quiet_add_left (l1In_any _ _ _ _)) | (go_at_call 51; first | exact quiet_left (l2At_any _ _ _ _ _ (hrd.drewN _) (by omega)) | exact quiet_add_left (l2At_any _ _ _ _ _ (hrd.drewN _) (by omega)))))
              go_wp2
              go_ret
              exact ⟨retb (unhide HN).symm, below_drewN (bthen (bthen hB2 hB) hBf) _⟩
            · have HN := hide (unhide HNX (by rw [hky, huv]; rfl))
              have hne : (atL cur y.k != y.v) = false := by rw [bne, huv]; rfl
              clear HNO HNX
              go_wp2
              go_quiet ((first | (go_at_call 50; first | exact quiet_left (l1In_any _ _ _ _) | exact quiet_add_left (l1In_any _ _ _ _)) | (go_at_call 51; first | exact quiet_left (l2At_any _ _ _ _ _ (hrd.drewN _) (by omega)) | exact quiet_add_left (l2At_any _ _ _ _ _ (hrd.drewN _) (by omega)))))
              go_wp2
              go_roundw
              case rel => exact ⟨j + 1, by omega, by go_num, HN, below_drewN hBf _⟩
              case measure => simp [intOf]; omega
        · obtain rfl : j = x.reads.length := by omega
          have HRO := hide (readsOk_all (s := cur) (rs := x.reads) fun q hq => unhide HR q hq hq)
          have HN := hide (show storeB (applyL cur x.writes) = true ∧ rightGo s es = rightGo (applyL cur x.writes) (es.drop (k + 1)) from ⟨applyL_storeB (unhide HC).1 (unhide HD), by rw [(unhide HC).2, unhide HG, unhide HD, unhide HRO, Bool.true_and, Bool.true_and]⟩)
          go_wp2_with fail
          refine (applyEffect_spec A' c' cur x A1 c1 A3 c3 wr (hcr.new hBq) (q3.new hBq) (by omega) (by omega)).mono ?_
          rintro e w4 ⟨A4, c4, rfl, o4, b4⟩
          go_wp2
          go_roundw
          case rel => exact ⟨k + 1, A4, c4, _, by omega, by go_num, rfl, HN, own_rd o4, bthen hB (bthen hBq b4)⟩
          case measure => simp [intOf]; omega
    · obtain rfl : k = es.length := by omega
      have HN := hide (show rightB s es = true by rw [unhide HL, (unhide HC).2, List.drop_length]; rfl)
      go_wp2
      go_ret
      exact ⟨retb (unhide HN).symm, bthen hB2 hB⟩
end Go.Proofs.Ytiaodcjocogkkaa
