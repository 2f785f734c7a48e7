/- The reference's stores: put a value, changed keys, differences. -/
import Derived.Test.YtpfdhbomcoafdaaPut
import Derived.Deep.RegionHeld3
import Derived.Deep.DrawnRows
namespace Go.Proofs.Ytpfdhbomcoafdaa
open Go.RowKit
set_option linter.unusedVariables false
set_option linter.unusedSimpArgs false
attribute [local go_sem ↓] Go.wp_at_zero Go.wp_at_succ

def putV (es : List Ent) (key value : Int) : List Ent := if storeB es then (if inB key 0 31 && inB value 0 1000000 then putL es key value else es) else []
def putOk (es : List Ent) (key value : Int) : Bool := storeB es && (inB key 0 31 && inB value 0 1000000)
theorem putGo_len (key value : Int) (pl : Bool) (es : List Ent) : (putGo key value pl es).length ≤ es.length + 1 - pl.toNat := by
  induction es generalizing pl with
  | nil => cases pl <;> simp [putGo]
  | cons e es ih =>
    simp only [putGo, List.length_append, List.length_cons]
    have h1 := ih (pl || decide (key ≤ e.k))
    cases pl <;> by_cases h2 : key ≤ e.k <;> by_cases h3 : e.k = key <;> simp [h2, h3] at h1 ⊢ <;> omega
theorem putL_len (es : List Ent) (key value : Int) : (putL es key value).length ≤ es.length + 1 := by
  have := putGo_len key value (value == 0) es
  unfold putL
  omega
theorem putV_len (es : List Ent) (key value : Int) : (putV es key value).length ≤ es.length + 1 := by
  unfold putV
  split
  · split
    · exact putL_len es key value
    · omega
  · simp
theorem putValue_spec (A : Option Addr) (c : Nat) (es : List Ent) (key value : Int) (w : World) (h : Rd w A (es.flatMap encE)) (hb : es.length ≤ 1099511627776) :
    Calls Try.prog 50 #[.slice A es.length c, .int .i64 key, .int .i64 value] w fun e w' => ∃ A' c', e = .returned (.tuple #[.slice A' (putV es key value).length c', .bool (putOk es key value)]) ∧ w'.ownsRow w.heap.size 36 2 (.slice A' (putV es key value).length c') (putV es key value).length ((putV es key value).flatMap encE) ∧ Below w.heap.size w w' := by
  cases hs : storeB es
  · have HV := hide (show putV es key value = [] by simp [putV, hs])
    have HO := hide (show putOk es key value = false by simp [putOk, hs])
    go_enter Try.func50, Try.ntmps50
    go_wp2_with fail
    refine (storeB_store_spec A c es w h (by omega)).mono ?_
    rintro e w' ⟨rfl, m, rfl⟩
    go_wp2
    go_ret2
    rw [unhide HV, unhide HO]
    exact ⟨_, _, rfl, own_made (w.drewN m) #[] 0 (Nat.le_refl _) (by simp [maxLen]) rfl, (below_drewN (Below.refl _ _) m).alloc (Nat.le_refl _) _⟩
  · by_cases hkv : inB key 0 31 = true ∧ inB value 0 1000000 = true
    · obtain ⟨h1, h2⟩ := hkv
      have HV := hide (show putV es key value = putL es key value by simp [putV, hs, h1, h2])
      have HO := hide (show putOk es key value = true by simp [putOk, hs, h1, h2])
      go_enter Try.func50, Try.ntmps50
      go_wp2_with fail
      refine (storeB_store_spec A c es w h (by omega)).mono ?_
      rintro e w' ⟨rfl, m, rfl⟩
      go_wp2_with (go_at_call 47; refine (l1In_any _ _ _ _).mono ?_; rintro e w' ⟨rfl, rfl⟩)
      refine (l2Put_any A c es key value _ (h.drewN m) hb).mono ?_
      rintro e w1 ⟨A1, c1, rfl, o1, b1⟩
      go_wp2
      go_ret2
      rw [unhide HV, unhide HO]
      exact ⟨_, _, rfl, o1, (below_drewN (Below.refl _ _) m).trans b1⟩
    · have HV := hide (show putV es key value = es by
        unfold putV
        rw [if_pos hs, if_neg]
        intro hh
        simp only [Bool.and_eq_true] at hh
        exact hkv hh)
      have HO := hide (show putOk es key value = false by
        unfold putOk
        cases h1 : inB key 0 31 <;> cases h2 : inB value 0 1000000 <;> simp_all)
      cases h1 : inB key 0 31
      · clear hkv
        go_enter Try.func50, Try.ntmps50
        go_wp2_with fail
        refine (storeB_store_spec A c es w h (by omega)).mono ?_
        rintro e w' ⟨rfl, m, rfl⟩
        go_wp2_with (first
          | (go_at_call 47; refine (l1In_any _ _ _ _).mono ?_; rintro e w' ⟨rfl, rfl⟩)
          | (at_builtin; refine wpList_app rfl (.tmp 20) (.tmp 21) 24 rfl el_ent rfl (own_made (base := w.heap.size) (w.drewN m) #[] 0 (Nat.le_refl _) (by simp [maxLen]) rfl) rfl ((h.drewN m).alloc _) (by rw [length_flat encE 2 encE_len]) (one_ents es) (by simp only [maxLen]; omega) (by omega) (by simp) ?_; intro A1 c1 w1 o1 ch1 _ _; simp only [Nat.zero_add, List.nil_append] at o1))
        go_ret2
        rw [unhide HV, unhide HO]
        exact ⟨A1, c1, rfl, o1, ((below_drewN (Below.refl _ _) m).alloc (Nat.le_refl _) _).trans (ch1.below (fun k hk hA => by injection hA with hA; injection hA with hA; have e0 : (w.drewN m).heap.size = w.heap.size := rfl; omega) (by simp))⟩
      · have h2 : inB value 0 1000000 = false := by cases h2 : inB value 0 1000000 <;> simp_all
        clear hkv
        go_enter Try.func50, Try.ntmps50
        go_wp2_with fail
        refine (storeB_store_spec A c es w h (by omega)).mono ?_
        rintro e w' ⟨rfl, m, rfl⟩
        go_wp2_with (first
          | (go_at_call 47; refine (l1In_any _ _ _ _).mono ?_; rintro e w' ⟨rfl, rfl⟩)
          | (at_builtin; refine wpList_app rfl (.tmp 20) (.tmp 21) 24 rfl el_ent rfl (own_made (base := w.heap.size) (w.drewN m) #[] 0 (Nat.le_refl _) (by simp [maxLen]) rfl) rfl ((h.drewN m).alloc _) (by rw [length_flat encE 2 encE_len]) (one_ents es) (by simp only [maxLen]; omega) (by omega) (by simp) ?_; intro A1 c1 w1 o1 ch1 _ _; simp only [Nat.zero_add, List.nil_append] at o1))
        go_ret2
        rw [unhide HV, unhide HO]
        exact ⟨A1, c1, rfl, o1, ((below_drewN (Below.refl _ _) m).alloc (Nat.le_refl _) _).trans (ch1.below (fun k hk hA => by injection hA with hA; injection hA with hA; have e0 : (w.drewN m).heap.size = w.heap.size := rfl; omega) (by simp))⟩

/-- the keys below k whose values differ -/
def chgN (a b : List Ent) (k : Nat) : List Int := ((List.range k).filter fun j : Nat => atL a (j : Int) != atL b (j : Int)).map fun j : Nat => (j : Int)
theorem chgN_succ (a b : List Ent) (k : Nat) : chgN a b (k + 1) = chgN a b k ++ (if atL a (k : Int) != atL b (k : Int) then [(k : Int)] else []) := by
  unfold chgN
  rw [List.range_succ, List.filter_append, List.map_append]
  congr 1
  by_cases h : (atL a (k : Int) != atL b (k : Int)) = true <;> simp [h]
theorem chgN_len (a b : List Ent) (k : Nat) : (chgN a b k).length ≤ k := by
  unfold chgN
  rw [List.length_map]
  exact Nat.le_trans (List.length_filter_le _ _) (by simp)
theorem chgN_bd (a b : List Ent) (k : Nat) : ∀ x ∈ chgN a b k, 0 ≤ x ∧ x < k := by
  intro x hx
  unfold chgN at hx
  simp only [List.mem_map, List.mem_filter, List.mem_range] at hx
  obtain ⟨j, ⟨hj, _⟩, rfl⟩ := hx
  omega
def changedL (a b : List Ent) : List Int := if storeB a && storeB b then chgN a b 32 else []
theorem changed_spec (A B : Option Addr) (ca cb : Nat) (a b : List Ent) (w : World) (ha : Rd w A (a.flatMap encE)) (hb : Rd w B (b.flatMap encE)) (hla : a.length ≤ 1099511627776) (hlb : b.length ≤ 1099511627776) :
    Calls Try.prog 33 #[.slice A a.length ca, .slice B b.length cb] w fun e w' => ∃ A' c', e = .returned (.slice A' (changedL a b).length c') ∧ w'.ownsRow w.heap.size 3 1 (.slice A' (changedL a b).length c') (changedL a b).length ((changedL a b).map (.int .i64)) ∧ Below w.heap.size w w' := by
  by_cases hs : storeB a = true ∧ storeB b = true
  · obtain ⟨hsa, hsb⟩ := hs
    have HL := hide (show changedL a b = chgN a b 32 by simp [changedL, hsa, hsb])
    go_enter Try.func33, Try.ntmps33
    go_wp2
    go_loopw [5, 6] (fun v i wr => ∃ (k : Nat) (A' : Option Addr) (c' : Nat), k ≤ 32 ∧ i = .int .i64 k ∧ v = .slice A' (chgN a b k).length c' ∧ wr.ownsRow w.heap.size 3 1 (.slice A' (chgN a b k).length c') (chgN a b k).length ((chgN a b k).map (.int .i64)) ∧ Below w.heap.size w wr) (fun _ i _ => 32 - (intOf i).toNat)
    case atStart => exact ⟨0, _, _, by omega, rfl, rfl, own_made w #[] 0 (Nat.le_refl _) (by simp [maxLen]) rfl, (Below.refl _ _).alloc (Nat.le_refl _) _⟩
    case round =>
      obtain ⟨k, A', c', hk, rfl, rfl, hown, hbel⟩ := hrel
      have hlen := chgN_len a b k
      have HS := hide (chgN_succ a b k)
      by_cases hlt : (k : Int) ≤ 31
      · generalize chgN a b k = gs at *
        have hra := ha.below hbel (Nat.le_refl _)
        have hrb := hb.below hbel (Nat.le_refl _)
        go_wp2_with fail
        refine (storeB_store_spec A ca a wr hra (by omega)).mono ?_
        rintro e w' ⟨rfl, m1, rfl⟩
        go_wp2_with fail
        refine (storeB_store_spec B cb b _ (hrb.drewN m1) (by omega)).mono ?_
        rintro e w' ⟨rfl, m2, rfl⟩
        rw [World.drewN_drewN]
        have hbel2 : Below w.heap.size w (wr.drewN (m1 + m2)) := below_drewN hbel (m1 + m2)
        have hra2 := hra.drewN (m1 + m2)
        have hrb2 := hrb.drewN (m1 + m2)
        have ho2 : (wr.drewN (m1 + m2)).ownsRow w.heap.size 3 1 (.slice A' gs.length c') gs.length (gs.map (.int .i64)) := hown
        generalize wr.drewN (m1 + m2) = w2 at *
        clear hown hbel hra hrb
        cases hne : (atL a (k : Int) != atL b (k : Int))
        · have HS1 := hide (show chgN a b (k + 1) = gs by rw [unhide HS, hne]; simp)
          go_wp2_with fail
          refine (l2At_any A ca a (k : Int) _ hra2 (by omega)).mono ?_
          rintro e w' ⟨rfl, rfl⟩
          go_wp2_with fail
          refine (l2At_any B cb b (k : Int) _ hrb2 (by omega)).mono ?_
          rintro e w' ⟨rfl, rfl⟩
          go_wp2
          go_roundw
          case rel => exact ⟨k + 1, A', c', by omega, by go_num, by rw [unhide HS1], by rw [unhide HS1]; exact ho2, hbel2⟩
          case measure => simp [intOf]; omega
        · have HS1 := hide (show chgN a b (k + 1) = gs ++ [(k : Int)] by rw [unhide HS, if_pos hne])
          go_wp2_with fail
          refine (l2At_any A ca a (k : Int) _ hra2 (by omega)).mono ?_
          rintro e w' ⟨rfl, rfl⟩
          go_wp2_with fail
          refine (l2At_any B cb b (k : Int) _ hrb2 (by omega)).mono ?_
          rintro e w' ⟨rfl, rfl⟩
          go_wp2_with (at_builtin; refine wpList_app rfl (.tmp 27) (.tmp 29) 48 rfl el_int rfl (own_alloc ho2 _) rfl (rd_lit w2 [.int .i64 (k : Int)] _) rfl (one_ints [(k : Int)]) (by simp only [maxLen]; omega) (by omega) (by have := hbel2.size; simp; omega) ?_; intro A1 c1 w3 o3 ch3 _ _)
          have hb3 := app_below hbel2 ho2 ch3 (Nat.le_refl _)
          go_roundw
          case rel => exact ⟨k + 1, A1, c1, by omega, by go_num, by rw [unhide HS1]; simp, by rw [unhide HS1]; simpa using o3, hb3⟩
          case measure => simp [intOf]; omega
      · have hk32 : k = 32 := by omega
        subst hk32
        go_wp2
        go_ret
        rw [unhide HL]
        exact ⟨A', c', rfl, hown, hbel⟩
  · have HL := hide (show changedL a b = [] by unfold changedL; rw [if_neg]; simpa using hs)
    cases hsa : storeB a
    · clear hs
      go_enter Try.func33, Try.ntmps33
      go_wp2
      refine wp_loop_rounds 1 ?_
      rw [rounds_succ]
      go_wp2_with fail
      refine (storeB_store_spec A ca a _ (ha.alloc _) (by omega)).mono ?_
      rintro e w' ⟨rfl, m1, rfl⟩
      go_wp2
      go_ret
      rw [unhide HL]
      exact ⟨_, _, rfl, own_made w #[] 0 (Nat.le_refl _) (by simp [maxLen]) rfl, below_drewN ((Below.refl _ _).alloc (Nat.le_refl _) _) m1⟩
    · have hsb : storeB b = false := by cases h : storeB b <;> simp_all
      clear hs
      go_enter Try.func33, Try.ntmps33
      go_wp2
      refine wp_loop_rounds 1 ?_
      rw [rounds_succ]
      go_wp2_with fail
      refine (storeB_store_spec A ca a _ (ha.alloc _) (by omega)).mono ?_
      rintro e w' ⟨rfl, m1, rfl⟩
      go_wp2_with fail
      refine (storeB_store_spec B cb b _ ((hb.alloc _).drewN m1) (by omega)).mono ?_
      rintro e w' ⟨rfl, m2, rfl⟩
      go_wp2
      go_ret
      rw [unhide HL]
      exact ⟨_, _, rfl, own_made w #[] 0 (Nat.le_refl _) (by simp [maxLen]) rfl, below_drewN ((Below.refl _ _).alloc (Nat.le_refl _) _) (m1 + m2)⟩
theorem rd_chg' {w w' : World} {S : Nat → Prop} {A : Option Addr} {xs : List Value} (h : Rd w A xs) (hc : Chg S w w') (hS : ∀ b off, A = some ⟨b, off, none⟩ → ¬ S b) : Rd w' A xs := fun h0 => by
  obtain ⟨b, off, hA, hb, hcell⟩ := h h0
  exact ⟨b, off, hA, Nat.lt_of_lt_of_le hb hc.size, fun j u hu => (World.cell?_of_block (hc.block b hb (hS b off hA))).trans (hcell j u hu)⟩
def diffL (a b : List Ent) : List Ent := (changedL a b).map fun k => ⟨k, atL b k⟩
theorem diffL_len (a b : List Ent) : (diffL a b).length ≤ 32 := by
  unfold diffL changedL
  rw [List.length_map]
  split
  · exact chgN_len a b 32
  · simp
theorem diffStores_spec (A B : Option Addr) (ca cb : Nat) (a b : List Ent) (w : World) (ha : Rd w A (a.flatMap encE)) (hb : Rd w B (b.flatMap encE)) (hla : a.length ≤ 1099511627776) (hlb : b.length ≤ 1099511627776) :
    Calls Try.prog 16 #[.slice A a.length ca, .slice B b.length cb] w fun e w' => ∃ A' c', e = .returned (.slice A' (diffL a b).length c') ∧ w'.ownsRow w.heap.size 36 2 (.slice A' (diffL a b).length c') (diffL a b).length ((diffL a b).flatMap encE) ∧ Below w.heap.size w w' := by
  have hdl : (changedL a b).length ≤ 32 := by have := diffL_len a b; unfold diffL at this; simpa using this
  go_enter Try.func16, Try.ntmps16
  go_wp2_with fail
  refine (changed_spec A B ca cb a b _ (ha.alloc _) (hb.alloc _) hla hlb).mono ?_
  rintro e w1 ⟨A1, c1, rfl, o1, b1⟩
  have hD := hide (show diffL a b = (changedL a b).map fun k => ⟨k, atL b k⟩ from rfl)
  generalize changedL a b = ks at *
  have b01 : Below w.heap.size w w1 := ((Below.refl _ _).alloc (Nat.le_refl _) _).trans (b1.mono (by simp))
  have o0 : w1.ownsRow w.heap.size 36 2 (.slice (some ⟨w.heap.size, 0, none⟩) 0 0) 0 [] := own_new (own_made (base := w.heap.size) (e := 36) (size := 2) w #[] 0 (Nat.le_refl _) (by simp [maxLen]) rfl) b1
  obtain ⟨gk, hgk⟩ : ∃ gk, 0 < ks.length → A1 = some ⟨gk, 0, none⟩ ∧ w.heap.size < gk := by
    rcases Nat.eq_zero_or_pos ks.length with h0 | h0
    · exact ⟨0, fun h => by omega⟩
    · obtain ⟨gk, h1, h2, _⟩ := own_addr o1 h0
      exact ⟨gk, fun _ => ⟨h1, by simp at h2; omega⟩⟩
  have rk1 := own_rd o1
  go_wp2
  go_loopw [5, 7] (fun v i wr => ∃ (k : Nat) (A' : Option Addr) (c' : Nat), k ≤ ks.length ∧ i = .int .i64 k ∧ v = .slice A' k c' ∧ wr.ownsRow w.heap.size 36 2 (.slice A' k c') k (((ks.take k).map fun k => (⟨k, atL b k⟩ : Ent)).flatMap encE) ∧ Rd wr A1 (ks.map (.int .i64)) ∧ (∀ q, 0 < ks.length → A' = some ⟨q, 0, none⟩ → q ≠ gk) ∧ Below w.heap.size w wr) (fun _ i _ => ks.length - (intOf i).toNat)
  case atStart => exact ⟨0, _, _, Nat.zero_le _, rfl, rfl, by simpa using o0, rk1, fun q h0 hq => by injection hq with hq; injection hq with hq; have := (hgk h0).2; omega, b01⟩
  case round =>
    obtain ⟨k, A', c', hk, rfl, rfl, hown, hrk, hne, hbel⟩ := hrel
    by_cases hlt : k < ks.length
    · obtain ⟨rfl, hgk2⟩ := hgk (by omega)
      obtain ⟨b', off', hA', hbb, hc⟩ := hrk.int hlt
      injection hA' with hA'
      injection hA' with q1 q2
      subst q1
      subst q2
      rw [Nat.zero_add] at hc
      have hrb := ((hb.below hbel (Nat.le_refl _))).drew
      have htk := hide (show (ks.take (k + 1)).map (fun k => (⟨k, atL b k⟩ : Ent)) = (ks.take k).map (fun k => (⟨k, atL b k⟩ : Ent)) ++ [⟨ks[k], atL b ks[k]⟩] by rw [List.take_succ_eq_append_getElem hlt, List.map_append]; rfl)
      generalize hx : ks[k] = x at *
      have HX := hide hx
      clear hx
      have i1 : (k : Int) < (ks.length : Int) := by omega
      have hne2 : ∀ q, A' = some ⟨q, 0, none⟩ → q ≠ gk := fun q hq => hne q (by omega) hq
      have HN := hide hne2
      clear hne hne2
      go_wp2
      go_region_held3 (fun w' => w'.cell? ⟨gk, k, none⟩ = some (.int .i64 x)) (first | exact hk1 | go_keep)
        (first
          | (refine step_app (by rfl) (.tmp 18) (.tmp 30) _ (by rfl) el_ent (by rfl) (own_alloc (w := wr.drew) hown (.cells #[.int .i64 x, .int .i64 (atL b x)] 36)) (by rfl) (rd_lit wr.drew [.int .i64 x, .int .i64 (atL b x)] 36) (by rfl) (one_ents [⟨x, atL b x⟩]) (by simp only [maxLen]; omega) (by omega) (by have := hbel.size; simp; omega) ?_; intro A2 c2 w2 o2 ch2 hd2 _; have hk1 : w2.cell? ⟨gk, k, none⟩ = some (.int .i64 x) := ch2.cell (p := ⟨gk, k, none⟩) (by assumption) (fun hA => unhide HN gk hA rfl))
          | (go_at_call 34; refine (l2At_any B cb b x _ hrb (by omega)).mono ?_; rintro e w' ⟨rfl, rfl⟩))
      go_wp2
      have hb2 := app_below' (hbel.alloc hbel.size (.cells #[.int .i64 x, .int .i64 (atL b x)] 36)).drew (own_alloc hown _) ch2 (Nat.le_refl _)
      have hr2 : Rd w2 (some ⟨gk, 0, none⟩) (ks.map (.int .i64)) := rd_chg' ((hrk.alloc _).drew) ch2 (fun b' off' hA' hA => by injection hA' with hA'; injection hA' with q1 q2; exact unhide HN b' hA q1.symm)
      have ho2 : w2.ownsRow w.heap.size 36 2 (.slice A2 (k + 1) c2) (k + 1) (((ks.take (k + 1)).map fun k => (⟨k, atL b k⟩ : Ent)).flatMap encE) := by
        rw [unhide htk, ← snoc_ents]
        exact o2
      have hn2 : ∀ q, 0 < ks.length → A2 = some ⟨q, 0, none⟩ → q ≠ gk := by
        intro q _ hq
        rcases hd2 with hd2 | ⟨hd2, _⟩
        · exact unhide HN q (by rw [← hd2, hq])
        · rw [hq] at hd2
          injection hd2 with hd2
          injection hd2 with hd2
          simp at hd2
          omega
      go_roundw
      case rel => exact ⟨k + 1, A2, c2, by omega, by go_num, rfl, ho2, hr2, hn2, hb2⟩
      case measure => simp [intOf]; omega
    · have : k = ks.length := by omega
      subst this
      rw [List.take_length] at hown
      go_wp2
      go_ret
      rw [unhide hD, List.length_map]
      exact ⟨A', c', rfl, hown, hbel⟩
end Go.Proofs.Ytpfdhbomcoafdaa
