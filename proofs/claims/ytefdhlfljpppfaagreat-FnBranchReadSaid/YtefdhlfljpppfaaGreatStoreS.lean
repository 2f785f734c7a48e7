/- The reference's stores: put a value, changed keys, differences. -/
import Derived.Test.YtefdhlfljpppfaaGreatPut
import Derived.Deep.RegionHeld3
import Derived.Deep.DrawnRows
namespace Go.Proofs.YtefdhlfljpppfaaGreat
open Go.RowKit
set_option linter.unusedVariables false
set_option linter.unusedSimpArgs false
attribute [local go_sem ↓] Go.wp_at_zero Go.wp_at_succ

def putV (es : List Ent) (key value : Int) : List Ent := if storeB es then (if inB key 0 31 && inB value 0 1000000 then putL es key value else es) else []
def putOk (es : List Ent) (key value : Int) : Bool := storeB es && (inB key 0 31 && inB value 0 1000000)
theorem putGo_len (key value : Int) (pl : Bool) (es : List Ent) : (putGo key value pl es).length ≤ es.length + 1 - pl.toNat := by
  induction es generalizing pl with
  | nil => cases pl <;> simp [putGo]
  | cons e es ih =>
    simp only [putGo, List.length_append, List.length_cons]
    have h1 := ih (pl || decide (key ≤ e.k))
    cases pl <;> by_cases h2 : key ≤ e.k <;> by_cases h3 : e.k = key <;> simp [h2, h3] at h1 ⊢ <;> omega
theorem putL_len (es : List Ent) (key value : Int) : (putL es key value).length ≤ es.length + 1 := by
  have := putGo_len key value (value == 0) es
  unfold putL
  omega
theorem putV_len (es : List Ent) (key value : Int) : (putV es key value).length ≤ es.length + 1 := by
  unfold putV
  split
  · split
    · exact putL_len es key value
    · omega
  · simp
theorem putValue_spec (A : Option Addr) (c : Nat) (es : List Ent) (key value : Int) (w : World) (h : Rd w A (es.flatMap encE)) (hb : es.length ≤ 1099511627776) :
    Calls Tryz.prog 125 #[.slice A es.length c, .int .i64 key, .int .i64 value] w fun e w' => ∃ A' c', e = .returned (.tuple #[.slice A' (putV es key value).length c', .bool (putOk es key value)]) ∧ w'.ownsRow w.heap.size 85 2 (.slice A' (putV es key value).length c') (putV es key value).length ((putV es key value).flatMap encE) ∧ Below w.heap.size w w' := by
  cases hs : storeB es
  · have HV := hide (show putV es key value = [] by simp [putV, hs])
    have HO := hide (show putOk es key value = false by simp [putOk, hs])
    go_enter Tryz.func125, Tryz.ntmps125
    go_wp2_with fail
    refine (storeB_store_spec A c es w h (by omega)).mono ?_
    rintro e w' ⟨rfl, m, rfl⟩
    go_wp2
    go_ret2
    rw [unhide HV, unhide HO]
    exact ⟨_, _, rfl, own_made (w.drewN m) #[] 0 (Nat.le_refl _) (by simp [maxLen]) rfl, (below_drewN (Below.refl _ _) m).alloc (Nat.le_refl _) _⟩
  · by_cases hkv : inB key 0 31 = true ∧ inB value 0 1000000 = true
    · obtain ⟨h1, h2⟩ := hkv
      have HV := hide (show putV es key value = putL es key value by simp [putV, hs, h1, h2])
      have HO := hide (show putOk es key value = true by simp [putOk, hs, h1, h2])
      go_enter Tryz.func125, Tryz.ntmps125
      go_wp2_with fail
      refine (storeB_store_spec A c es w h (by omega)).mono ?_
      rintro e w' ⟨rfl, m, rfl⟩
      go_wp2_with (go_at_call 41; refine (l1In_any _ _ _ _).mono ?_; rintro e w' ⟨rfl, rfl⟩)
      refine (l2Put_any A c es key value _ (h.drewN m) hb).mono ?_
      rintro e w1 ⟨A1, c1, rfl, o1, b1⟩
      go_wp2
      go_ret2
      rw [unhide HV, unhide HO]
      exact ⟨_, _, rfl, o1, (below_drewN (Below.refl _ _) m).trans b1⟩
    · have HV := hide (show putV es key value = es by
        unfold putV
        rw [if_pos hs, if_neg]
        intro hh
        simp only [Bool.and_eq_true] at hh
        exact hkv hh)
      have HO := hide (show putOk es key value = false by
        unfold putOk
        cases h1 : inB key 0 31 <;> cases h2 : inB value 0 1000000 <;> simp_all)
      cases h1 : inB key 0 31
      · clear hkv
        go_enter Tryz.func125, Tryz.ntmps125
        go_wp2_with fail
        refine (storeB_store_spec A c es w h (by omega)).mono ?_
        rintro e w' ⟨rfl, m, rfl⟩
        go_wp2_with (first
          | (go_at_call 41; refine (l1In_any _ _ _ _).mono ?_; rintro e w' ⟨rfl, rfl⟩)
          | (at_builtin; refine wpList_app rfl (.tmp 20) (.tmp 21) 23 rfl el_ent rfl (own_made (base := w.heap.size) (w.drewN m) #[] 0 (Nat.le_refl _) (by simp [maxLen]) rfl) rfl ((h.drewN m).alloc _) (by rw [length_flat encE 2 encE_len]) (one_ents es) (by simp only [maxLen]; omega) (by omega) (by simp) ?_; intro A1 c1 w1 o1 ch1 _ _; simp only [Nat.zero_add, List.nil_append] at o1))
        go_ret2
        rw [unhide HV, unhide HO]
        exact ⟨A1, c1, rfl, o1, ((below_drewN (Below.refl _ _) m).alloc (Nat.le_refl _) _).trans (ch1.below (fun k hk hA => by injection hA with hA; injection hA with hA; have e0 : (w.drewN m).heap.size = w.heap.size := rfl; omega) (by simp))⟩
      · have h2 : inB value 0 1000000 = false := by cases h2 : inB value 0 1000000 <;> simp_all
        clear hkv
        go_enter Tryz.func125, Tryz.ntmps125
        go_wp2_with fail
        refine (storeB_store_spec A c es w h (by omega)).mono ?_
        rintro e w' ⟨rfl, m, rfl⟩
        go_wp2_with (first
          | (go_at_call 41; refine (l1In_any _ _ _ _).mono ?_; rintro e w' ⟨rfl, rfl⟩)
          | (at_builtin; refine wpList_app rfl (.tmp 20) (.tmp 21) 23 rfl el_ent rfl (own_made (base := w.heap.size) (w.drewN m) #[] 0 (Nat.le_refl _) (by simp [maxLen]) rfl) rfl ((h.drewN m).alloc _) (by rw [length_flat encE 2 encE_len]) (one_ents es) (by simp only [maxLen]; omega) (by omega) (by simp) ?_; intro A1 c1 w1 o1 ch1 _ _; simp only [Nat.zero_add, List.nil_append] at o1))
        go_ret2
        rw [unhide HV, unhide HO]
        exact ⟨A1, c1, rfl, o1, ((below_drewN (Below.refl _ _) m).alloc (Nat.le_refl _) _).trans (ch1.below (fun k hk hA => by injection hA with hA; injection hA with hA; have e0 : (w.drewN m).heap.size = w.heap.size := rfl; omega) (by simp))⟩

/-- the keys below k whose values differ -/
def chgN (a b : List Ent) (k : Nat) : List Int := ((List.range k).filter fun j : Nat => atL a (j : Int) != atL b (j : Int)).map fun j : Nat => (j : Int)
theorem chgN_succ (a b : List Ent) (k : Nat) : chgN a b (k + 1) = chgN a b k ++ (if atL a (k : Int) != atL b (k : Int) then [(k : Int)] else []) := by
  unfold chgN
  rw [List.range_succ, List.filter_append, List.map_append]
  congr 1
  by_cases h : (atL a (k : Int) != atL b (k : Int)) = true <;> simp [h]
theorem chgN_len (a b : List Ent) (k : Nat) : (chgN a b k).length ≤ k := by
  unfold chgN
  rw [List.length_map]
  exact Nat.le_trans (List.length_filter_le _ _) (by simp)
theorem chgN_bd (a b : List Ent) (k : Nat) : ∀ x ∈ chgN a b k, 0 ≤ x ∧ x < k := by
  intro x hx
  unfold chgN at hx
  simp only [List.mem_map, List.mem_filter, List.mem_range] at hx
  obtain ⟨j, ⟨hj, _⟩, rfl⟩ := hx
  omega
def changedL (a b : List Ent) : List Int := if storeB a && storeB b then chgN a b 32 else []
theorem rd_chg' {w w' : World} {S : Nat → Prop} {A : Option Addr} {xs : List Value} (h : Rd w A xs) (hc : Chg S w w') (hS : ∀ b off, A = some ⟨b, off, none⟩ → ¬ S b) : Rd w' A xs := fun h0 => by
  obtain ⟨b, off, hA, hb, hcell⟩ := h h0
  exact ⟨b, off, hA, Nat.lt_of_lt_of_le hb hc.size, fun j u hu => (World.cell?_of_block (hc.block b hb (hS b off hA))).trans (hcell j u hu)⟩
def diffL (a b : List Ent) : List Ent := (changedL a b).map fun k => ⟨k, atL b k⟩
theorem diffL_len (a b : List Ent) : (diffL a b).length ≤ 32 := by
  unfold diffL changedL
  rw [List.length_map]
  split
  · exact chgN_len a b 32
  · simp
end Go.Proofs.YtefdhlfljpppfaaGreat
