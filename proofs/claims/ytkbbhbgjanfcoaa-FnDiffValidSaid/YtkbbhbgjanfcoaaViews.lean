/- When views begin that all fail. -/
import Derived.Test.YtkbbhbgjanfcoaaIntS
import Derived.StillTailTactics
import Derived.Deep.RegionHeld3
import Derived.Deep.DrawnRows
namespace Go.Proofs.Ytkbbhbgjanfcoaa
open Go.RowKit
set_option linter.unusedVariables false
set_option linter.unusedSimpArgs false

attribute [local go_sem ↓] Go.wp_at_zero Go.wp_at_succ

theorem el_int : El Try.prog 26 3 1 8 := El.mk_ Try.underlying26 int_info rfl (by omega)

def vAt (first : Int) : Nat → Int
  | 0 => 0
  | k + 1 => vAt first k + waitN first k
theorem vAt_bd (first : Int) (h1 : 1 ≤ first) (h2 : first ≤ 100000) (k : Nat) : 0 ≤ vAt first k ∧ vAt first k ≤ 100000 * k := by
  induction k with
  | zero => simp [vAt]
  | succ k ih => have := waitN_bd first h1 h2 k; simp only [vAt]; omega
def viewsN (first : Int) (k : Nat) : List Int := (List.range (k + 1)).map (vAt first)
theorem viewsN_length (first : Int) (k : Nat) : (viewsN first k).length = k + 1 := by simp [viewsN]
theorem viewsN_succ (first : Int) (k : Nat) : viewsN first (k + 1) = viewsN first k ++ [vAt first k + waitN first k] := by
  unfold viewsN
  rw [List.range_succ, List.map_append]
  rfl
theorem viewsN_get (first : Int) (k j : Nat) (h : j < (viewsN first k).length) : (viewsN first k)[j] = vAt first j := by simp [viewsN]
def viewsF (first many : Int) : List Int := if inB first 1 100000 && inB many 0 40 then viewsN first many.toNat else []
theorem viewsF_no {first many : Int} (h : inB first 1 100000 = false ∨ inB many 0 40 = false) : viewsF first many = [] := by
  unfold viewsF; rw [if_neg]; rcases h with h | h <;> simp [h]
theorem viewsF_yes {first many : Int} (h : inB first 1 100000 = true) (h' : inB many 0 40 = true) : viewsF first many = viewsN first many.toNat := by
  unfold viewsF; rw [if_pos (by simp [h, h'])]

theorem views_impl (first many : Int) (w : World) :
    Calls Try.prog 33 #[.int .i64 first, .int .i64 many] w fun e w' => ∃ A c, e = .returned (.slice A (viewsF first many).length c) ∧ w'.ownsRow w.heap.size 3 1 (.slice A (viewsF first many).length c) (viewsF first many).length ((viewsF first many).map (.int .i64)) ∧ Below w.heap.size w w' := by
  cases h : inB first 1 100000
  · rw [viewsF_no (.inl h)]
    go_enter Try.func33, Try.ntmps33
    go_wp2_with (go_at_call 44; refine (in_any _ _ _ _).mono ?_; rintro e w' ⟨rfl, rfl⟩)
    go_ret
    first
      | exact ⟨none, 0, rfl, own_nil _ _ _ _, Below.refl _ _⟩
      | exact ⟨_, _, rfl, by have := own_made (base := w.heap.size) (e := 3) (size := 1) (w.alloc (.cells #[.int .i64 0] 3)) #[] 0 (by simp) (by simp [maxLen]) rfl; simpa using this, ((Below.refl _ _).alloc (Nat.le_refl _) _).alloc (by simp) _⟩
  · cases h' : inB many 0 40
    · rw [viewsF_no (.inr h')]
      go_enter Try.func33, Try.ntmps33
      go_wp2_with (go_at_call 44; refine (in_any _ _ _ _).mono ?_; rintro e w' ⟨rfl, rfl⟩)
      go_ret
      first
        | exact ⟨none, 0, rfl, own_nil _ _ _ _, Below.refl _ _⟩
        | exact ⟨_, _, rfl, by have := own_made (base := w.heap.size) (e := 3) (size := 1) (w.alloc (.cells #[.int .i64 0] 3)) #[] 0 (by simp) (by simp [maxLen]) rfl; simpa using this, ((Below.refl _ _).alloc (Nat.le_refl _) _).alloc (by simp) _⟩
    · rw [viewsF_yes h h']
      obtain ⟨h1, h2⟩ := inB_true.1 h
      obtain ⟨h3, h4⟩ := inB_true.1 h'
      obtain ⟨n, rfl⟩ := Int.eq_ofNat_of_zero_le h3
      rw [Int.toNat_natCast]
      go_enter Try.func33, Try.ntmps33
      go_wp2_with (go_at_call 44; refine (in_any _ _ _ _).mono ?_; rintro e w' ⟨rfl, rfl⟩)
      go_loopw [5, 6, 17] (fun v _ i wr => ∃ (k : Nat) (A : Option Addr) (c : Nat), k ≤ n ∧ i = .int .i64 k ∧ v = .slice A (k + 1) c ∧ wr.ownsRow w.heap.size 3 1 (.slice A (k + 1) c) (k + 1) ((viewsN first k).map (.int .i64)) ∧ Below w.heap.size w wr) (fun _ _ i _ => n - (intOf i).toNat)
      case atStart =>
        exact ⟨0, _, _, Nat.zero_le _, rfl, rfl, own_made w #[.int .i64 0] 1 (Nat.le_refl _) (by simp [maxLen]) rfl, (Below.refl _ _).alloc (Nat.le_refl _) _⟩
      case round =>
        obtain ⟨k, A, c, hk, rfl, rfl, hown, hbel⟩ := hrel
        by_cases hlt : k < n
        · obtain ⟨g, rfl, hg1, hg2⟩ := own_addr hown (by omega)
          have hc := own_cell hown k (by simp [viewsN_length])
          rw [List.getElem_map, viewsN_get] at hc
          have hv := vAt_bd first h1 h2 k
          have hw := waitN_bd first h1 h2 k
          have HW := hide (waitF_yes (first := first) (fails := k) h1 h2 (by omega))
          have HV := hide (viewsN_succ first k)
          have hvs : 0 ≤ vAt first k + waitN first k := by omega
          have hvs2 : vAt first k + waitN first k ≤ 4100000 := by omega
          have i1 : (k : Int) < (k : Int) + 1 := by omega
          have hwrap : IntKind.i64.wrap (vAt first k + waitN first k) = vAt first k + waitN first k := Go.IntWalk.i64_in _ (by omega)
          go_wp2
          go_region_held3 (fun w' => w'.cell? ⟨g, k, none⟩ = some (.int .i64 (vAt first k))) (first | exact hk1 | go_keep)
            (first
              | (refine step_app (by rfl) (.tmp 20) (.tmp 29) _ (by rfl) el_int (by rfl) (own_alloc (w := wr.drew) hown (.cells #[.int .i64 (vAt first k + waitN first k)] 3)) (by rfl) (rd_lit wr.drew [.int .i64 (vAt first k + waitN first k)] 3) (by rfl) (one_ints [vAt first k + waitN first k]) (by simp only [maxLen]; omega) (by omega) (by have := hbel.size; simp; omega) ?_; intro A1 c1 w1 o1 ch1 _ r1; have hk1 : w1.cell? ⟨g, k, none⟩ = some (.int .i64 (vAt first k)) := by (obtain ⟨b', off', hA', _, hc'⟩ := r1 (by simp [viewsN_length]); injection hA' with hA'; injection hA' with e1 e2; subst e1; subst e2; have := hc' k (.int .i64 (vAt first k)) (by simp [viewsN]); simpa using this))
              | (go_at_call 18; refine (wait_impl _ _ (by omega) _).mono ?_; rintro e w' ⟨rfl, rfl⟩; rw [unhide HW]; simp only [Int.toNat_natCast]))
          go_wp2
          have hb1 := app_below' (hbel.alloc hbel.size (.cells #[.int .i64 (vAt first k + waitN first k)] 3)).drew (own_alloc hown _) ch1 (Nat.le_refl _)
          have ho1 : w1.ownsRow w.heap.size 3 1 (.slice A1 (k + 1 + 1) c1) (k + 1 + 1) ((viewsN first (k + 1)).map (.int .i64)) := by
            rw [unhide HV, List.map_append]
            exact o1
          go_roundw
          case rel => exact ⟨k + 1, A1, c1, by omega, by go_num, rfl, ho1, hb1⟩
          case measure => simp [intOf]; omega
        · have : k = n := by omega
          subst this
          go_wp2
          go_ret
          refine ⟨A, c, ?_, ?_, hbel⟩
          · rw [viewsN_length]
            rfl
          · rw [viewsN_length]
            exact hown
theorem views_spec (first many : Int) (w : World) :
    Calls Try.prog 32 #[.int .i64 first, .int .i64 many] w fun e w' => ∃ A c, e = .returned (.slice A (viewsF first many).length c) ∧ w'.ownsRow w.heap.size 3 1 (.slice A (viewsF first many).length c) (viewsF first many).length ((viewsF first many).map (.int .i64)) ∧ Below w.heap.size w w' := by
  cases h : inB first 1 100000
  · rw [viewsF_no (.inl h)]
    go_enter Try.func32, Try.ntmps32
    go_wp2_with (go_at_call 42; refine (l1In_any _ _ _ _).mono ?_; rintro e w' ⟨rfl, rfl⟩)
    go_ret
    first
      | exact ⟨none, 0, rfl, own_nil _ _ _ _, Below.refl _ _⟩
      | exact ⟨_, _, rfl, by have := own_made (base := w.heap.size) (e := 3) (size := 1) (w.alloc (.cells #[.int .i64 0] 3)) #[] 0 (by simp) (by simp [maxLen]) rfl; simpa using this, ((Below.refl _ _).alloc (Nat.le_refl _) _).alloc (by simp) _⟩
  · cases h' : inB many 0 40
    · rw [viewsF_no (.inr h')]
      go_enter Try.func32, Try.ntmps32
      go_wp2_with (go_at_call 42; refine (l1In_any _ _ _ _).mono ?_; rintro e w' ⟨rfl, rfl⟩)
      go_ret
      first
        | exact ⟨none, 0, rfl, own_nil _ _ _ _, Below.refl _ _⟩
        | exact ⟨_, _, rfl, by have := own_made (base := w.heap.size) (e := 3) (size := 1) (w.alloc (.cells #[.int .i64 0] 3)) #[] 0 (by simp) (by simp [maxLen]) rfl; simpa using this, ((Below.refl _ _).alloc (Nat.le_refl _) _).alloc (by simp) _⟩
    · rw [viewsF_yes h h']
      obtain ⟨h1, h2⟩ := inB_true.1 h
      obtain ⟨h3, h4⟩ := inB_true.1 h'
      obtain ⟨n, rfl⟩ := Int.eq_ofNat_of_zero_le h3
      rw [Int.toNat_natCast]
      go_enter Try.func32, Try.ntmps32
      go_wp2_with (go_at_call 42; refine (l1In_any _ _ _ _).mono ?_; rintro e w' ⟨rfl, rfl⟩)
      go_loopw [5, 6] (fun v i wr => ∃ (k : Nat) (A : Option Addr) (c : Nat), k ≤ n ∧ i = .int .i64 k ∧ v = .slice A (k + 1) c ∧ wr.ownsRow w.heap.size 3 1 (.slice A (k + 1) c) (k + 1) ((viewsN first k).map (.int .i64)) ∧ Below w.heap.size w wr) (fun _ i _ => n - (intOf i).toNat)
      case atStart =>
        exact ⟨0, _, _, Nat.zero_le _, rfl, rfl, own_made w #[.int .i64 0] 1 (Nat.le_refl _) (by simp [maxLen]) rfl, (Below.refl _ _).alloc (Nat.le_refl _) _⟩
      case round =>
        obtain ⟨k, A, c, hk, rfl, rfl, hown, hbel⟩ := hrel
        by_cases hlt : k < n
        · obtain ⟨g, rfl, hg1, hg2⟩ := own_addr hown (by omega)
          have hc := own_cell hown k (by simp [viewsN_length])
          rw [List.getElem_map, viewsN_get] at hc
          have hv := vAt_bd first h1 h2 k
          have hw := waitN_bd first h1 h2 k
          have HW := hide (waitF_yes (first := first) (fails := k) h1 h2 (by omega))
          have HV := hide (viewsN_succ first k)
          have hvs : 0 ≤ vAt first k + waitN first k := by omega
          have hvs2 : vAt first k + waitN first k ≤ 4100000 := by omega
          have i1 : (k : Int) < (k : Int) + 1 := by omega
          have hwrap : IntKind.i64.wrap (vAt first k + waitN first k) = vAt first k + waitN first k := Go.IntWalk.i64_in _ (by omega)
          go_wp2
          go_region_held3 (fun w' => w'.cell? ⟨g, k, none⟩ = some (.int .i64 (vAt first k))) (first | exact hk1 | go_keep)
            (first
              | (refine step_app (by rfl) (.tmp 22) (.tmp 31) _ (by rfl) el_int (by rfl) (own_alloc (w := wr.drew) hown (.cells #[.int .i64 (vAt first k + waitN first k)] 3)) (by rfl) (rd_lit wr.drew [.int .i64 (vAt first k + waitN first k)] 3) (by rfl) (one_ints [vAt first k + waitN first k]) (by simp only [maxLen]; omega) (by omega) (by have := hbel.size; simp; omega) ?_; intro A1 c1 w1 o1 ch1 _ r1; have hk1 : w1.cell? ⟨g, k, none⟩ = some (.int .i64 (vAt first k)) := by (obtain ⟨b', off', hA', _, hc'⟩ := r1 (by simp [viewsN_length]); injection hA' with hA'; injection hA' with e1 e2; subst e1; subst e2; have := hc' k (.int .i64 (vAt first k)) (by simp [viewsN]); simpa using this))
              | (go_at_call 17; refine (wait_spec _ _ (by omega) _).mono ?_; rintro e w' ⟨rfl, rfl⟩; rw [unhide HW]; simp only [Int.toNat_natCast]))
          go_wp2
          have hb1 := app_below' (hbel.alloc hbel.size (.cells #[.int .i64 (vAt first k + waitN first k)] 3)).drew (own_alloc hown _) ch1 (Nat.le_refl _)
          have ho1 : w1.ownsRow w.heap.size 3 1 (.slice A1 (k + 1 + 1) c1) (k + 1 + 1) ((viewsN first (k + 1)).map (.int .i64)) := by
            rw [unhide HV, List.map_append]
            exact o1
          go_roundw
          case rel => exact ⟨k + 1, A1, c1, by omega, by go_num, rfl, ho1, hb1⟩
          case measure => simp [intOf]; omega
        · have : k = n := by omega
          subst this
          go_wp2
          go_ret
          refine ⟨A, c, ?_, ?_, hbel⟩
          · rw [viewsN_length]
            rfl
          · rw [viewsN_length]
            exact hown
end Go.Proofs.Ytkbbhbgjanfcoaa
