/- Counters: TakeNumber of impl and spec. -/
import Derived.Test.YthddcinpacaacaaTake
namespace Go.Proofs.Ythddcinpacaacaa
open Go.RowKit
set_option linter.unusedVariables false
set_option linter.unusedSimpArgs false

def tnL (xs : List Int) (n : Nbd) : List Int := if countersB xs then takeL xs n else []
def tnB (xs : List Int) (n : Nbd) : Bool := countersB xs && takeOk xs n
theorem counters_yes {xs : List Int} (h : countersB xs = true) : xs.length = 4 ∧ ∀ x ∈ xs, 0 ≤ x ∧ x ≤ 1000000 := by
  simp only [countersB, Bool.and_eq_true, decide_eq_true_eq, Bool.not_eq_true', List.any_eq_false, Bool.not_eq_true] at h
  exact ⟨h.1, fun x hx => inB_true.1 (by simpa using h.2 x hx)⟩
theorem tn_no {xs : List Int} {n : Nbd} (h : countersB xs = false) : tnL xs n = [] ∧ tnB xs n = false := by simp [tnL, tnB, h]
theorem tn_yes {xs : List Int} {n : Nbd} (h : countersB xs = true) : tnL xs n = takeL xs n ∧ tnB xs n = takeOk xs n := by simp [tnL, tnB, h]
theorem box2 (w : World) (a b : Value) (t : TypeId) : (w.alloc (.cells #[a, b] t)).cell? ⟨w.heap.size, 0, none⟩ = some a ∧ (w.alloc (.cells #[a, b] t)).cell? ⟨w.heap.size, 1, none⟩ = some b := by
  obtain ⟨g, off, e, _, hc⟩ := rd_lit w [a, b] t (by simp)
  injection e with e
  injection e with e1 e2
  subst e1 e2
  exact ⟨hc 0 a rfl, hc 1 b rfl⟩

theorem takeNumber_impl (A : Option Addr) (c : Nat) (xs : List Int) (n : Nbd) (w : World) (h : Rd w A (xs.map (.int .i64))) (hb : xs.length ≤ 4611686018427387904) :
    Calls Try.prog 10 #[.slice A xs.length c, .agg #[.int .i64 n.who, .int .i64 n.num]] w fun e w' => ∃ A' c', e = .returned (.tuple #[.slice A' (tnL xs n).length c', .bool (tnB xs n)]) ∧ w'.ownsRow w.heap.size 3 1 (.slice A' (tnL xs n).length c') (tnL xs n).length ((tnL xs n).map (.int .i64)) ∧ Below w.heap.size w w' := by
  cases hc : countersB xs
  · rw [(tn_no hc).1, (tn_no hc).2]
    go_enter Try.func10, Try.ntmps10
    go_wp2_with fail
    refine (counters_impl A c xs _ (h.alloc _) hb).mono ?_
    rintro e w1 ⟨rfl, rfl⟩
    rw [hc]
    go_wp2
    go_ret2
    exact ⟨none, 0, rfl, own_nil _ _ _ _, (Below.refl _ _).alloc (Nat.le_refl _) _⟩
  · rw [(tn_yes hc).1, (tn_yes hc).2, takeL_len]
    have H4 := hide (counters_yes hc).1
    have HV := hide (counters_yes hc).2
    go_enter Try.func10, Try.ntmps10
    go_wp2_with fail
    refine (counters_impl A c xs _ (h.alloc _) hb).mono ?_
    rintro e w1 ⟨rfl, rfl⟩
    rw [hc]
    go_wp2_with fail
    refine (cloneI_any A c xs _ (h.alloc _) (by have := unhide H4; omega) (by have := unhide H4; omega)).mono ?_
    rintro e w1 ⟨A1, c1, rfl, o1, b1⟩
    obtain ⟨q0, q1⟩ := box2 w (.int .i64 n.who) (.int .i64 n.num) 28
    replace q0 := (b1.cell (p := ⟨w.heap.size, 0, none⟩) (by simp)).trans q0
    replace q1 := (b1.cell (p := ⟨w.heap.size, 1, none⟩) (by simp)).trans q1
    go_wp2_with fail
    refine (take_any A1 c1 _ xs n w1 o1 (unhide H4) (unhide HV)).mono ?_
    rintro e w2 ⟨rfl, o2, ch2⟩
    go_wp2
    go_ret2
    obtain ⟨g, rfl, hg1, hg2⟩ := own_addr o1 (by have := unhide H4; omega)
    simp at hg1
    have hs := b1.size
    simp at hs
    exact ⟨_, c1, rfl, own_base o2 (by simp), (((Below.refl _ _).alloc (Nat.le_refl _) _).trans (b1.mono (by simp))).trans (ch2.below (fun k hk hA => by injection hA with hA; injection hA with hA; omega) (by omega))⟩
set_option maxRecDepth 100000 in
theorem takeNumber_spec (A : Option Addr) (c : Nat) (xs : List Int) (n : Nbd) (w : World) (h : Rd w A (xs.map (.int .i64))) (hb : xs.length ≤ 1099511627776) :
    Calls Try.prog 7 #[.slice A xs.length c, .agg #[.int .i64 n.who, .int .i64 n.num]] w fun e w' => ∃ A' c', e = .returned (.tuple #[.slice A' (tnL xs n).length c', .bool (tnB xs n)]) ∧ w'.ownsRow w.heap.size 3 1 (.slice A' (tnL xs n).length c') (tnL xs n).length ((tnL xs n).map (.int .i64)) ∧ Below w.heap.size w w' := by
  have o0 : ((w.alloc (.cells #[.int .i64 n.who, .int .i64 n.num] 28)).alloc (.cells #[] 3)).ownsRow w.heap.size 3 1 (.slice (some ⟨w.heap.size + 1, 0, none⟩) 0 0) 0 [] := by
    have := own_made (base := w.heap.size) (e := 3) (size := 1) (w.alloc (.cells #[.int .i64 n.who, .int .i64 n.num] 28)) #[] 0 (by simp) (by simp [maxLen]) rfl
    simpa using this
  cases hc : countersB xs
  · rw [(tn_no hc).1, (tn_no hc).2]
    go_enter Try.func7, Try.ntmps7
    go_wp2_with (at_builtin; refine wpList_app rfl (.tmp 7) (.tmp 8) 22 rfl el_int rfl o0 rfl ((h.alloc _).alloc _) (by simp) (one_ints xs) (by simp only [maxLen]; omega) (by omega) (by simp; omega) ?_; intro A1 c1 w1 o1 ch1 d1 _; simp only [Nat.zero_add, List.nil_append] at o1; have b1 := (((Below.refl w.heap.size w).alloc (Nat.le_refl _) _).alloc (by simp) _).trans (ch1.below (fun k hk hA => by injection hA with hA; injection hA with hA; omega) (by simp; omega)); have q0 := ch1.cell (p := ⟨w.heap.size, 0, none⟩) (u := .int .i64 n.who) (by simp) (by simp); have q1 := ch1.cell (p := ⟨w.heap.size, 1, none⟩) (u := .int .i64 n.num) (by simp) (by simp); clear ch1 d1)
    refine (counters_spec _ c xs _ (h.new b1) (by omega)).mono ?_
    rintro e w2 ⟨rfl, rfl⟩
    rw [hc]
    go_wp2
    go_ret2
    exact ⟨_, _, rfl, own_made (base := w.heap.size) w1 #[] 0 b1.size (by simp [maxLen]) rfl, b1.alloc b1.size _⟩
  · rw [(tn_yes hc).1, (tn_yes hc).2, takeL_len]
    have H4 := hide (counters_yes hc).1
    have hl4 : 4 ≤ xs.length := by have := unhide H4; omega
    have HV := hide (counters_yes hc).2
    cases hm : inB n.who 0 3
    · have HO := hide (show takeOk xs n = false by simp [takeOk, hm])
      have HL := hide (show takeL xs n = xs by unfold takeL; rw [unhide HO]; rfl)
      go_enter Try.func7, Try.ntmps7
      go_wp2_with (at_builtin; refine wpList_app rfl (.tmp 7) (.tmp 8) 22 rfl el_int rfl o0 rfl ((h.alloc _).alloc _) (by simp) (one_ints xs) (by simp only [maxLen]; omega) (by omega) (by simp; omega) ?_; intro A1 c1 w1 o1 ch1 d1 _; simp only [Nat.zero_add, List.nil_append] at o1; have b1 := (((Below.refl w.heap.size w).alloc (Nat.le_refl _) _).alloc (by simp) _).trans (ch1.below (fun k hk hA => by injection hA with hA; injection hA with hA; omega) (by simp; omega)); have q0 := ch1.cell (p := ⟨w.heap.size, 0, none⟩) (u := .int .i64 n.who) (by simp) (by simp); have q1 := ch1.cell (p := ⟨w.heap.size, 1, none⟩) (u := .int .i64 n.num) (by simp) (by simp); clear ch1 d1)
      refine (counters_spec _ c xs _ (h.new b1) (by omega)).mono ?_
      rintro e w2 ⟨rfl, rfl⟩
      rw [hc]
      go_wp2
      go_quiet ((go_at_call 29; first | exact quiet_left (l1In_any _ _ _ _) | exact quiet_add_left (l1In_any _ _ _ _)))
      go_wp2
      go_ret2
      rw [unhide HO, unhide HL]
      exact ⟨_, _, rfl, o1, below_drewN b1 _⟩
    · obtain ⟨m1, m2⟩ := inB_true.1 hm
      obtain ⟨i, hi⟩ := Int.eq_ofNat_of_zero_le m1
      have hi3 : i < xs.length := by omega
      have HG := hide (show xs.getD n.who.toNat 0 = xs[i] by rw [hi]; simp [hi3])
      obtain ⟨b, off, rfl, hbb, hcell⟩ := h.int hi3
      obtain ⟨x0, x1⟩ := (unhide HV) _ (List.getElem_mem hi3)
      obtain ⟨x, hx⟩ : ∃ x, x = xs[i] := ⟨_, rfl⟩
      rw [← hx] at hcell HG x0 x1
      have HX := hide hx
      clear hx
      obtain ⟨who, num⟩ := n
      simp only at hi HG hm m1 m2 o0
      subst hi
      have i1 : (i : Int) < (xs.length : Int) := by omega
      by_cases h1 : x = num
      · have g1 : (x != num) = false := by simp [h1]
        by_cases h2 : num = 1000000
        · have g2 : (num == 1000000) = true := by simp [h2]
          have HO := hide (show takeOk xs ⟨i, num⟩ = false by simp [takeOk, h2])
          have HL := hide (show takeL xs ⟨i, num⟩ = xs by unfold takeL; rw [unhide HO]; rfl)
          clear h1 h2
          go_enter Try.func7, Try.ntmps7
          go_wp2_with (at_builtin; refine wpList_app rfl (.tmp 7) (.tmp 8) 22 rfl el_int rfl o0 rfl ((h.alloc _).alloc _) (by simp) (one_ints xs) (by simp only [maxLen]; omega) (by omega) (by simp; omega) ?_; intro A1 c1 w1 o1 ch1 d1 _; simp only [Nat.zero_add, List.nil_append] at o1; have b1 := (((Below.refl w.heap.size w).alloc (Nat.le_refl _) _).alloc (by simp) _).trans (ch1.below (fun k hk hA => by injection hA with hA; injection hA with hA; omega) (by simp; omega)); have q0 := ch1.cell (p := ⟨w.heap.size, 0, none⟩) (u := .int .i64 (i : Int)) (by simp) (by simp); have q1 := ch1.cell (p := ⟨w.heap.size, 1, none⟩) (u := .int .i64 num) (by simp) (by simp); clear ch1 d1)
          refine (counters_spec _ c xs _ (h.new b1) (by omega)).mono ?_
          rintro e w2 ⟨rfl, rfl⟩
          rw [hc]
          replace hcell := (b1.cell (p := ⟨b, off + i, none⟩) hbb).trans hcell
          go_wp2
          go_quiet ((go_at_call 29; first | exact quiet_left (l1In_any _ _ _ _) | exact quiet_add_left (l1In_any _ _ _ _)))
          go_wp2
          go_ret2
          rw [unhide HO, unhide HL]
          exact ⟨_, _, rfl, o1, below_drewN b1 _⟩
        · have g2 : (num == 1000000) = false := by simp [h2]
          subst h1
          have HO := hide (show takeOk xs ⟨i, x⟩ = true by simp only [takeOk, hm, Bool.true_and]; rw [unhide HG]; simpa using h2)
          have HL := hide (show takeL xs ⟨i, x⟩ = xs.set i (x + 1) by unfold takeL; rw [unhide HO]; rfl)
          clear h2
          go_enter Try.func7, Try.ntmps7
          go_wp2_with (at_builtin; refine wpList_app rfl (.tmp 7) (.tmp 8) 22 rfl el_int rfl o0 rfl ((h.alloc _).alloc _) (by simp) (one_ints xs) (by simp only [maxLen]; omega) (by omega) (by simp; omega) ?_; intro A1 c1 w1 o1 ch1 d1 _; simp only [Nat.zero_add, List.nil_append] at o1; have b1 := (((Below.refl w.heap.size w).alloc (Nat.le_refl _) _).alloc (by simp) _).trans (ch1.below (fun k hk hA => by injection hA with hA; injection hA with hA; omega) (by simp; omega)); have q0 := ch1.cell (p := ⟨w.heap.size, 0, none⟩) (u := .int .i64 (i : Int)) (by simp) (by simp); have q1 := ch1.cell (p := ⟨w.heap.size, 1, none⟩) (u := .int .i64 x) (by simp) (by simp); clear ch1 d1)
          refine (counters_spec _ c xs _ (h.new b1) (by omega)).mono ?_
          rintro e w2 ⟨rfl, rfl⟩
          rw [hc]
          replace hcell := (b1.cell (p := ⟨b, off + i, none⟩) hbb).trans hcell
          obtain ⟨g, rfl, hg1, hg2⟩ := own_addr o1 (by omega)
          have hc4 := own_cell o1 i (by simpa using hi3)
          rw [List.getElem_map, ← unhide HX] at hc4
          have hset := own_set o1 i (.int .i64 (x + 1))
          rw [← List.map_set] at hset
          have hfr : w1.frozen? ⟨g, i, none⟩ = false := own_frozen o1 _
          go_wp2
          go_quiet ((go_at_call 29; first | exact quiet_left (l1In_any _ _ _ _) | exact quiet_add_left (l1In_any _ _ _ _)))
          go_wp2
          have P : ∀ m, (w1.drewN m).cell? ⟨w.heap.size, 0, none⟩ = some (.int .i64 (i : Int)) ∧ (w1.drewN m).cell? ⟨w.heap.size, 1, none⟩ = some (.int .i64 x) ∧ (w1.drewN m).cell? ⟨g, i, none⟩ = some (.int .i64 x) ∧ (w1.drewN m).frozen? ⟨g, i, none⟩ = false ∧ ((w1.drewN m).setCell ⟨g, i, none⟩ (.int .i64 (x + 1))).ownsRow w.heap.size 3 1 (.slice (some ⟨g, 0, none⟩) xs.length c1) xs.length ((xs.set i (x + 1)).map (.int .i64)) ∧ Below w.heap.size w (w1.drewN m) := fun m => ⟨q0, q1, hc4, hfr, hset, below_drewN b1 m⟩
          clear q0 q1 hc4 hfr hset o1 hcell
          obtain ⟨q0, q1, hc4, hfr, hset, b2⟩ := P nq
          clear P b1
          generalize w1.drewN nq = wq at *
          have b3 := b2.drew
          go_still_tail 10, (by kernel_rfl)
          change wpList _ _ _ _ _ wq.drew
          go_wp2
          go_ret2
          rw [unhide HO, unhide HL]
          exact ⟨_, _, rfl, hset, b3.setCell hg1 _⟩
      · have g1 : (x != num) = true := by simp [h1]
        have HO := hide (show takeOk xs ⟨i, num⟩ = false by simp only [takeOk, hm, Bool.true_and]; rw [unhide HG]; simp [h1])
        have HL := hide (show takeL xs ⟨i, num⟩ = xs by unfold takeL; rw [unhide HO]; rfl)
        clear h1
        go_enter Try.func7, Try.ntmps7
        go_wp2_with (at_builtin; refine wpList_app rfl (.tmp 7) (.tmp 8) 22 rfl el_int rfl o0 rfl ((h.alloc _).alloc _) (by simp) (one_ints xs) (by simp only [maxLen]; omega) (by omega) (by simp; omega) ?_; intro A1 c1 w1 o1 ch1 d1 _; simp only [Nat.zero_add, List.nil_append] at o1; have b1 := (((Below.refl w.heap.size w).alloc (Nat.le_refl _) _).alloc (by simp) _).trans (ch1.below (fun k hk hA => by injection hA with hA; injection hA with hA; omega) (by simp; omega)); have q0 := ch1.cell (p := ⟨w.heap.size, 0, none⟩) (u := .int .i64 (i : Int)) (by simp) (by simp); have q1 := ch1.cell (p := ⟨w.heap.size, 1, none⟩) (u := .int .i64 num) (by simp) (by simp); clear ch1 d1)
        refine (counters_spec _ c xs _ (h.new b1) (by omega)).mono ?_
        rintro e w2 ⟨rfl, rfl⟩
        rw [hc]
        replace hcell := (b1.cell (p := ⟨b, off + i, none⟩) hbb).trans hcell
        go_wp2
        go_quiet ((go_at_call 29; first | exact quiet_left (l1In_any _ _ _ _) | exact quiet_add_left (l1In_any _ _ _ _)))
        go_wp2
        go_ret2
        rw [unhide HO, unhide HL]
        exact ⟨_, _, rfl, o1, below_drewN b1 _⟩
end Go.Proofs.Ythddcinpacaacaa
