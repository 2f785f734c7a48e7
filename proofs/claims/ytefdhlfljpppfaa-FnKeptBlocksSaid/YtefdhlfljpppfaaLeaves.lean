/- Leaves of trees, of both sides; a block before another one; a number in a list. -/
import Derived.Test.YtefdhlfljpppfaaGtree
import Derived.Test.YtefdhlfljpppfaaBTreeS
namespace Go.Proofs.Ytefdhlfljpppfaa
open Go.RowKit
set_option linter.unusedVariables false
set_option linter.unusedSimpArgs false

def beforeB (t : Tr) (a b : Int) : Bool := decide (a ∈ pathS t b)
set_option maxHeartbeats 1000000 in
theorem hasKey_any (A : Option Addr) (c : Nat) (xs : List Int) (z : Int) (w : World) (h : Rd w A (xs.map (.int .i64))) (hb : xs.length ≤ 4611686018427387904) :
    Calls Try.prog 13 #[.slice A xs.length c, .int .i64 z] w fun e w' => e = .returned (.bool (decide (z ∈ xs))) ∧ w = w' := by
  go_enter Try.func13, Try.ntmps13
  go_wp2
  go_loop [5] (fun i => ∃ k : Nat, k ≤ xs.length ∧ i = .int .i64 k ∧ Hid (z ∉ xs.take k)) (fun i => xs.length - (intOf i).toNat)
  case atStart => exact ⟨0, Nat.zero_le _, rfl, hide (by simp)⟩
  case round =>
    obtain ⟨k, hk, rfl, HN⟩ := hrel
    by_cases hlt : k < xs.length
    · obtain ⟨b, off, rfl, hbb, d0⟩ := h.int hlt
      have i1 : (k : Int) < (xs.length : Int) := by omega
      have HT := hide (List.take_succ_eq_append_getElem hlt)
      have HM := hide (List.getElem_mem hlt)
      generalize xs[k] = y at *
      by_cases he : y = z
      · have he2 : (y == z) = true := by simpa using he
        have HR := hide (show decide (z ∈ xs) = true by rw [← he]; exact decide_eq_true (unhide HM))
        clear he
        go_wp2
        go_ret
        exact ⟨retb (unhide HR).symm, rfl⟩
      · have he2 : (y == z) = false := by simpa using he
        have HN2 := hide (show z ∉ xs.take (k + 1) by
          rw [unhide HT, List.mem_append, List.mem_singleton]
          rintro (h | h)
          · exact unhide HN h
          · exact he h.symm)
        clear he
        go_wp2
        go_round
        case rel => exact ⟨k + 1, by omega, by go_num, HN2⟩
        case measure => simp [intOf]; omega
    · obtain rfl : k = xs.length := by omega
      have HR := hide (show decide (z ∈ xs) = false by
        have h1 := unhide HN
        rw [List.take_length] at h1
        exact decide_eq_false h1)
      go_wp2
      go_ret
      exact ⟨retb (unhide HR).symm, rfl⟩
set_option maxRecDepth 100000 in
set_option maxHeartbeats 4000000 in
theorem isBefore_impl (t : Tr) (A1 : Option Addr) (c1 : Nat) (A2 : Option Addr) (c2 : Nat) (A3 : Option Addr) (c3 : Nat) (a b : Int) (w : World) (h : TrR w t A1 A2 A3) (hb1 : t.base.length ≤ 1099511627776) (hb2 : t.blocks.length ≤ 1099511627776) (hbs : ∀ x ∈ t.blocks, x.list.length ≤ 1099511627776) (hb3 : t.before.length ≤ 1099511627776) :
    Calls Try.prog 12 #[.agg (trA t A1 c1 A2 c2 A3 c3), .int .i64 a, .int .i64 b] w fun e w' => e = .returned (.bool (beforeB t a b)) ∧ Below w.heap.size w w' := by
  have hb0 : Below w.heap.size w (w.alloc (.cells (trA t A1 c1 A2 c2 A3 c3) 27)) := (Below.refl _ _).alloc (Nat.le_refl _) _
  have k0 := Blk.new w 27 (trA t A1 c1 A2 c2 A3 c3)
  have HR := hide (fun w' (hb : Below w.heap.size w w') => h.new hb)
  have KV := treeValid_impl t A1 c1 A2 c2 A3 c3 _ (h.new hb0) hb1 hb2 hbs hb3
  have HKA := hide (fun w' => has_impl t A1 c1 A2 c2 A3 c3 a w' hb2)
  have HKB := hide (fun w' => has_impl t A1 c1 A2 c2 A3 c3 b w' hb2)
  have HKP := hide (fun w' (hb : Below w.heap.size w w') => path_impl t A1 c1 A2 c2 A3 c3 b w' (h.new hb))
  simp only [trA] at KV HKA HKB HKP hb0 k0 ⊢
  have x0 : (w.alloc (.cells #[.slice A1 t.base.length c1, .slice A2 t.blocks.length c2, .slice A3 t.before.length c3] 27)).cell? ⟨w.heap.size, 0, none⟩ = some (.slice A1 t.base.length c1) := k0.cell 0
  have x1 : (w.alloc (.cells #[.slice A1 t.base.length c1, .slice A2 t.blocks.length c2, .slice A3 t.before.length c3] 27)).cell? ⟨w.heap.size, 1, none⟩ = some (.slice A2 t.blocks.length c2) := k0.cell 1
  have x2 : (w.alloc (.cells #[.slice A1 t.base.length c1, .slice A2 t.blocks.length c2, .slice A3 t.before.length c3] 27)).cell? ⟨w.heap.size, 2, none⟩ = some (.slice A3 t.before.length c3) := k0.cell 2
  clear hbs h
  go_enter Try.func12, Try.ntmps12
  go_wp2_with fail
  refine KV.mono ?_
  rintro e w1 ⟨rfl, b1⟩
  replace k0 := k0.new_ b1
  replace hb0 := bthen hb0 b1
  clear KV x0 x1 x2 b1
  have x0 : w1.cell? ⟨w.heap.size, 0, none⟩ = some (.slice A1 t.base.length c1) := k0.cell 0
  have x1 : w1.cell? ⟨w.heap.size, 1, none⟩ = some (.slice A2 t.blocks.length c2) := k0.cell 1
  have x2 : w1.cell? ⟨w.heap.size, 2, none⟩ = some (.slice A3 t.before.length c3) := k0.cell 2
  cases hv : treeB t
  · have HF := hide (show false = beforeB t a b by simp [beforeB, pathS, hv])
    clear hv
    go_wp2
    go_ret
    exact ⟨retb (unhide HF), hb0⟩
  have HV := hide hv
  go_wp2_with fail
  refine (unhide HKA w1).mono ?_
  rintro e w2 ⟨rfl, b2⟩
  replace k0 := k0.new_ b2
  replace hb0 := bthen hb0 b2
  clear x0 x1 x2 b2
  have x0 : w2.cell? ⟨w.heap.size, 0, none⟩ = some (.slice A1 t.base.length c1) := k0.cell 0
  have x1 : w2.cell? ⟨w.heap.size, 1, none⟩ = some (.slice A2 t.blocks.length c2) := k0.cell 1
  have x2 : w2.cell? ⟨w.heap.size, 2, none⟩ = some (.slice A3 t.before.length c3) := k0.cell 2
  cases ha : inB a 0 ((t.blocks.length : Int) - 1)
  · have HF := hide (show false = beforeB t a b by
      refine (decide_eq_false fun hm => ?_).symm
      have := (pathS_mem hm).2
      have := inB_false.1 ha
      omega)
    clear hv ha
    go_wp2
    go_ret
    exact ⟨retb (unhide HF), hb0⟩
  clear ha
  go_wp2_with fail
  refine (unhide HKB w2).mono ?_
  rintro e w3 ⟨rfl, b3⟩
  replace k0 := k0.new_ b3
  replace hb0 := bthen hb0 b3
  clear x0 x1 x2 b3
  have x0 : w3.cell? ⟨w.heap.size, 0, none⟩ = some (.slice A1 t.base.length c1) := k0.cell 0
  have x1 : w3.cell? ⟨w.heap.size, 1, none⟩ = some (.slice A2 t.blocks.length c2) := k0.cell 1
  have x2 : w3.cell? ⟨w.heap.size, 2, none⟩ = some (.slice A3 t.before.length c3) := k0.cell 2
  cases hbi : inB b 0 ((t.blocks.length : Int) - 1)
  · have HF := hide (show false = beforeB t a b by
      refine (decide_eq_false fun hm => ?_).symm
      rw [pathS, if_pos (unhide HV)] at hm
      have := path_ne hm
      have := inB_false.1 hbi
      omega)
    clear hv hbi
    go_wp2
    go_ret
    exact ⟨retb (unhide HF), hb0⟩
  have hbr := inB_true.1 hbi
  clear hbi hv
  go_wp2_with fail
  refine (unhide HKP w3 hb0 (unhide HV) (by omega) (by omega)).mono ?_
  rintro e w4 ⟨AP, cp, rfl, o4, b4⟩
  have hpl := pathT_len t b
  have rp := own_rd o4
  have hb4 := bthen hb0 b4
  have HF := hide (show decide (a ∈ pathT t b) = beforeB t a b by rw [beforeB, pathS, if_pos (unhide HV)])
  clear x0 x1 x2 o4
  generalize pathT t b = ps at *
  go_wp2_with fail
  refine (containsI_any AP cp ps a w4 rp (by omega)).mono ?_
  rintro e w5 ⟨rfl, rfl⟩
  go_wp2
  go_ret
  exact ⟨retb (unhide HF), hb4⟩
set_option maxRecDepth 100000 in
set_option maxHeartbeats 4000000 in
theorem leavesOf_impl (t : Tr) (A1 : Option Addr) (c1 : Nat) (A2 : Option Addr) (c2 : Nat) (A3 : Option Addr) (c3 : Nat) (w : World) (h : TrR w t A1 A2 A3) (hb1 : t.base.length ≤ 1099511627776) (hb2 : t.blocks.length ≤ 1099511627776) (hbs : ∀ x ∈ t.blocks, x.list.length ≤ 1099511627776) (hb3 : t.before.length ≤ 1099511627776) :
    Calls Try.prog 7 #[.agg (trA t A1 c1 A2 c2 A3 c3)] w fun e w' => ∃ A' c', e = .returned (.slice A' (leavesL t).length c') ∧ w'.ownsRow w.heap.size 3 1 (.slice A' (leavesL t).length c') (leavesL t).length ((leavesL t).map (.int .i64)) ∧ Below w.heap.size w w' := by
  have hb0 : Below w.heap.size w (w.alloc (.cells (trA t A1 c1 A2 c2 A3 c3) 27)) := (Below.refl _ _).alloc (Nat.le_refl _) _
  have k0 := Blk.new w 27 (trA t A1 c1 A2 c2 A3 c3)
  have HR := hide (fun w' (hb : Below w.heap.size w w') => h.new hb)
  have KV := treeValid_impl t A1 c1 A2 c2 A3 c3 _ (h.new hb0) hb1 hb2 hbs hb3
  simp only [trA] at KV hb0 k0 ⊢
  have x0 : (w.alloc (.cells #[.slice A1 t.base.length c1, .slice A2 t.blocks.length c2, .slice A3 t.before.length c3] 27)).cell? ⟨w.heap.size, 0, none⟩ = some (.slice A1 t.base.length c1) := k0.cell 0
  have x1 : (w.alloc (.cells #[.slice A1 t.base.length c1, .slice A2 t.blocks.length c2, .slice A3 t.before.length c3] 27)).cell? ⟨w.heap.size, 1, none⟩ = some (.slice A2 t.blocks.length c2) := k0.cell 1
  have x2 : (w.alloc (.cells #[.slice A1 t.base.length c1, .slice A2 t.blocks.length c2, .slice A3 t.before.length c3] 27)).cell? ⟨w.heap.size, 2, none⟩ = some (.slice A3 t.before.length c3) := k0.cell 2
  clear hbs h
  go_enter Try.func7, Try.ntmps7
  go_wp2_with fail
  refine KV.mono ?_
  rintro e w1 ⟨rfl, b1⟩
  replace k0 := k0.new_ b1
  replace hb0 := bthen hb0 b1
  clear KV x0 x1 x2 b1
  have x1 : w1.cell? ⟨w.heap.size, 1, none⟩ = some (.slice A2 t.blocks.length c2) := k0.cell 1
  cases hv : treeB t
  · have HF := hide (leavesL_no hv)
    clear hv
    go_wp2
    go_ret
    rw [unhide HF]
    exact ⟨none, 0, rfl, own_nil _ _ _ _, hb0⟩
  have HF := hide (leavesL_yes hv)
  have HV := hide hv
  clear hv
  have hsz := hb0.size
  go_wp2
  clear x1
  go_loopw [3, 4, 11] (fun s _ i wr => ∃ (k : Nat) (A' : Option Addr) (c' : Nat), k ≤ t.blocks.length ∧ i = .int .i64 k ∧ s = .slice A' (leavesGo t k).length c' ∧ wr.ownsRow w.heap.size 3 1 (.slice A' (leavesGo t k).length c') (leavesGo t k).length ((leavesGo t k).map (.int .i64)) ∧ Below w.heap.size w wr ∧ Blk wr w.heap.size 27 #[.slice A1 t.base.length c1, .slice A2 t.blocks.length c2, .slice A3 t.before.length c3] ∧ (∀ q, A' = some ⟨q, 0, none⟩ → q ≠ w.heap.size)) (fun _ _ i _ => t.blocks.length - (intOf i).toNat)
  case atStart => exact ⟨0, none, 0, Nat.zero_le _, rfl, rfl, own_nil _ _ _ _, hb0, k0, fun q e => nomatch e⟩
  case round =>
    clear k0 hb0
    obtain ⟨k, A', c', hk, rfl, rfl, hown, hB, k0, hne⟩ := hrel
    have hszr := hB.size
    have hgl := leavesGo_len t k
    by_cases hlt : k < t.blocks.length
    · have i1 : (k : Int) < (t.blocks.length : Int) := by omega
      have x2 : wr.cell? ⟨w.heap.size, 2, none⟩ = some (.slice A3 t.before.length c3) := k0.cell 2
      have hr := (unhide HR wr hB).b3
      go_wp2_with fail
      refine (containsI_any A3 c3 t.before (k : Int) wr hr (by omega)).mono ?_
      rintro e w5 ⟨rfl, rfl⟩
      by_cases hm : (k : Int) ∈ t.before
      · have hd : decide ((k : Int) ∈ t.before) = true := decide_eq_true hm
        have HG := hide (show leavesGo t (k + 1) = leavesGo t k by rw [leavesGo, if_pos hm])
        clear hm
        go_wp2
        go_roundw
        case rel => exact ⟨k + 1, A', c', by omega, by go_num, by rw [unhide HG], by rw [unhide HG]; exact hown, hB, k0, hne⟩
        case measure => simp [intOf]; omega
      · have hd : decide ((k : Int) ∈ t.before) = false := decide_eq_false hm
        have HG := hide (show leavesGo t (k + 1) = leavesGo t k ++ [(k : Int)] by rw [leavesGo, if_neg hm])
        clear hm
        go_wp2_with (at_builtin; refine wpList_app rfl (.tmp 19) (.tmp 21) 25 rfl el_int rfl (own_alloc hown _) rfl (rd_lit wr [.int .i64 (k : Int)] _) rfl (one_ints [(k : Int)]) (by simp only [maxLen]; omega) (by omega) (by simp; omega) ?_; intro A7 c7 w7 o7 ch7 d7 _)
        have k7 := (k0.alloc (.cells #[.int .i64 (k : Int)] 3)).chg ch7 (fun e => hne _ e rfl)
        have hB7 := app_below hB hown ch7 (Nat.le_refl _)
        have hne7 : ∀ q, A7 = some ⟨q, 0, none⟩ → q ≠ w.heap.size := fun q hq => by
          rcases d7 with rfl | ⟨rfl, _⟩
          · exact hne q hq
          · injection hq with hq; injection hq with hq; simp at hq; omega
        go_roundw
        case rel => exact ⟨k + 1, A7, c7, by omega, by go_num, by rw [unhide HG]; simp, by rw [unhide HG]; simpa using o7, hB7, k7, hne7⟩
        case measure => simp [intOf]; omega
    · obtain rfl : k = t.blocks.length := by omega
      go_wp2
      go_ret
      rw [unhide HF]
      exact ⟨A', c', rfl, hown, hB⟩
theorem notAny_succ (xs : List Int) (n : Int) (k : Nat) (hk : k < xs.length) : (!decide (n ∈ xs.take (k + 1))) = (!decide (n ∈ xs.take k) && !(xs[k] == n)) := by
  have h : n ∈ xs.take (k + 1) ↔ (n ∈ xs.take k ∨ n = xs[k]) := by
    rw [List.take_succ_eq_append_getElem hk]
    exact List.mem_append.trans (or_congr Iff.rfl List.mem_singleton)
  by_cases h1 : n ∈ xs.take k
  · rw [decide_eq_true (h.2 (.inl h1)), decide_eq_true h1]; rfl
  · by_cases h2 : n = xs[k]
    · rw [decide_eq_true (h.2 (.inr h2)), decide_eq_false h1, ← h2]; simp
    · rw [decide_eq_false (fun e => (h.1 e).elim h1 h2), decide_eq_false h1]
      have : (xs[k] == n) = false := by simpa using fun e => h2 e.symm
      rw [this]; rfl
set_option maxRecDepth 100000 in
set_option maxHeartbeats 4000000 in
theorem leavesOf_spec (t : Tr) (A1 : Option Addr) (c1 : Nat) (A2 : Option Addr) (c2 : Nat) (A3 : Option Addr) (c3 : Nat) (w : World) (h : TrR w t A1 A2 A3) (hb1 : t.base.length ≤ 1099511627776) (hb2 : t.blocks.length ≤ 1099511627776) (hbs : ∀ x ∈ t.blocks, x.list.length ≤ 1099511627776) (hb3 : t.before.length ≤ 1099511627776) :
    Calls Try.prog 9 #[.agg (trA t A1 c1 A2 c2 A3 c3)] w fun e w' => ∃ A' c', e = .returned (.slice A' (leavesL t).length c') ∧ w'.ownsRow w.heap.size 3 1 (.slice A' (leavesL t).length c') (leavesL t).length ((leavesL t).map (.int .i64)) ∧ Below w.heap.size w w' := by
  have hb0 : Below w.heap.size w (w.alloc (.cells (trA t A1 c1 A2 c2 A3 c3) 27)) := (Below.refl _ _).alloc (Nat.le_refl _) _
  have k0 := Blk.new w 27 (trA t A1 c1 A2 c2 A3 c3)
  have HR := hide (fun w' (hb : Below w.heap.size w w') => h.new hb)
  have HKV := hide (fun w' (hb : Below w.heap.size w w') => treeValid_spec t A1 c1 A2 c2 A3 c3 w' (h.new hb) hb1 hb2 hbs hb3)
  simp only [trA] at HKV hb0 k0 ⊢
  clear hbs h
  have oe := own_made (base := w.heap.size) (e := 3) (size := 1) (w.alloc (.cells #[.slice A1 t.base.length c1, .slice A2 t.blocks.length c2, .slice A3 t.before.length c3] 27)) #[] 0 (by simp) (by simp [maxLen]) rfl
  have k1 := k0.alloc (.cells #[] 3)
  have hb1' := hb0.alloc (by simp) (.cells #[] 3)
  clear k0 hb0
  go_enter Try.func9, Try.ntmps9
  go_wp2
  go_loopw [3, 4, 5, 6] (fun s i _ _ wr => ∃ (k : Nat) (A' : Option Addr) (c' : Nat), k ≤ t.blocks.length ∧ i = .int .i64 k ∧ Hid (k ≠ 0 → treeB t = true) ∧ s = .slice A' (leavesGo t k).length c' ∧ wr.ownsRow w.heap.size 3 1 (.slice A' (leavesGo t k).length c') (leavesGo t k).length ((leavesGo t k).map (.int .i64)) ∧ Below w.heap.size w wr ∧ Blk wr w.heap.size 27 #[.slice A1 t.base.length c1, .slice A2 t.blocks.length c2, .slice A3 t.before.length c3] ∧ (∀ q, A' = some ⟨q, 0, none⟩ → q ≠ w.heap.size)) (fun _ i _ _ _ => t.blocks.length - (intOf i).toNat)
  case atStart => exact ⟨0, some ⟨w.heap.size + 1, 0, none⟩, 0, Nat.zero_le _, rfl, hide (fun h => absurd rfl h), rfl, by simpa [leavesGo] using oe, hb1', k1, fun q e => by injection e with e; injection e with e; omega⟩
  case round =>
    clear k1 hb1' oe
    obtain ⟨k, A', c', hk, rfl, HKZ, rfl, hown, hB, k0, hne⟩ := hrel
    have hszr := hB.size
    have hgl := leavesGo_len t k
    have x0 : wr.cell? ⟨w.heap.size, 0, none⟩ = some (.slice A1 t.base.length c1) := k0.cell 0
    have x1 : wr.cell? ⟨w.heap.size, 1, none⟩ = some (.slice A2 t.blocks.length c2) := k0.cell 1
    have x2 : wr.cell? ⟨w.heap.size, 2, none⟩ = some (.slice A3 t.before.length c3) := k0.cell 2
    obtain ⟨wo, rfl⟩ : ∃ wo, wo = wr := ⟨_, rfl⟩
    go_wp2_with fail
    refine (unhide HKV wo hB).mono ?_
    rintro e w1 ⟨rfl, b1⟩
    have hB1 := bthen hB b1
    have k1 := k0.new_ b1
    have o1 := own_new hown b1
    clear x0 x1 x2 hB k0 hown b1
    cases hv : treeB t
    · have hk0 : k = 0 := by
        by_cases h : k = 0
        · exact h
        · rw [unhide HKZ h] at hv; cases hv
      subst hk0
      have HF := hide (leavesL_no hv)
      clear hv
      go_wp2
      go_ret
      rw [unhide HF]
      exact ⟨A', c', rfl, o1, hB1⟩
    have HF := hide (leavesL_yes hv)
    have HV := hide hv
    clear hv
    have x1 : w1.cell? ⟨w.heap.size, 1, none⟩ = some (.slice A2 t.blocks.length c2) := k1.cell 1
    by_cases hlt : k < t.blocks.length
    · have i1 : (k : Int) < (t.blocks.length : Int) := by omega
      have hr := (unhide HR w1 hB1).b3
      have x2 : w1.cell? ⟨w.heap.size, 2, none⟩ = some (.slice A3 t.before.length c3) := k1.cell 2
      go_wp2
      go_loop [5, 6] (fun b i => ∃ (j : Nat), j ≤ t.before.length ∧ i = .int .i64 j ∧ b = .bool (!decide ((k : Int) ∈ t.before.take j))) (fun _ i => t.before.length - (intOf i).toNat)
      case atStart => exact ⟨0, Nat.zero_le _, rfl, by simp⟩
      case round =>
        obtain ⟨j, hj, rfl, rfl⟩ := hrel
        by_cases hjl : j < t.before.length
        · have i2 : (j : Int) < (t.before.length : Int) := by omega
          obtain ⟨b, off, hA3, hbb, d0⟩ := hr.int hjl
          have HS := hide (notAny_succ t.before (k : Int) j hjl)
          rw [hA3] at x2
          have HA3 := hide hA3
          clear hA3
          generalize t.before[j] = y at *
          generalize (!decide ((k : Int) ∈ t.before.take j)) = bb at *
          cases bb
          · go_wp2
            go_round
            case rel => exact ⟨j + 1, by omega, by go_num, by rw [unhide HS]; rfl⟩
            case measure => simp [intOf]; omega
          · go_wp2
            go_round
            case rel => exact ⟨j + 1, by omega, by go_num, by rw [unhide HS]; simp [bne]⟩
            case measure => simp [intOf]; omega
        · obtain rfl : j = t.before.length := by omega
          rw [List.take_length]
          by_cases hm : (k : Int) ∈ t.before
          · have hd : decide ((k : Int) ∈ t.before) = true := decide_eq_true hm
            rw [hd]
            have HG := hide (show leavesGo t (k + 1) = leavesGo t k by rw [leavesGo, if_pos hm])
            have HK2 := hide (fun (_ : k + 1 ≠ 0) => unhide HV)
            clear hm
            go_wp2
            go_roundw
            case rel => exact ⟨k + 1, A', c', by omega, by go_num, HK2, by rw [unhide HG], by rw [unhide HG]; exact o1, hB1, k1, hne⟩
            case measure => simp [intOf]; omega
          · have hd : decide ((k : Int) ∈ t.before) = false := decide_eq_false hm
            rw [hd]
            have HG := hide (show leavesGo t (k + 1) = leavesGo t k ++ [(k : Int)] by rw [leavesGo, if_neg hm])
            have HK2 := hide (fun (_ : k + 1 ≠ 0) => unhide HV)
            clear hm
            go_wp2_with (at_builtin; refine wpList_app rfl (.tmp 37) (.tmp 39) 25 rfl el_int rfl (own_alloc o1 _) rfl (rd_lit w1 [.int .i64 (k : Int)] _) rfl (one_ints [(k : Int)]) (by simp only [maxLen]; omega) (by omega) (by have := hB1.size; simp; omega) ?_; intro A7 c7 w7 o7 ch7 d7 _)
            have k7 := (k1.alloc (.cells #[.int .i64 (k : Int)] 3)).chg ch7 (fun e => hne _ e rfl)
            have hB7 := app_below hB1 o1 ch7 (Nat.le_refl _)
            have hne7 : ∀ q, A7 = some ⟨q, 0, none⟩ → q ≠ w.heap.size := fun q hq => by
              rcases d7 with rfl | ⟨rfl, _⟩
              · exact hne q hq
              · have := hB1.size; injection hq with hq; injection hq with hq; simp at hq; omega
            go_roundw
            case rel => exact ⟨k + 1, A7, c7, by omega, by go_num, HK2, by rw [unhide HG]; simp, by rw [unhide HG]; simpa using o7, hB7, k7, hne7⟩
            case measure => simp [intOf]; omega
    · obtain rfl : k = t.blocks.length := by omega
      go_wp2
      go_ret
      rw [unhide HF]
      exact ⟨A', c', rfl, o1, hB1⟩
end Go.Proofs.Ytefdhlfljpppfaa
