/- Stores of the reference: what a key has, a value for a key. -/
import Derived.Test.YtefdhlfljpppfaaGreatEnt
import Derived.Test.YtefdhlfljpppfaaGreatViews
namespace Go.Proofs.YtefdhlfljpppfaaGreat
open Go.RowKit
set_option linter.unusedVariables false
set_option linter.unusedSimpArgs false

theorem ent_info : (Tryz.prog.info? 85).map (fun i => (i.zero, i.size, i.bytes)) = some (some (.agg #[.int .i64 0, .int .i64 0]), 2, 16) := by kernel_rfl
theorem el_ent : El Tryz.prog 23 85 2 16 := El.mk_ Tryz.underlying23 ent_info rfl (by omega)
theorem one_ents (es : List Ent) : ∀ u ∈ es.flatMap encE, u.oneCell' = true := by
  intro u hu
  obtain ⟨e, _, h⟩ := List.mem_flatMap.1 hu
  simp [encE] at h
  rcases h with rfl | rfl <;> rfl
theorem snoc_ents (gs : List Ent) (k v : Int) : gs.flatMap encE ++ [.int .i64 k, .int .i64 v] = (gs ++ [(⟨k, v⟩ : Ent)]).flatMap encE := by simp [encE]

/-- the value of a key: the first entry's that has it -/
def atL : List Ent → Int → Int
  | [], _ => 0
  | e :: es, key => if e.k = key then e.v else atL es key
def putGo (key value : Int) : Bool → List Ent → List Ent
  | pl, [] => if pl then [] else [⟨key, value⟩]
  | pl, e :: es => (if pl = false ∧ key ≤ e.k then [⟨key, value⟩] else []) ++ ((if e.k = key then [] else [e]) ++ putGo key value (pl || decide (key ≤ e.k)) es)
def putL (s : List Ent) (key value : Int) : List Ent := putGo key value (value == 0) s

theorem l2At_any (A : Option Addr) (c : Nat) (es : List Ent) (key : Int) (w : World) (h : Rd w A (es.flatMap encE)) (hb : es.length ≤ 4611686018427387904) :
    Calls Tryz.prog 43 #[.slice A es.length c, .int .i64 key] w fun e w' => e = .returned (.int .i64 (atL es key)) ∧ w = w' := by
  go_enter Tryz.func43, Tryz.ntmps43
  go_wp2
  go_loop [5] (fun i => ∃ k : Nat, k ≤ es.length ∧ i = .int .i64 k ∧ atL es key = atL (es.drop k) key) (fun i => es.length - (intOf i).toNat)
  case atStart => exact ⟨0, Nat.zero_le _, rfl, rfl⟩
  case round =>
    obtain ⟨k, hk, rfl, hat⟩ := hrel
    by_cases hlt : k < es.length
    · obtain ⟨b, off, rfl, hbb, hc1, hc2⟩ := h.ent hlt
      rw [drop_get es k hlt, atL] at hat
      generalize hek : es[k] = ek at *
      clear hek
      by_cases he : ek.k = key
      · have g : (ek.k == key) = true := by simp [he]
        rw [if_pos he] at hat
        have HA := hide hat
        clear hat he
        go_wp2
        go_ret
        exact ⟨reti (unhide HA).symm, rfl⟩
      · have g : (ek.k == key) = false := by simp [he]
        rw [if_neg he] at hat
        have HA := hide hat
        clear hat he
        go_wp2
        go_round
        case rel => exact ⟨k + 1, by omega, by go_num, unhide HA⟩
        case measure => simp [intOf]; omega
    · have hat' : atL es key = 0 := by rw [hat, List.drop_of_length_le (by omega)]; rfl
      clear hat
      have HA := hide hat'
      clear hat'
      go_wp2
      go_ret
      exact ⟨reti (unhide HA).symm, rfl⟩
theorem l2Put_any (A : Option Addr) (c : Nat) (es : List Ent) (key value : Int) (w : World) (h : Rd w A (es.flatMap encE)) (hb : es.length ≤ 1099511627776) :
    Calls Tryz.prog 134 #[.slice A es.length c, .int .i64 key, .int .i64 value] w fun e w' => ∃ A' c', e = .returned (.slice A' (putL es key value).length c') ∧ w'.ownsRow w.heap.size 85 2 (.slice A' (putL es key value).length c') (putL es key value).length ((putL es key value).flatMap encE) ∧ Below w.heap.size w w' := by
  go_enter Tryz.func134, Tryz.ntmps134
  go_wp2
  go_loopw [7, 8, 9] (fun v pl i wr => ∃ (k : Nat) (b : Bool) (gs : List Ent) (A' : Option Addr) (c' : Nat), k ≤ es.length ∧ i = .int .i64 k ∧ pl = .bool b ∧ v = .slice A' gs.length c' ∧ gs.length ≤ k + b.toNat ∧
      putL es key value = gs ++ putGo key value b (es.drop k) ∧ wr.ownsRow w.heap.size 85 2 (.slice A' gs.length c') gs.length (gs.flatMap encE) ∧ Below w.heap.size w wr) (fun _ _ i _ => es.length - (intOf i).toNat)
  case atStart => exact ⟨0, _, [], _, _, Nat.zero_le _, rfl, rfl, rfl, by simp, rfl, own_made w #[] 0 (Nat.le_refl _) (by simp [maxLen]) rfl, (Below.refl _ _).alloc (Nat.le_refl _) _⟩
  case round =>
    obtain ⟨k, pl, gs, A', c', hk, rfl, rfl, rfl, hgl, hput, hown, hbel⟩ := hrel
    have hbt : pl.toNat ≤ 1 := by cases pl <;> simp
    by_cases hlt : k < es.length
    · obtain ⟨b, off, rfl, hbb, hc1, hc2⟩ := h.ent hlt
      rw [drop_get es k hlt, putGo] at hput
      generalize hek : es[k] = ek at *
      clear hek
      have HC := hide (show ∀ W, Below w.heap.size w W → W.cell? ⟨b, off + k * 2, none⟩ = some (.int .i64 ek.k) ∧ W.cell? ⟨b, off + k * 2 + 1, none⟩ = some (.int .i64 ek.v) from fun W hb => ⟨(hb.cell (p := ⟨b, off + k * 2, none⟩) hbb).trans hc1, (hb.cell (p := ⟨b, off + k * 2 + 1, none⟩) hbb).trans hc2⟩)
      clear hc1 hc2
      have c1 := (unhide HC wr hbel).1
      have c2 := (unhide HC wr hbel).2
      by_cases h1 : pl = false ∧ key ≤ ek.k
      · obtain ⟨rfl, h1⟩ := h1
        simp only [Bool.toNat_false, Nat.add_zero] at hgl
        have g1 : decide (key ≤ ek.k) = true := by simpa using h1
        simp only [h1, and_self, if_true, g1, Bool.or_true] at hput
        by_cases h2 : ek.k = key
        · have g2 : (ek.k != key) = false := by simp [h2]
          simp only [h2, if_true, List.nil_append] at hput
          rw [← List.append_assoc] at hput
          have HP := hide hput
          clear hput h2
          go_wp2_with (at_builtin; refine wpList_app rfl (.tmp 30) (.tmp 34) 23 rfl el_ent rfl (own_alloc hown _) rfl (rd_lit wr [.int .i64 key, .int .i64 value] _) rfl (one_ents [⟨key, value⟩]) (by simp only [maxLen]; omega) (by omega) (by have := hbel.size; simp; omega) ?_; intro A1 c1 w1 o1 ch1 _ _; rw [snoc_ents] at o1; have hb1 := app_below hbel hown ch1 (Nat.le_refl _); have d1 := (unhide HC w1 hb1).1; have d2 := (unhide HC w1 hb1).2; have o1' : w1.ownsRow w.heap.size 85 2 (.slice A1 (gs ++ [(⟨key, value⟩ : Ent)]).length c1) (gs ++ [(⟨key, value⟩ : Ent)]).length ((gs ++ [(⟨key, value⟩ : Ent)]).flatMap encE) := (by simpa using o1))
          go_roundw
          case rel => exact ⟨k + 1, true, gs ++ [⟨key, value⟩], A1, c1, by omega, by go_num, rfl, by simp, by simp; omega, unhide HP, o1', hb1⟩
          case measure => simp [intOf]; omega
        · have g2 : (ek.k != key) = true := by simp [h2]
          simp only [h2, if_false] at hput
          rw [← List.append_assoc, ← List.append_assoc] at hput
          have HP := hide hput
          clear hput h2
          go_wp2_with (first | (at_builtin; refine wpList_app rfl (.tmp 30) (.tmp 34) 23 rfl el_ent rfl (own_alloc hown _) rfl (rd_lit wr [.int .i64 key, .int .i64 value] _) rfl (one_ents [⟨key, value⟩]) (by simp only [maxLen]; omega) (by omega) (by have := hbel.size; simp; omega) ?_; intro A1 c1 w1 o1 ch1 _ _; rw [snoc_ents] at o1; have hb1 := app_below hbel hown ch1 (Nat.le_refl _); have d1 := (unhide HC w1 hb1).1; have d2 := (unhide HC w1 hb1).2; have o1' : w1.ownsRow w.heap.size 85 2 (.slice A1 (gs ++ [(⟨key, value⟩ : Ent)]).length c1) (gs ++ [(⟨key, value⟩ : Ent)]).length ((gs ++ [(⟨key, value⟩ : Ent)]).flatMap encE) := (by simpa using o1)) | (at_builtin; refine wpList_app rfl (.tmp 43) (.tmp 48) 23 rfl el_ent rfl (own_alloc o1 _) rfl (rd_lit w1 [.int .i64 ek.k, .int .i64 ek.v] _) rfl (one_ents [⟨ek.k, ek.v⟩]) (by simp only [maxLen]; omega) (by omega) (by have := hb1.size; simp; omega) ?_; intro A2 c2 w2 o2 ch2 _ _; rw [snoc_ents] at o2))
          have hb2 := app_below hb1 o1 ch2 (Nat.le_refl _)
          go_roundw
          case rel => exact ⟨k + 1, true, gs ++ [⟨key, value⟩] ++ [ek], A2, c2, by omega, by go_num, rfl, by simp, by simp; omega, unhide HP, by simpa using o2, hb2⟩
          case measure => simp [intOf]; omega
      · simp only [h1, if_false, List.nil_append] at hput
        cases pl
        · have h3 : ¬ key ≤ ek.k := fun h => h1 ⟨rfl, h⟩
          have g1 : decide (key ≤ ek.k) = false := by simpa using h3
          simp only [g1, Bool.or_false] at hput
          clear h1
          by_cases h2 : ek.k = key
          · exact absurd (show key ≤ ek.k by omega) h3
          · have g2 : (ek.k != key) = true := by simp [h2]
            simp only [h2, if_false] at hput
            rw [← List.append_assoc] at hput
            have HP := hide hput
            clear hput h2
            go_wp2_with (at_builtin; refine wpList_app rfl (.tmp 43) (.tmp 48) 23 rfl el_ent rfl (own_alloc hown _) rfl (rd_lit wr [.int .i64 ek.k, .int .i64 ek.v] _) rfl (one_ents [⟨ek.k, ek.v⟩]) (by simp only [maxLen]; omega) (by omega) (by have := hbel.size; simp; omega) ?_; intro A2 c2 w2 o2 ch2 _ _; rw [snoc_ents] at o2)
            have hb2 := app_below hbel hown ch2 (Nat.le_refl _)
            go_roundw
            case rel => exact ⟨k + 1, false, gs ++ [ek], A2, c2, by omega, by go_num, rfl, by simp, by simp at hgl ⊢; omega, unhide HP, by simpa using o2, hb2⟩
            case measure => simp [intOf]; omega
        · simp only [Bool.true_or] at hput
          clear h1
          by_cases h2 : ek.k = key
          · have g2 : (ek.k != key) = false := by simp [h2]
            simp only [h2, if_true, List.nil_append] at hput
            have HP := hide hput
            clear hput h2
            go_wp2
            go_roundw
            case rel => exact ⟨k + 1, true, gs, A', c', by omega, by go_num, rfl, rfl, by simp at hgl ⊢; omega, unhide HP, hown, hbel⟩
            case measure => simp [intOf]; omega
          · have g2 : (ek.k != key) = true := by simp [h2]
            simp only [h2, if_false] at hput
            rw [← List.append_assoc] at hput
            have HP := hide hput
            clear hput h2
            go_wp2_with (at_builtin; refine wpList_app rfl (.tmp 43) (.tmp 48) 23 rfl el_ent rfl (own_alloc hown _) rfl (rd_lit wr [.int .i64 ek.k, .int .i64 ek.v] _) rfl (one_ents [⟨ek.k, ek.v⟩]) (by simp only [maxLen]; omega) (by omega) (by have := hbel.size; simp; omega) ?_; intro A2 c2 w2 o2 ch2 _ _; rw [snoc_ents] at o2)
            have hb2 := app_below hbel hown ch2 (Nat.le_refl _)
            go_roundw
            case rel => exact ⟨k + 1, true, gs ++ [ek], A2, c2, by omega, by go_num, rfl, by simp, by simp at hgl ⊢; omega, unhide HP, by simpa using o2, hb2⟩
            case measure => simp [intOf]; omega
    · rw [List.drop_of_length_le (by omega), putGo] at hput
      cases pl
      · simp only [Bool.false_eq_true, if_false] at hput
        have HP := hide hput
        clear hput
        go_wp2_with (at_builtin; refine wpList_app rfl (.tmp 52) (.tmp 56) 23 rfl el_ent rfl (own_alloc hown _) rfl (rd_lit wr [.int .i64 key, .int .i64 value] _) rfl (one_ents [⟨key, value⟩]) (by simp only [maxLen]; omega) (by omega) (by have := hbel.size; simp; omega) ?_; intro A1 c1 w1 o1 ch1 _ _; rw [snoc_ents] at o1)
        have hb1 := app_below hbel hown ch1 (Nat.le_refl _)
        go_ret
        rw [unhide HP]
        exact ⟨A1, c1, by simp, by simpa using o1, hb1⟩
      · simp only [if_true, List.append_nil] at hput
        have HP := hide hput
        clear hput
        go_wp2
        go_ret
        rw [unhide HP]
        exact ⟨A', c', rfl, hown, hbel⟩
end Go.Proofs.YtefdhlfljpppfaaGreat
