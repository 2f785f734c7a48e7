/- The law FnDiffValid. -/
import Derived.Test.YtkbbhbgjanfcoaaDrawS
import Derived.Test.YtkbbhbgjanfcoaaSums
namespace Go.Proofs.Ytkbbhbgjanfcoaa
open Go.RowKit
set_option linter.unusedVariables false
set_option linter.unusedSimpArgs false

theorem evOk_mono {least l l' : Int} (h : l' ≤ l) (es : List Ent) (he : evOk least l es = true) : evOk least l' es = true := by
  cases es with
  | nil => rfl
  | cons e es =>
    simp only [evOk, Bool.and_eq_true] at he ⊢
    obtain ⟨⟨h1, h2⟩, h3⟩ := he
    have := inB_true.1 h1
    exact ⟨⟨inB_true.2 (by omega), h2⟩, h3⟩
theorem diffB_tail {e : Ent} {es : List Ent} (h : diffB (e :: es) = true) : diffB es = true := by
  unfold diffB at *
  simp only [evOk, Bool.and_eq_true] at h
  have := inB_true.1 h.1.1
  exact evOk_mono (by omega) es h.2
theorem diffB_twice (e : Ent) (es : List Ent) : diffB (e :: e :: es) = false := by
  unfold diffB
  simp only [evOk]
  have : inB e.k (e.k + 1) 31 = false := inB_false.2 (.inl (by omega))
  rw [this]
  simp
set_option maxHeartbeats 600000 in
theorem law_FnDiffValid (A : Option Addr) (c : Nat) (bs : List Int) (w : World) (h : Rd w A (bs.map (.int .u8))) (hw : ∀ b ∈ bs, 0 ≤ b ∧ b ≤ 255) (hc : bs.length ≤ c) (hm : c ≤ maxLen) :
    Calls Try.prog 14 #[.slice A bs.length c] w fun e w' => e = .returned (.bool true) ∧ Below w.heap.size w w' := by
  have hm2 : bs.length ≤ 9223372036854775807 := by simp only [maxLen] at hm; omega
  by_cases hl : (1048576 : Int) < (bs.length : Int)
  · clear hw
    go_enter Try.func14, Try.ntmps14
    go_wp2
    go_ret
    exact ⟨rfl, Below.refl _ _⟩
  · have HW := hide hw
    have HC := hide hc
    have HM := hide hm
    clear hw hc hm
    go_enter Try.func14, Try.ntmps14
    go_wp2_with fail
    refine (drawDiff_any A c bs w h (unhide HW) (unhide HC) (unhide HM)).mono ?_
    rintro e w1 ⟨A1, c1, xs, hxl, rfl, hk1, hk2, r1, b1⟩
    go_wp2_with fail
    refine (diffB_impl A1 c1 xs w1 r1 (by omega)).mono ?_
    rintro e w2 ⟨rfl, b2⟩
    have r2 := r1.new b2
    go_wp2_with fail
    refine (diffB_diff_spec A1 c1 xs w2 r2 (by omega)).mono ?_
    rintro e w' ⟨rfl, m, rfl⟩
    have b3 := below_drewN (bthen b1 b2) m
    have r3 := r2.drewN m
    generalize w2.drewN m = w3 at *
    clear b1 b2 r1 r2
    cases hd : diffB xs
    · go_wp2_with fail
      refine (alive_any _).mono ?_
      rintro e w4 ⟨rfl, b4⟩
      go_wp2
      go_ret
      exact ⟨rfl, bthen b3 b4⟩
    · cases xs with
      | nil =>
        go_wp2_with fail
        refine (alive_any _).mono ?_
        rintro e w4 ⟨rfl, b4⟩
        go_wp2
        go_ret
        exact ⟨rfl, bthen b3 b4⟩
      | cons x xs =>
        have HD := hide hd
        clear hd
        simp only [List.length_cons] at hxl hk1 ⊢
        have hz : ((xs.length : Int) + 1 == 0) = false := by rw [beq_eq_false_iff_ne]; omega
        obtain ⟨b, off, rfl, hbb, d1, d2⟩ := r3.ent (k := 0) (by simp)
        simp only [Nat.zero_mul, Nat.add_zero, List.getElem_cons_zero] at d1 d2
        have hck : (1 : Int) ≤ (xs.length : Int) + 1 := by omega
        have hck2 : (xs.length : Int) + 1 ≤ (c1 : Int) := by omega
        have HT := hide (diffB_tail (unhide HD))
        have HX := hide (diffB_twice x xs)
        by_cases h1 : c1 = 1
        · obtain rfl : xs = [] := List.eq_nil_of_length_eq_zero (by omega)
          simp only [List.length_nil, Nat.zero_add] at *
          subst h1
          have rt : Rd w3 (some ⟨b, off, none⟩) (([] : List Ent).flatMap encE) := Rd.nil _ _
          clear hz hck hck2 hxl hk1 hk2
          have D0 := hide (diffB_impl (some ⟨b, off, none⟩) 0 [] w3 rt (by simp))
          go_wp2_with fail
          refine (unhide D0).mono ?_
          rintro e w4 ⟨rfl, b4⟩
          have b4' := bthen b3 b4
          have r4 := r3.new b4
          have e1 := (b4.cell (p := ⟨b, off, none⟩) hbb).trans d1
          have e2 := (b4.cell (p := ⟨b, off + 1, none⟩) hbb).trans d2
          rw [unhide HT]
          clear rt
          have om := own_made (base := w4.heap.size) (e := 48) (size := 2) w4 #[.int .i64 x.k, .int .i64 x.v] 1 (Nat.le_refl _) (by simp [maxLen]) rfl
          have hx1 : ([x] : List Ent).flatMap encE = [.int .i64 x.k, .int .i64 x.v] := rfl
          rw [hx1] at r4
          go_wp2_with (at_builtin; refine wpList_app_if rfl (.tmp 31) (.tmp 32) 33 rfl el_ent rfl om rfl (r4.alloc _) rfl (one_ents [x]) (by simp [maxLen]) (by omega) (by simp) ?_; intro A5 c5 w5 o5 ch5 _ _)
          have hr5 : Rd w5 A5 ((x :: x :: []).flatMap encE) := own_rd o5
          have C5 := diffB_impl A5 c5 (x :: x :: []) w5 hr5 (by simp)
          rw [unhide HX] at C5
          have C5' := hide C5
          clear C5
          refine (unhide C5').mono ?_
          rintro e w6 ⟨rfl, b6⟩
          go_wp2
          go_ret
          exact ⟨rfl, bthen (app_below' (b4'.alloc b4'.size _) om ch5 b4'.size) b6⟩
        · have rt : Rd w3 (some ⟨b, off + 2, none⟩) (xs.flatMap encE) := by
            have := r3.drop 2
            simpa [encE] using this
          go_wp2_with fail
          refine (diffB_impl _ _ xs w3 rt (by omega)).mono ?_
          rintro e w4 ⟨rfl, b4⟩
          have b4' := bthen b3 b4
          have r4 := r3.new b4
          have e1 := (b4.cell (p := ⟨b, off, none⟩) hbb).trans d1
          have e2 := (b4.cell (p := ⟨b, off + 1, none⟩) hbb).trans d2
          rw [unhide HT]
          clear rt
          have om := own_made (base := w4.heap.size) (e := 48) (size := 2) w4 #[.int .i64 x.k, .int .i64 x.v] 1 (Nat.le_refl _) (by simp [maxLen]) rfl
          go_wp2_with (at_builtin; refine wpList_app_if rfl (.tmp 31) (.tmp 32) 33 rfl el_ent rfl om rfl (r4.alloc _) (by rw [length_flat encE 2 encE_len]; rfl) (one_ents (x :: xs)) (by simp only [maxLen]; omega) (by omega) (by simp) ?_; intro A5 c5 w5 o5 ch5 _ _)
          have hr5 : Rd w5 A5 ((x :: x :: xs).flatMap encE) := own_rd o5
          have C5 := diffB_impl A5 c5 (x :: x :: xs) w5 hr5 (by simp; omega)
          rw [unhide HX, show (x :: x :: xs).length = 1 + (xs.length + 1) by simp; omega] at C5
          have C5' := hide C5
          clear C5
          refine (unhide C5').mono ?_
          rintro e w6 ⟨rfl, b6⟩
          go_wp2
          go_ret
          exact ⟨rfl, bthen (app_below' (b4'.alloc b4'.size _) om ch5 b4'.size) b6⟩
end Go.Proofs.Ytkbbhbgjanfcoaa
