/- The laws of wishes. -/
import Derived.Test.YtcgheamckfodaaaPickA
import Derived.Test.YtcgheamckfodaaaActS
import Derived.Test.YtcgheamckfodaaaDrawP
import Derived.Test.YtcgheamckfodaaaSums
namespace Go.Proofs.Ytcgheamckfodaaa
open Go.RowKit
set_option linter.unusedVariables false
set_option linter.unusedSimpArgs false

theorem rd_cat1 {w : World} {A : Option Addr} {xs : List Value} (h : Rd w A xs) {n : Nat} (hn : n = xs.length) : Rd w A xs := h
theorem wishes_cons_no {x : Wsh} {xs : List Wsh} (h : wishB x = false) : wishesB (x :: xs) = false := by simp [wishesB, h]
theorem wishes_drop {xs : List Wsh} (h : wishesB xs = true) (n : Nat) : wishesB (xs.drop n) = true := by
  simp only [wishesB, Bool.and_eq_true, List.all_eq_true, decide_eq_true_eq] at h ⊢
  exact ⟨fun x hx => h.1 x (List.mem_of_mem_drop hx), by rw [List.length_drop]; omega⟩
set_option maxHeartbeats 1000000 in
theorem law_FnWishesValid (A : Option Addr) (c : Nat) (bs : List Int) (w : World) (h : Rd w A (bs.map (.int .u8))) (hw : ∀ b ∈ bs, 0 ≤ b ∧ b ≤ 255) (hc : bs.length ≤ c) (hm : c ≤ maxLen) :
    Calls Try.prog 6 #[.slice A bs.length c] w fun e w' => e = .returned (.bool true) ∧ Below w.heap.size w w' := by
  have hm2 : bs.length ≤ 9223372036854775807 := by simp only [maxLen] at hm; omega
  by_cases hl : (1048576 : Int) < (bs.length : Int)
  · clear hw
    go_enter Try.func6, Try.ntmps6
    go_wp2
    go_ret
    exact ⟨rfl, Below.refl _ _⟩
  · have HW := hide hw
    have HC := hide hc
    have HM := hide hm
    clear hw hc hm
    go_enter Try.func6, Try.ntmps6
    go_wp2_with fail
    refine (drawWishes_any A c bs w h (unhide HW) (unhide HC) (unhide HM)).mono ?_
    rintro e w1 ⟨A1, c1, xs, hxl, rfl, r1, hxc, hcm, b1⟩
    go_wp2_with fail
    refine (wishesValid_impl A1 c1 xs w1 r1 (by omega)).mono ?_
    rintro e w2 ⟨rfl, b2⟩
    have hB := bthen b1 b2
    replace r1 := r1.new b2
    go_wp2_with fail
    refine (wishesValid_spec A1 c1 xs w2 r1 (by omega)).mono ?_
    rintro e w3 ⟨rfl, b3⟩
    replace hB := bthen hB b3
    replace r1 := r1.new b3
    clear b1 b2 b3
    have o4 := own_made (base := w3.heap.size) (e := 45) (size := 6) w3 #[.int .i64 1, .int .i64 0, .int .i64 0, .int .i64 0, .int .i64 1001, .int .i64 0] 1 (Nat.le_refl _) (by simp [maxLen]) rfl
    cases hV : wishesB xs
    all_goals
      go_wp2_with (at_builtin; refine wpList_app rfl (.tmp 18) (.tmp 19) 25 rfl el_wsh rfl o4 rfl (r1.alloc _) (length_flat encW 6 encW_len xs) (one_wshs xs) (by simp only [maxLen]; omega) (by omega) (by simp) ?_; intro A5 c5 w5 o5 ch5 d5 r5)
      have hb35 : Below w3.heap.size w3 w5 := ((Below.refl _ _).alloc (Nat.le_refl _) _).trans (ch5.below (fun q hq e => by injection e with e; injection e with e; omega) (by simp))
      have hB5 := bthen hB hb35
      have e5 : 1 + xs.length = ((⟨1, 0, 0, 0, 1001, 0⟩ : Wsh) :: xs).length := by rw [List.length_cons]; omega
      have r6 : Rd w5 A5 (((⟨1, 0, 0, 0, 1001, 0⟩ : Wsh) :: xs).flatMap encW) := own_rd o5
      have r7 := r1.new hb35
      clear ch5 d5 r5 o5 o4 r1
      rw [e5]
      refine (wishesValid_impl A5 c5 _ w5 r6 (by rw [List.length_cons]; omega)).mono ?_
      rintro e w6 ⟨rfl, b6⟩
      rw [wishes_cons_no (by rfl)]
      have hB6 := bthen hB5 b6
      replace r7 := r7.new b6
    · go_wp2_with fail
      refine (alive_any _).mono ?_
      rintro e w7 ⟨rfl, b7⟩
      go_wp2
      go_ret
      exact ⟨rfl, bthen hB6 b7⟩
    · by_cases hx0 : xs.length = 0
      · obtain rfl : xs = [] := List.eq_nil_of_length_eq_zero hx0
        clear hx0
        go_wp2_with fail
        refine (wishesValid_impl _ _ [] w6 (Rd.nil _ _) (by simp)).mono ?_
        rintro e w8 ⟨rfl, b8⟩
        rw [show wishesB [] = true from rfl]
        go_wp2_with fail
        refine (alive_any _).mono ?_
        rintro e w7 ⟨rfl, b7⟩
        go_wp2
        go_ret
        exact ⟨rfl, bthen (bthen hB6 b8) b7⟩
      · obtain ⟨g1, f1, rfl, hg1, -⟩ := r7 (by rw [length_flat encW 6 encW_len]; omega)
        have hq2 : (xs.length : Int) / 2 = ((xs.length / 2 : Nat) : Int) := by omega
        have T2 : Rd w6 (some ⟨g1, f1 + xs.length / 2 * 6, none⟩) ((xs.drop (xs.length / 2)).flatMap encW) := by rw [← drop_flat encW 6 encW_len]; exact r7.drop _
        have HD := hide (wishes_drop hV (xs.length / 2))
        have HL2 := hide (show (xs.drop (xs.length / 2)).length = xs.length - xs.length / 2 by simp)
        have hqb : xs.length / 2 < xs.length := by omega
        generalize xs.drop (xs.length / 2) = n2 at *
        generalize xs.length / 2 = q at *
        have i1 : (q : Int) ≤ (xs.length : Int) := by omega
        have i2 : (q : Int) ≤ (c1 : Int) := by omega
        have i3 : (xs.length : Int) ≤ (c1 : Int) := by omega
        have i4 : ¬ c1 = q := by omega
        go_wp2_with fail
        have K := wishesValid_impl (some ⟨g1, f1 + q * 6, none⟩) (c1 - q) n2 w6 T2 (by rw [unhide HL2]; omega)
        rw [unhide HL2, unhide HD] at K
        refine K.mono ?_
        clear K
        rintro e w8 ⟨rfl, b8⟩
        go_wp2_with fail
        refine (alive_any _).mono ?_
        rintro e w7 ⟨rfl, b7⟩
        go_wp2
        go_ret
        exact ⟨rfl, bthen (bthen hB6 b8) b7⟩
/-- with more that may be picked the first ones are the same -/
theorem pkN_prefix (xs : List Wsh) (hw : ∀ k, k < xs.length → whoAt xs k < 4) (a b : Nat) (hab : a ≤ b) (hb : b ≤ xs.length) : (pkN xs b).2.take a = (pkN xs a).2 := by
  induction b with
  | zero =>
    obtain rfl : a = 0 := by omega
    rfl
  | succ b ih =>
    by_cases h : a = b + 1
    · subst h
      exact List.take_of_length_le (by rw [(pk_all xs hw (b + 1) hb).plen]; omega)
    · have hp := (pk_all xs hw b (by omega)).plen
      obtain ⟨x, hx, -⟩ := pk_best xs (pkN xs b).1 hw (pk_all xs hw b (by omega)).dlen (by rw [(pk_all xs hw b (by omega)).cnt]; omega)
      rw [pkN, hx]
      show ((pkN xs b).2 ++ [x]).take a = _
      rw [List.take_append_of_le_length (by omega)]
      exact ih (by omega) (by omega)
theorem pickL_more {xs : List Wsh} {a b : Int} (h1 : wishesB xs = true) (ha : 0 ≤ a) (hab : a ≤ b) (hb : b ≤ 10) : ∃ l, pickL xs b = pickL xs a ++ l := by
  have e1 : pickL xs a = (pkN xs (min a.toNat xs.length)).2 := by unfold pickL; rw [if_pos ⟨h1, inB_true.2 ⟨ha, by omega⟩⟩]
  have e2 : pickL xs b = (pkN xs (min b.toNat xs.length)).2 := by unfold pickL; rw [if_pos ⟨h1, inB_true.2 ⟨by omega, hb⟩⟩]
  have := pkN_prefix xs (wishes_at h1) (min a.toNat xs.length) (min b.toNat xs.length) (by omega) (Nat.min_le_right _ _)
  refine ⟨(pkN xs (min b.toNat xs.length)).2.drop (min a.toNat xs.length), ?_⟩
  rw [e1, e2, ← this, List.take_append_drop]
theorem pickL_none {xs : List Wsh} {a : Int} (h : (pickL xs a).length ≠ 0) : wishesB xs = true ∧ 0 ≤ a ∧ a ≤ 10 ∧ (pickL xs a).length = min a.toNat xs.length := by
  unfold pickL at h ⊢
  split at h
  · rename_i hc
    have h2 := inB_true.1 hc.2
    rw [if_pos hc]
    exact ⟨hc.1, h2.1, h2.2, (pickL_all hc.1 _ (Nat.min_le_right _ _)).plen⟩
  · exact absurd rfl h
theorem feeSum_append (xs : List Wsh) (l k : List Nat) : feeSum xs (l ++ k) = feeSum xs l + feeSum xs k := by
  induction l with
  | nil => simp [feeSum]
  | cons j l ih => simp only [List.cons_append, feeSum, ih]; omega
theorem pickedN_more {xs : List Wsh} {a b : Int} (h : (pickL xs a).length ≠ 0) (hab : a ≤ b) (hb : b ≤ 10) : pickedN xs a ≤ pickedN xs b := by
  obtain ⟨h1, h2, h3, -⟩ := pickL_none h
  obtain ⟨l, hl⟩ := pickL_more h1 h2 hab hb
  unfold pickedN
  rw [hl, feeSum_append]
  have := feeSum_bd xs l fun i hi => pickL_fee (many := b) (by rw [hl]; simp [hi])
  omega
theorem pickedL_acts (xs : List Wsh) (a : Int) : actsB (pickedL xs a) = true := by
  simp only [actsB, Bool.and_eq_true, decide_eq_true_eq, List.all_eq_true]
  refine ⟨pickedL_le xs a, fun x hx => ?_⟩
  obtain ⟨i, hi, rfl⟩ := List.mem_map.1 hx
  obtain ⟨h1, h2⟩ := pickL_mem hi
  have := (wishes_who h1 i h2).2.2
  simpa [actAt, h2] using this
set_option maxHeartbeats 1000000 in
theorem law_FnPickedActions (A : Option Addr) (c : Nat) (bs : List Int) (w : World) (h : Rd w A (bs.map (.int .u8))) (hw : ∀ b ∈ bs, 0 ≤ b ∧ b ≤ 255) (hc : bs.length ≤ c) (hm : c ≤ maxLen) :
    Calls Try.prog 8 #[.slice A bs.length c] w fun e w' => e = .returned (.bool true) ∧ Below w.heap.size w w' := by
  have hm2 : bs.length ≤ 9223372036854775807 := by simp only [maxLen] at hm; omega
  by_cases hl : (1048576 : Int) < (bs.length : Int)
  · clear hw
    go_enter Try.func8, Try.ntmps8
    go_wp2
    go_ret
    exact ⟨rfl, Below.refl _ _⟩
  · have HW := hide hw
    have HC := hide hc
    have HM := hide hm
    clear hw hc hm
    go_enter Try.func8, Try.ntmps8
    go_wp2_with fail
    refine (drawPicked_any A c bs w h (unhide HW) (unhide HC) (unhide HM)).mono ?_
    rintro e w1 ⟨A1, c1, xs, many, hxl, hn1, hn2, rfl, r1, b1⟩
    go_wp2_with fail
    refine (pickedActions_impl A1 c1 xs many w1 r1 (by omega) (by omega) (by omega)).mono ?_
    rintro e w2 ⟨A2, c2, rfl, o2, b2⟩
    have hB := bthen b1 b2
    replace r1 := r1.new b2
    go_wp2_with fail
    refine (pickedActions_spec A1 c1 xs many w2 r1 (by omega) (by omega) (by omega)).mono ?_
    rintro e w3 ⟨A3, c3, rfl, o3, b3⟩
    replace hB := bthen hB b3
    replace r1 := r1.new b3
    have hple := pickedL_le xs many
    go_wp2_with fail
    refine (sameActions_any A2 A3 c2 c3 _ _ w3 (own_rd (own_new o2 b3)) (own_rd o3) (by omega)).mono ?_
    rintro e w' ⟨rfl, m, rfl⟩
    rw [show decide (pickedL xs many = pickedL xs many) = true by simp]
    replace hB := below_drewN hB m
    have R1 : Rd (w3.drewN m) A1 (xs.flatMap encW) := r1
    have R2 : Rd (w3.drewN m) A2 ((pickedL xs many).flatMap encA) := (own_rd (own_new o2 b3)).drewN m
    have hbd := pickedN_bd xs many
    clear o2 o3 b1 b2 b3 r1
    generalize w3.drewN m = w4 at *
    clear w3 w2
    have HPA := hide (pickedL_acts xs many)
    have HPL := hide (show (pickI xs many).length = (pickedL xs many).length by rw [pickI_len, pickedL_len])
    by_cases h9 : many + 1 < 10
    all_goals
      have HMO := hide (fun hz => pickedN_more (xs := xs) (a := many) (b := min 10 (many + 1)) hz (by have := (pickL_none hz).2.2.1; omega) (by omega))
      go_wp2_with fail
      refine (pickedActions_impl A1 c1 xs _ w4 R1 (by omega) (by omega) (by omega)).mono ?_
      rintro e w5 ⟨A5, c5, rfl, o5, b5⟩
      replace hB := bthen hB b5
      replace R1 := R1.new b5
      replace R2 := R2.new b5
      go_wp2_with fail
      refine (pickI_impl A1 c1 xs many w5 R1 (by omega) (by omega) (by omega)).mono ?_
      rintro e w6 ⟨A6, c6, rfl, o6, b6⟩
      rw [unhide HPL]
      replace hB := bthen hB b6
      replace R2 := R2.new b6
      go_wp2_with fail
      refine (actionsValid_impl A2 c2 _ w6 R2 (by omega)).mono ?_
      rintro e w7 ⟨rfl, b7⟩
      rw [unhide HPA]
      replace hB := bthen hB b7
      clear o5 o6 b5 b6 b7 R1 R2
      by_cases hz : (pickedL xs many).length = 0
    · rw [hz]
      go_wp2_with fail
      refine (alive_any _).mono ?_
      rintro e w8 ⟨rfl, b8⟩
      go_wp2
      go_ret
      exact ⟨rfl, bthen hB b8⟩
    · have hge : pickedN xs many ≤ pickedN xs (many + 1) := by have := unhide HMO (by rw [← pickedL_len]; exact hz); rwa [show min 10 (many + 1) = many + 1 by omega] at this
      have hz2 : ((pickedL xs many).length : Int) ≠ 0 := by omega
      have hz3 : (((pickedL xs many).length : Int) == 0) = false := by simpa using hz
      generalize pickedN xs (many + 1) = sm2 at *
      generalize pickedN xs many = sm at *
      go_wp2_with fail
      refine (alive_any _).mono ?_
      rintro e w8 ⟨rfl, b8⟩
      go_wp2
      go_ret
      exact ⟨rfl, bthen hB b8⟩
    · rw [hz]
      go_wp2_with fail
      refine (alive_any _).mono ?_
      rintro e w8 ⟨rfl, b8⟩
      go_wp2
      go_ret
      exact ⟨rfl, bthen hB b8⟩
    · have hge : pickedN xs many ≤ pickedN xs 10 := by have := unhide HMO (by rw [← pickedL_len]; exact hz); rwa [show min 10 (many + 1) = 10 by omega] at this
      have hz2 : ((pickedL xs many).length : Int) ≠ 0 := by omega
      have hz3 : (((pickedL xs many).length : Int) == 0) = false := by simpa using hz
      generalize pickedN xs 10 = sm2 at *
      generalize pickedN xs many = sm at *
      go_wp2_with fail
      refine (alive_any _).mono ?_
      rintro e w8 ⟨rfl, b8⟩
      go_wp2
      go_ret
      exact ⟨rfl, bthen hB b8⟩
end Go.Proofs.Ytcgheamckfodaaa
