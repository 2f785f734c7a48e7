/- The laws FnSpreadOnce, FnSpreadAll, FnKnownByAll. -/
import Derived.Test.YtcpdocpapgpclaaDrawH
import Derived.Test.YtcpdocpapgpclaaSpreadN
import Derived.Test.YtcpdocpapgpclaaSums
namespace Go.Proofs.Ytcpdocpapgpclaa
open Go.RowKit
set_option linter.unusedVariables false
set_option linter.unusedSimpArgs false

theorem spreadF_get {xs ys : List Int} {k : Nat} (hk : k < 4) : (spreadF xs ys).getD k 0 = spN xs (ys.getD k 0) (xs.getD k 0) 4 := spreadF_getD xs ys hk
set_option maxHeartbeats 4000000 in
theorem law_FnSpreadOnce (A : Option Addr) (c : Nat) (bs : List Int) (w : World) (h : Rd w A (bs.map (.int .u8))) (hw : ∀ b ∈ bs, 0 ≤ b ∧ b ≤ 255) (hc : bs.length ≤ c) (hm : c ≤ maxLen) :
    Calls Try.prog 6 #[.slice A bs.length c] w fun e w' => e = .returned (.bool true) ∧ Below w.heap.size w w' := by
  have hm2 : bs.length ≤ 9223372036854775807 := by simp only [maxLen] at hm; omega
  by_cases hl : (1048576 : Int) < (bs.length : Int)
  · clear hw
    go_enter Try.func6, Try.ntmps6
    go_wp2
    go_ret
    exact ⟨rfl, Below.refl _ _⟩
  · have HW := hide hw
    have HC := hide hc
    have HM := hide hm
    clear hw hc hm
    go_enter Try.func6, Try.ntmps6
    go_wp2_with fail
    refine (drawSpreadOnce_any A c bs w h (unhide HW) (unhide HC) (unhide HM)).mono ?_
    rintro e w1 ⟨A1, c1, B1, d1, xs, ys, hxl, hyl, rfl, r1, r2, b1⟩
    go_wp2_with fail
    refine (spreadOnce_impl A1 B1 c1 d1 xs ys w1 r1 r2 (by omega) (by omega)).mono ?_
    rintro e w2 ⟨A2, c2, rfl, o2, b2⟩
    have hB2 := bthen b1 b2
    have s1 := r1.new b2
    have s2 := r2.new b2
    go_wp2_with fail
    refine (spreadOnce_spec A1 B1 c1 d1 xs ys w2 s1 s2 (by omega) (by omega)).mono ?_
    rintro e w3 ⟨A3, c3, rfl, o3, b3⟩
    have hB3 := bthen hB2 b3
    replace s1 := s1.new b3
    replace s2 := s2.new b3
    have o4 := own_new o2 b3
    have hle : (spreadL xs ys).length ≤ 4 := by
      unfold spreadL
      split
      · rw [spreadF_len]; omega
      · simp
    go_wp2_with fail
    refine (sameInts_any A2 A3 c2 c3 _ _ w3 (own_rd o4) (own_rd o3) (by omega)).mono ?_
    rintro e w' ⟨rfl, m, rfl⟩
    have hB4 := below_drewN hB3 m
    have R1 : Rd (w3.drewN m) A1 (xs.map (.int .i64)) := s1
    have R2 : Rd (w3.drewN m) B1 (ys.map (.int .i64)) := s2
    have R3 : Rd (w3.drewN m) A2 ((spreadL xs ys).map (.int .i64)) := own_rd o4
    clear o2 o3 o4 s1 s2 r1 r2 b1 b2 b3 hB2 hB3
    generalize w3.drewN m = w4 at *
    cases hx : spreadB xs ys
    · have HL := hide (show spreadL xs ys = [] by simp [spreadL, hx])
      clear hx
      rw [unhide HL]
      go_wp2_with fail
      refine (alive_any _).mono ?_
      rintro e w5 ⟨rfl, b5⟩
      go_wp2
      go_ret
      exact ⟨rfl, bthen hB4 b5⟩
    · have HL := hide (show spreadL xs ys = spreadF xs ys by simp [spreadL, hx])
      obtain ⟨h1, h2⟩ := Bool.and_eq_true_iff.1 hx
      have H1 := hide (l30_yes h1)
      have H2 := hide (l30_yes h2)
      clear hx h1 h2 hle
      rw [unhide HL] at R3
      rw [unhide HL, spreadF_len]
      have hx4 : 4 ≤ xs.length := by have := (unhide H1).1; omega
      have hy4 : 4 ≤ ys.length := by have := (unhide H2).1; omega
      obtain ⟨q1, f1, rfl, hq1, hc1⟩ := R1.intD (k := 0) (by omega)
      obtain ⟨q2, f2, rfl, hq2, hc2⟩ := R2.intD (k := 0) (by omega)
      obtain ⟨q3, f3, rfl, hq3, hc3⟩ := R3.intD (k := 0) (by rw [spreadF_len]; omega)
      have HC1 := hide hc1
      have HC2 := hide hc2
      have HC3 := hide hc3
      clear hc1 hc2 hc3 R1 R2 R3
      have HB := hide hB4
      clear hB4
      go_wp2
      go_loopw [6] (fun i wr => ∃ k : Nat, k ≤ 4 ∧ i = .int .i64 k ∧ ∃ m, wr = w4.drewN m) (fun i _ => 4 - (intOf i).toNat)
      case atStart => exact ⟨0, by omega, rfl, 0, rfl⟩
      case round =>
        obtain ⟨k, hk, rfl, m, rfl⟩ := hrel
        by_cases hlt : k < 4
        · have ck1 := unhide HC1 k (by omega)
          have ck2 := unhide HC2 k (by omega)
          have ck3 := unhide HC3 k (by rw [spreadF_len]; omega)
          rw [spreadF_getD _ _ hlt] at ck3
          have F1 := hide (spN_and (unhide H1).2 (getD_bd (unhide H1).2 (by omega) k) (u := ys.getD k 0) 4)
          have i1 : (k : Int) < (xs.length : Int) := by omega
          have i2 : (k : Int) < (ys.length : Int) := by omega
          have i3 : (k : Int) < 4 := by omega
          generalize hu : ys.getD k 0 = u at *
          generalize hn : xs.getD k 0 = n at *
          by_cases hu0 : u = 0
          · subst hu0
            have HU := hide hu
            have HN := hide hn
            clear hu hn
            rw [spN_zero] at ck3
            have F2 := hide (show (bits .and .i64 n n != n) = false by have := unhide F1; rwa [spN_zero] at this)
            have f1' := unhide F2
            have f3' : (n != n) = false := by simp
            go_wp2
            go_quiet (fail)
            go_wp2
            go_roundw
            case rel => exact ⟨k + 1, by omega, by go_num, _, rfl⟩
            case measure => simp [intOf]; omega
          · have f0 : (u == 0) = false := by simp [hu0]
            have HU := hide hu
            have HN := hide hn
            clear hu hn hu0
            have f1' := unhide F1
            generalize spN xs u n 4 = s at *
            go_wp2
            go_quiet (fail)
            go_wp2
            go_roundw
            case rel => exact ⟨k + 1, by omega, by go_num, _, rfl⟩
            case measure => simp [intOf]; omega
        · obtain rfl : k = 4 := by omega
          go_wp2
          go_ret
          exact ⟨rfl, below_drewN (unhide HB) m⟩
set_option maxHeartbeats 4000000 in
theorem law_FnSpreadAll (A : Option Addr) (c : Nat) (bs : List Int) (w : World) (h : Rd w A (bs.map (.int .u8))) (hw : ∀ b ∈ bs, 0 ≤ b ∧ b ≤ 255) (hc : bs.length ≤ c) (hm : c ≤ maxLen) :
    Calls Try.prog 7 #[.slice A bs.length c] w fun e w' => e = .returned (.bool true) ∧ Below w.heap.size w w' := by
  have hm2 : bs.length ≤ 9223372036854775807 := by simp only [maxLen] at hm; omega
  by_cases hl : (1048576 : Int) < (bs.length : Int)
  · clear hw
    go_enter Try.func7, Try.ntmps7
    go_wp2
    go_ret
    exact ⟨rfl, Below.refl _ _⟩
  · have HW := hide hw
    have HC := hide hc
    have HM := hide hm
    clear hw hc hm
    go_enter Try.func7, Try.ntmps7
    go_wp2_with fail
    refine (drawSpreadAll_any A c bs w h (unhide HW) (unhide HC) (unhide HM)).mono ?_
    rintro e w1 ⟨A1, c1, B1, d1, xs, ys, hxl, hyl, rfl, r1, r2, b1⟩
    go_wp2_with fail
    refine (spreadAll_impl' A1 B1 c1 d1 xs ys w1 r1 r2 (by omega) (by omega)).mono ?_
    rintro e w2 ⟨A2, c2, rfl, o2, b2⟩
    have hB2 := bthen b1 b2
    have s1 := r1.new b2
    have s2 := r2.new b2
    go_wp2_with fail
    refine (spreadAll_spec A1 B1 c1 d1 xs ys w2 s1 s2 (by omega) (by omega)).mono ?_
    rintro e w3 ⟨A3, c3, rfl, o3, b3⟩
    have hB3 := bthen hB2 b3
    replace s1 := s1.new b3
    replace s2 := s2.new b3
    have o4 := own_new o2 b3
    have hle : (spAllL xs ys).length ≤ 4 := by
      cases h : spreadB xs ys
      · rw [spAllL_no h]; simp
      · rw [spAllL_len h]; omega
    go_wp2_with fail
    refine (sameInts_any A2 A3 c2 c3 _ _ w3 (own_rd o4) (own_rd o3) (by omega)).mono ?_
    rintro e w' ⟨rfl, m, rfl⟩
    have hB4 := below_drewN hB3 m
    have R2 : Rd (w3.drewN m) B1 (ys.map (.int .i64)) := s2
    have R3 : Rd (w3.drewN m) A2 ((spAllL xs ys).map (.int .i64)) := own_rd o4
    clear o2 o3 o4 s1 s2 r1 r2 b1 b2 b3 hB2 hB3
    generalize w3.drewN m = w4 at *
    cases hx : spreadB xs ys
    · have HL := hide (show spAllL xs ys = [] ∧ spAllN xs ys = 0 by simp [spAllL, spAllN, hx])
      clear hx
      rw [(unhide HL).1, (unhide HL).2]
      go_wp2_with fail
      refine (alive_any _).mono ?_
      rintro e w5 ⟨rfl, b5⟩
      go_wp2
      go_ret
      exact ⟨rfl, bthen hB4 b5⟩
    · have HL := hide (show spAllL xs ys = spIt xs ys (spEnd xs ys) ∧ spAllN xs ys = (spEnd xs ys : Int) by simp [spAllL, spAllN, hx])
      obtain ⟨h1, h2⟩ := Bool.and_eq_true_iff.1 hx
      have H1 := hide (l30_yes h1)
      have hz4 := spAllL_len hx
      have HF := hide (show spreadL (spAllL xs ys) ys = spAllL xs ys by
        rw [(unhide HL).1, spreadL_it hx, spEnd_fix (unhide H1).1 (unhide H1).2])
      have hse : spEnd xs ys < 4 := by have := spEnd_le xs ys; omega
      rw [(unhide HL).2]
      have HSE := hide (show decide ((spEnd xs ys : Int) < 4) = true by simp; omega)
      clear hx h1 h2 hle
      generalize spAllL xs ys = zs at *
      generalize spEnd xs ys = sn at *
      have HZ := hide hz4
      clear hz4
      clear HL
      rw [unhide HZ]
      go_wp2_with fail
      rw [← unhide HZ]
      refine (spreadOnce_impl A2 B1 c2 d1 zs ys w4 R3 R2 (by rw [unhide HZ]; omega) (by omega)).mono ?_
      rintro e w5 ⟨A5, c5, rfl, o5, b5⟩
      rw [unhide HF] at o5
      rw [unhide HF]
      have R5 := R3.new b5
      go_wp2_with fail
      refine (sameInts_any A5 A2 c5 c2 zs zs w5 (own_rd o5) R5 (by rw [unhide HZ]; omega)).mono ?_
      rintro e w' ⟨rfl, m, rfl⟩
      have hs1 := unhide HSE
      rw [unhide HZ]
      go_wp2
      go_ret
      exact ⟨rfl, below_drewN (bthen hB4 b5) m⟩
set_option maxHeartbeats 4000000 in
theorem law_FnKnownByAll (A : Option Addr) (c : Nat) (bs : List Int) (w : World) (h : Rd w A (bs.map (.int .u8))) (hw : ∀ b ∈ bs, 0 ≤ b ∧ b ≤ 255) (hc : bs.length ≤ c) (hm : c ≤ maxLen) :
    Calls Try.prog 8 #[.slice A bs.length c] w fun e w' => e = .returned (.bool true) ∧ Below w.heap.size w w' := by
  have hm2 : bs.length ≤ 9223372036854775807 := by simp only [maxLen] at hm; omega
  by_cases hl : (1048576 : Int) < (bs.length : Int)
  · clear hw
    go_enter Try.func8, Try.ntmps8
    go_wp2
    go_ret
    exact ⟨rfl, Below.refl _ _⟩
  · have HW := hide hw
    have HC := hide hc
    have HM := hide hm
    clear hw hc hm
    go_enter Try.func8, Try.ntmps8
    go_wp2_with fail
    refine (drawKnownByAll_any A c bs w h (unhide HW) (unhide HC) (unhide HM)).mono ?_
    rintro e w1 ⟨A1, c1, B1, d1, xs, ys, hxl, hyl, rfl, r1, r2, b1⟩
    go_wp2_with fail
    refine (knownByAll_impl A1 B1 c1 d1 xs ys w1 r1 r2 (by omega) (by omega)).mono ?_
    rintro e w2 ⟨rfl, b2⟩
    have hB2 := bthen b1 b2
    have s1 := r1.new b2
    have s2 := r2.new b2
    go_wp2_with fail
    refine (knownByAll_spec A1 B1 c1 d1 xs ys w2 s1 s2 (by omega) (by omega)).mono ?_
    rintro e w3 ⟨rfl, b3⟩
    have hB3 := bthen hB2 b3
    replace s1 := s1.new b3
    replace s2 := s2.new b3
    clear r1 r2 b1 b2 b3 hB2
    cases hx : spreadB xs ys
    · have HL := hide (show kbaN xs ys = -1 by simp [kbaN, hx])
      clear hx
      rw [unhide HL]
      go_wp2_with fail
      refine (alive_any _).mono ?_
      rintro e w5 ⟨rfl, b5⟩
      go_wp2
      go_ret
      exact ⟨rfl, bthen hB3 b5⟩
    · have HL := hide (show kbaN xs ys = andN (spAllL xs ys) 4 by simp [kbaN, hx])
      have HLO := hide (kba_loud hx)
      have H1 := hide (l30_yes (Bool.and_eq_true_iff.1 hx).1)
      have hz4 := spAllL_len hx
      have hzb := spAllL_bd hx
      have HSA := hide (spreadAll_impl' A1 B1 c1 d1 xs ys w3 s1 s2 (by omega) (by omega))
      clear hx
      rw [unhide HL]
      have n0 := (andN_bd (spAllL xs ys) 4).1
      have hn0 : decide (andN (spAllL xs ys) 4 < 0) = false := by simp; omega
      go_wp2_with fail
      refine (unhide HSA).mono ?_
      rintro e w4 ⟨A4, c4, rfl, o4, b4⟩
      have hB4 := bthen hB3 b4
      replace s1 := s1.new b4
      clear HL HSA
      have HZB := hide hzb
      clear hzb
      generalize spAllL xs ys = zs at *
      have HZ := hide hz4
      clear hz4
      rw [unhide HZ] at o4
      rw [unhide HZ]
      have hx4 : 4 ≤ xs.length := by have := (unhide H1).1; omega
      have hx5 : xs.length ≤ 4 := by have := (unhide H1).1; omega
      have R4 := own_rd o4
      obtain ⟨q1, f1, rfl, hq1, hc1⟩ := s1.intD (k := 0) (by omega)
      obtain ⟨q2, f2, rfl, hq2, hc2⟩ := R4.intD (k := 0) (by rw [unhide HZ]; omega)
      have HC1 := hide hc1
      have HC2 := hide hc2
      clear hc1 hc2 R4 o4 s2
      have HS1 := hide s1
      clear s1
      have o0 := own_made (base := w4.heap.size) (e := 3) (size := 1) w4 #[] 0 (Nat.le_refl _) (by simp [maxLen]) rfl
      have HAF := hide (fun k (hk : k < 4) => andN_sub (unhide HZB) hk)
      generalize andN zs 4 = nn at *
      go_wp2
      go_loopw [8, 9, 10] (fun a v i wr => ∃ (k : Nat) (A' : Option Addr) (c' : Nat), k ≤ 4 ∧ i = .int .i64 k ∧ a = .int .i64 (orN xs k) ∧ v = .slice A' k c' ∧ wr.ownsRow w4.heap.size 3 1 (.slice A' k c') k ((List.replicate k (15 : Int)).map (.int .i64)) ∧ Below w4.heap.size w4 wr) (fun _ _ i _ => 4 - (intOf i).toNat)
      case atStart => exact ⟨0, _, _, by omega, rfl, rfl, rfl, o0, (Below.refl _ _).alloc (Nat.le_refl _) _⟩
      case round =>
        clear o0
        obtain ⟨k, A', c', hk, rfl, rfl, rfl, own, hB⟩ := hrel
        by_cases hlt : k < 4
        · have ck1 := (hB.cell (p := ⟨q1, f1 + k, none⟩) hq1).trans (unhide HC1 k (by omega))
          have ck2 := (hB.cell (p := ⟨q2, f2 + k, none⟩) hq2).trans (unhide HC2 k (by rw [unhide HZ]; omega))
          have f1' := unhide HAF k hlt
          have hob := orN_bd (unhide H1).2 k
          have hxb : 0 ≤ xs.getD k 0 ∧ xs.getD k 0 ≤ 255 := getD_bd (unhide H1).2 (by omega) k
          have HO := hide (show bits .or .i64 (orN xs k) (xs.getD k 0) = orN xs (k + 1) by rw [orI_bits hob hxb]; rfl)
          clear hob hxb
          obtain ⟨n, hn⟩ : ∃ n, n = xs.getD k 0 := ⟨_, rfl⟩
          rw [← hn] at ck1 HO
          generalize orN xs k = oo at *
          obtain ⟨z, hz⟩ : ∃ z, z = zs.getD k 0 := ⟨_, rfl⟩
          rw [← hz] at ck2 f1'
          clear hn hz
          have i1 : (k : Int) < (xs.length : Int) := by omega
          have i3 : (k : Int) < 4 := by omega
          go_wp2_with (at_builtin; refine wpList_app rfl (.tmp 67) (.tmp 68) 22 rfl el_int rfl (own_alloc own _) rfl (rd_lit wr [.int .i64 15] _) rfl (one_ints [15]) (by simp only [maxLen]; omega) (by omega) (by have := hB.size; simp; omega) ?_; intro A7 c7 w7 o7 ch7 d7 _)
          go_roundw
          case rel =>
            refine ⟨k + 1, A7, c7, by omega, by go_num, by rw [unhide HO], rfl, ?_, app_below hB own ch7 (Nat.le_refl _)⟩
            rw [List.replicate_succ', List.map_append]
            exact o7
          case measure => simp [intOf]; omega
        · obtain rfl : k = 4 := by omega
          have hx5' : ¬ (4 : Int) < (xs.length : Int) := by omega
          have HO := hide (show orN xs 4 = kbaN xs loud4 from (unhide HLO).symm)
          rw [unhide HO]
          have K := knownByAll_impl (some ⟨q1, f1, none⟩) A' c1 c' xs loud4 wr ((unhide HS1).new hB) (own_rd own) (by omega) (by simp [loud4])
          have HK := hide K
          clear K
          go_wp2_with fail
          refine (unhide HK).mono ?_
          rintro e w8 ⟨rfl, b8⟩
          go_wp2
          go_ret
          exact ⟨rfl, bthen (bthen hB4 hB) b8⟩
end Go.Proofs.Ytcpdocpapgpclaa
