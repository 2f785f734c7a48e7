/- The laws of differences: FnApplyDiff, FnDiffStores, FnJoinDiffs. -/
import Derived.Test.YtpfdhbomcoafdaaDiffM
import Derived.Test.YtpfdhbomcoafdaaSameS
import Derived.Test.YtpfdhbomcoafdaaDrawD
import Derived.Test.YtpfdhbomcoafdaaSums
import Derived.Test.YtpfdhbomcoafdaaTree
namespace Go.Proofs.Ytpfdhbomcoafdaa
open Go.RowKit
set_option linter.unusedVariables false
set_option linter.unusedSimpArgs false

theorem walk_step {d : List Ent} {j k : Nat} (hev : evOk 0 ((k : Int) - 1) (d.drop j) = true) (hf : ∀ q : Int, (k : Int) ≤ q → findL d q = findL (d.drop j) q) :
    ((hj : j < d.length) → d[j].k = (k : Int) → findL d (k : Int) = some d[j].v ∧ evOk 0 (((k + 1 : Nat) : Int) - 1) (d.drop (j + 1)) = true ∧ ∀ q : Int, ((k + 1 : Nat) : Int) ≤ q → findL d q = findL (d.drop (j + 1)) q) ∧
    ((∀ hj : j < d.length, d[j].k ≠ (k : Int)) → findL d (k : Int) = none ∧ evOk 0 (((k + 1 : Nat) : Int) - 1) (d.drop j) = true ∧ ∀ q : Int, ((k + 1 : Nat) : Int) ≤ q → findL d q = findL (d.drop j) q) := by
  have e1 : ((k + 1 : Nat) : Int) - 1 = (k : Int) := by omega
  rw [e1]
  constructor
  · intro hj he
    have h0 := hf (k : Int) (Int.le_refl _)
    rw [drop_get d j hj] at hev
    obtain ⟨h1, h2, h3, h4, h5⟩ := evOk_cons hev
    rw [drop_get d j hj, findL, if_pos he] at h0
    refine ⟨h0, by rw [← he]; exact h5, fun q hq => ?_⟩
    rw [hf q (by omega), drop_get d j hj, findL, if_neg (by omega)]
  · intro hne
    have h0 := hf (k : Int) (Int.le_refl _)
    by_cases hj : j < d.length
    · have hn := hne hj
      rw [drop_get d j hj] at hev
      obtain ⟨h1, h2, h3, h4, h5⟩ := evOk_cons hev
      have h6 : evOk 0 (k : Int) (d.drop j) = true := by rw [drop_get d j hj]; exact evOk_mk (by omega) h2 h3 h4 h5
      exact ⟨h0.trans (find_low h6 (Int.le_refl _)), h6, fun q hq => hf q (by omega)⟩
    · have hd : d.drop j = [] := List.drop_of_length_le (by omega)
      rw [hd] at h0 ⊢
      exact ⟨h0, rfl, fun q hq => by rw [hf q (by omega), hd]⟩
theorem valAt_yes {s : List Ent} (h : storeB s = true) (k : Nat) (hk : k < 32) : valAt s (k : Int) = atL s (k : Int) := by
  unfold valAt
  rw [if_pos ⟨h, inB_true.2 ⟨by omega, by omega⟩⟩]
theorem applyL_no {s d : List Ent} (h : ¬ (storeB s = true ∧ diffB d = true)) : applyL s d = [] := by unfold applyL; rw [if_neg h]
set_option maxHeartbeats 1000000 in
theorem law_FnApplyDiff (A : Option Addr) (c : Nat) (bs : List Int) (w : World) (h : Rd w A (bs.map (.int .u8))) (hw : ∀ b ∈ bs, 0 ≤ b ∧ b ≤ 255) (hc : bs.length ≤ c) (hm : c ≤ maxLen) :
    Calls Try.prog 6 #[.slice A bs.length c] w fun e w' => e = .returned (.bool true) ∧ Below w.heap.size w w' := by
  have hm2 : bs.length ≤ 9223372036854775807 := by simp only [maxLen] at hm; omega
  by_cases hl : (1048576 : Int) < (bs.length : Int)
  · clear hw
    go_enter Try.func6, Try.ntmps6
    go_wp2
    go_ret
    exact ⟨rfl, Below.refl _ _⟩
  · have HW := hide hw
    have HC := hide hc
    have HM := hide hm
    clear hw hc hm
    go_enter Try.func6, Try.ntmps6
    go_wp2_with fail
    refine (drawApply_any A c bs w h (unhide HW) (unhide HC) (unhide HM)).mono ?_
    rintro e w1 ⟨A1, c1, A2, c2, xs, ys, hxl, hyl, rfl, r1, r2, b1⟩
    go_wp2_with fail
    refine (applyDiff_impl A1 A2 c1 c2 xs ys w1 r1 r2 (by omega) (by omega)).mono ?_
    rintro e w2 ⟨A3, c3, rfl, o3, b2⟩
    have r3 := own_rd o3
    replace r1 := r1.new b2
    replace r2 := r2.new b2
    have hB := bthen b1 b2
    go_wp2_with fail
    refine (applyDiff_spec A1 A2 c1 c2 xs ys w2 r1 r2 (by omega) (by omega)).mono ?_
    rintro e w3 ⟨A4, c4, rfl, o4, b3⟩
    have r4 := own_rd o4
    replace r1 := r1.new b3
    replace r2 := r2.new b3
    replace r3 := r3.new b3
    replace hB := bthen hB b3
    clear o3 o4 b1 b2 b3
    have hal := applyL_len xs ys
    go_wp2_with fail
    refine (sameStore_any A3 A4 c3 c4 _ _ w3 r3 r4 (by omega)).mono ?_
    rintro e w' ⟨rfl, m, rfl⟩
    rw [decide_eq_true rfl]
    replace hB := below_drewN hB m
    replace r1 := r1.drewN m
    replace r2 := r2.drewN m
    replace r3 := r3.drewN m
    clear r4
    generalize w3.drewN m = w4 at *
    go_wp2_with fail
    refine (storeB_impl A1 c1 xs w4 r1 (by omega)).mono ?_
    rintro e w5 ⟨rfl, b5⟩
    replace r1 := r1.new b5
    replace r2 := r2.new b5
    replace r3 := r3.new b5
    replace hB := bthen hB b5
    clear b5
    cases hs : storeB xs
    · have HN := hide (applyL_no (s := xs) (d := ys) (by simp [hs]))
      rw [unhide HN]
      go_wp2_with fail
      refine (alive_any _).mono ?_
      rintro e w6 ⟨rfl, b6⟩
      go_wp2
      go_ret
      exact ⟨rfl, bthen hB b6⟩
    go_wp2_with fail
    refine (diffB_impl A2 c2 ys w5 r2 (by omega)).mono ?_
    rintro e w6 ⟨rfl, b6⟩
    replace r1 := r1.new b6
    replace r2 := r2.new b6
    replace r3 := r3.new b6
    replace hB := bthen hB b6
    clear b6
    cases hd : diffB ys
    · have HN := hide (applyL_no (s := xs) (d := ys) (by simp [hd]))
      rw [unhide HN]
      go_wp2_with fail
      refine (alive_any _).mono ?_
      rintro e w6 ⟨rfl, b6⟩
      go_wp2
      go_ret
      exact ⟨rfl, bthen hB b6⟩
    have HA := hide (apply_at hs hd)
    have HX := hide (applyL_yes hs hd).1
    have HT := hide (apply_twice hs hd)
    have HEV := hide (show evOk 0 (((0 : Nat) : Int) - 1) (ys.drop 0) = true from hd)
    have HS := hide hs
    have HD := hide hd
    clear hs hd
    generalize hzs : applyL xs ys = zs at *
    have HZ := hide hzs
    clear hzs
    go_wp2
    go_loopw [6, 7, 8] (fun a i _ wr => ∃ (j k : Nat), j ≤ ys.length ∧ k ≤ 32 ∧ a = .int .i64 j ∧ i = .int .i64 k ∧ evOk 0 ((k : Int) - 1) (ys.drop j) = true ∧ (∀ q : Int, (k : Int) ≤ q → findL ys q = findL (ys.drop j) q) ∧ Below w6.heap.size w6 wr) (fun _ i _ _ => 32 - (intOf i).toNat)
    case atStart => exact ⟨0, 0, Nat.zero_le _, by omega, rfl, rfl, unhide HEV, fun q _ => rfl, Below.refl _ _⟩
    case round =>
      obtain ⟨j, k, hj, hk, rfl, rfl, hev, hf, hB6⟩ := hrel
      obtain ⟨HY, HNO⟩ := walk_step hev hf
      have HEV := hide hev
      have HF := hide hf
      have HY' := hide HY
      have HNO' := hide HNO
      clear hev hf HY HNO
      by_cases hlt : k < 32
      · have hk31 : (k : Int) ≤ 31 := by omega
        have HAk := hide (unhide HA k hlt)
        have HV1 := hide (valAt_yes (unhide HS) k hlt)
        have HV2 := hide (valAt_yes (unhide HX) k hlt)
        go_wp2_with fail
        refine (valueAt_impl A1 c1 xs (k : Int) wr (r1.new hB6) (by omega)).mono ?_
        rintro e w7 ⟨rfl, b7⟩
        rw [unhide HV1]
        have hB7 := bthen hB6 b7
        by_cases hjl : j < ys.length
        · obtain ⟨b, off, rfl, hbb, d0, d1⟩ := (r2.new hB7).ent hjl
          have i1 : (j : Int) < (ys.length : Int) := by omega
          by_cases he : ys[j].k = (k : Int)
          · obtain ⟨g1, g2, g3⟩ := unhide HY' hjl he
            have HG := hide (show atL zs (k : Int) = ys[j].v by rw [unhide HAk, g1]; rfl)
            have G2 := hide g2
            have G3 := hide g3
            have he2 : (ys[j].k == (k : Int)) = true := by simpa using he
            clear g1 g2 g3 he
            generalize ys[j] = yj at *
            go_wp2_with fail
            refine (valueAt_impl A3 c3 zs (k : Int) w7 (r3.new hB7) (by omega)).mono ?_
            rintro e w8 ⟨rfl, b8⟩
            rw [unhide HV2, unhide HG]
            go_wp2
            go_roundw
            case rel => exact ⟨j + 1, k + 1, by omega, by omega, by go_num, by go_num, unhide G2, unhide G3, bthen hB7 b8⟩
            case measure => simp [intOf]; omega
          · obtain ⟨g1, g2, g3⟩ := unhide HNO' (fun _ => he)
            have HG := hide (show atL zs (k : Int) = atL xs (k : Int) by rw [unhide HAk, g1]; rfl)
            have G2 := hide g2
            have G3 := hide g3
            have he2 : (ys[j].k == (k : Int)) = false := by simpa using he
            clear g1 g2 g3 he
            generalize ys[j] = yj at *
            go_wp2_with fail
            refine (valueAt_impl A3 c3 zs (k : Int) w7 (r3.new hB7) (by omega)).mono ?_
            rintro e w8 ⟨rfl, b8⟩
            rw [unhide HV2, unhide HG]
            go_wp2
            go_roundw
            case rel => exact ⟨j, k + 1, by omega, by omega, rfl, by go_num, unhide G2, unhide G3, bthen hB7 b8⟩
            case measure => simp [intOf]; omega
        · obtain ⟨g1, g2, g3⟩ := unhide HNO' (fun hh => absurd hh hjl)
          have HG := hide (show atL zs (k : Int) = atL xs (k : Int) by rw [unhide HAk, g1]; rfl)
          have G2 := hide g2
          have G3 := hide g3
          clear g1 g2 g3
          have i1 : ¬ (j : Int) < (ys.length : Int) := by omega
          go_wp2_with fail
          refine (valueAt_impl A3 c3 zs (k : Int) w7 (r3.new hB7) (by omega)).mono ?_
          rintro e w8 ⟨rfl, b8⟩
          rw [unhide HV2, unhide HG]
          go_wp2
          go_roundw
          case rel => exact ⟨j, k + 1, by omega, by omega, rfl, by go_num, unhide G2, unhide G3, bthen hB7 b8⟩
          case measure => simp [intOf]; omega
      · have hk31 : ¬ (k : Int) ≤ 31 := by omega
        go_wp2_with fail
        refine (storeB_impl A3 c3 zs wr (r3.new hB6) (by omega)).mono ?_
        rintro e w7 ⟨rfl, b7⟩
        rw [unhide HX]
        have hB7 := bthen hB6 b7
        go_wp2_with fail
        refine (applyDiff_impl A3 A2 c3 c2 zs ys w7 (r3.new hB7) (r2.new hB7) (by omega) (by omega)).mono ?_
        rintro e w8 ⟨A8, c8, rfl, o8, b8⟩
        have hB8 := bthen hB7 b8
        have r8 := own_rd o8
        rw [unhide HT] at r8 ⊢
        clear o8
        go_wp2_with fail
        refine (sameStore_any A8 A3 c8 c3 _ _ w8 r8 (r3.new hB8) (by omega)).mono ?_
        rintro e w' ⟨rfl, m, rfl⟩
        rw [decide_eq_true rfl]
        go_wp2
        go_ret
        exact ⟨rfl, below_drewN (bthen hB hB8) m⟩
theorem join_no {a b : List Ent} (h : ¬ (diffB a = true ∧ diffB b = true)) : joinL a b = [] := by unfold joinL; rw [if_neg h]
set_option maxHeartbeats 1000000 in
theorem law_FnJoinDiffs (A : Option Addr) (c : Nat) (bs : List Int) (B : Option Addr) (d : Nat) (cs : List Int) (w : World) (h : Rd w A (bs.map (.int .u8))) (hw : ∀ b ∈ bs, 0 ≤ b ∧ b ≤ 255) (hc : bs.length ≤ c) (hm : c ≤ maxLen) (k : Rd w B (cs.map (.int .u8))) (kw : ∀ b ∈ cs, 0 ≤ b ∧ b ≤ 255) (kc : cs.length ≤ d) (km : d ≤ maxLen) :
    Calls Try.prog 8 #[.slice A bs.length c, .slice B cs.length d] w fun e w' => e = .returned (.bool true) ∧ Below w.heap.size w w' := by
  have hm2 : bs.length ≤ 9223372036854775807 := by simp only [maxLen] at hm; omega
  have km2 : cs.length ≤ 9223372036854775807 := by simp only [maxLen] at km; omega
  have HW := hide hw
  have HC := hide hc
  have HM := hide hm
  have KW := hide kw
  have KC := hide kc
  have KM := hide km
  clear hw hc hm kw kc km
  by_cases hl : (1048576 : Int) < (bs.length : Int)
  · go_enter Try.func8, Try.ntmps8
    go_wp2
    go_ret
    exact ⟨rfl, Below.refl _ _⟩
  by_cases kl : (1048576 : Int) < (cs.length : Int)
  · go_enter Try.func8, Try.ntmps8
    go_wp2
    go_ret
    exact ⟨rfl, Below.refl _ _⟩
  go_enter Try.func8, Try.ntmps8
  go_wp2_with fail
  refine (drawJoin_any A c bs w h (unhide HW) (unhide HC) (unhide HM)).mono ?_
  rintro e w1 ⟨A1, c1, A2, c2, xs, ys, hxl, hyl, rfl, r1, r2, b1⟩
  have hyz := joinL_len xs ys
  go_wp2_with fail
  refine (joinDiffs_impl A1 A2 c1 c2 xs ys w1 r1 r2 (by omega) (by omega)).mono ?_
  rintro e w2 ⟨A3, c3, rfl, o3, b2⟩
  have r3 := own_rd o3
  replace r1 := r1.new b2
  replace r2 := r2.new b2
  have hB := bthen b1 b2
  go_wp2_with fail
  refine (joinDiffs_spec A1 A2 c1 c2 xs ys w2 r1 r2 (by omega) (by omega)).mono ?_
  rintro e w3 ⟨A4, c4, rfl, o4, b3⟩
  have r4 := own_rd o4
  replace r1 := r1.new b3
  replace r2 := r2.new b3
  replace r3 := r3.new b3
  replace hB := bthen hB b3
  clear o3 o4 b1 b2 b3
  go_wp2_with fail
  refine (sameStore_any A3 A4 c3 c4 _ _ w3 r3 r4 (by omega)).mono ?_
  rintro e w' ⟨rfl, m, rfl⟩
  rw [decide_eq_true rfl]
  replace hB := below_drewN hB m
  replace r1 := r1.drewN m
  replace r2 := r2.drewN m
  replace r3 := r3.drewN m
  clear r4
  generalize w3.drewN m = w4 at *
  go_wp2_with fail
  refine (diffB_impl A1 c1 xs w4 r1 (by omega)).mono ?_
  rintro e w5 ⟨rfl, b5⟩
  replace r1 := r1.new b5
  replace r2 := r2.new b5
  replace r3 := r3.new b5
  replace hB := bthen hB b5
  clear b5
  cases hs : diffB xs
  · have HN := hide (join_no (a := xs) (b := ys) (by simp [hs]))
    rw [unhide HN]
    go_wp2_with fail
    refine (alive_any _).mono ?_
    rintro e w6 ⟨rfl, b6⟩
    go_wp2
    go_ret
    exact ⟨rfl, bthen hB b6⟩
  go_wp2_with fail
  refine (diffB_impl A2 c2 ys w5 r2 (by omega)).mono ?_
  rintro e w6 ⟨rfl, b6⟩
  replace r1 := r1.new b6
  replace r2 := r2.new b6
  replace r3 := r3.new b6
  replace hB := bthen hB b6
  clear b6
  cases hd : diffB ys
  · have HN := hide (join_no (a := xs) (b := ys) (by simp [hd]))
    rw [unhide HN]
    go_wp2_with fail
    refine (alive_any _).mono ?_
    rintro e w6 ⟨rfl, b6⟩
    go_wp2
    go_ret
    exact ⟨rfl, bthen hB b6⟩
  have HJ := hide (join_ok hs hd).1
  have HA := hide (fun s (hss : storeB s = true) => apply_join hss hs hd)
  clear hs hd
  generalize hzs : joinL xs ys = zs at *
  have HZ := hide hzs
  clear hzs
  go_wp2_with fail
  refine (drawDiffS_any B d cs w6 (k.new hB) (unhide KW) (unhide KC) (unhide KM)).mono ?_
  rintro e w7 ⟨A7, c7, A8, c8, ss, ts, hsl, htl, rfl, r7, r8, b7⟩
  replace r1 := r1.new b7
  replace r2 := r2.new b7
  replace r3 := r3.new b7
  replace hB := bthen hB b7
  clear b7 r8 htl
  go_wp2_with fail
  refine (diffB_impl A3 c3 zs w7 r3 (by omega)).mono ?_
  rintro e w8 ⟨rfl, b8⟩
  replace r1 := r1.new b8
  replace r2 := r2.new b8
  replace r3 := r3.new b8
  replace r7 := r7.new b8
  replace hB := bthen hB b8
  clear b8
  rw [unhide HJ]
  go_wp2_with fail
  refine (storeB_impl A7 c7 ss w8 r7 (by omega)).mono ?_
  rintro e w9 ⟨rfl, b9⟩
  replace r1 := r1.new b9
  replace r2 := r2.new b9
  replace r3 := r3.new b9
  replace r7 := r7.new b9
  replace hB := bthen hB b9
  clear b9
  cases hss : storeB ss
  · go_wp2
    go_ret
    exact ⟨rfl, hB⟩
  have HAS := hide (unhide HA ss hss)
  clear hss
  have hla := applyL_len ss xs
  have hlb := applyL_len (applyL ss xs) ys
  go_wp2_with fail
  refine (applyDiff_impl A7 A3 c7 c3 ss zs w9 r7 r3 (by omega) (by omega)).mono ?_
  rintro e w10 ⟨A10, c10, rfl, o10, b10⟩
  have r10 := own_rd o10
  replace r1 := r1.new b10
  replace r2 := r2.new b10
  replace r7 := r7.new b10
  replace hB := bthen hB b10
  clear b10 o10
  rw [unhide HAS] at r10 ⊢
  go_wp2_with fail
  refine (applyDiff_impl A7 A1 c7 c1 ss xs w10 r7 r1 (by omega) (by omega)).mono ?_
  rintro e w11 ⟨A11, c11, rfl, o11, b11⟩
  have r11 := own_rd o11
  replace r2 := r2.new b11
  replace r10 := r10.new b11
  replace hB := bthen hB b11
  clear b11 o11
  go_wp2_with fail
  refine (applyDiff_impl A11 A2 c11 c2 _ ys w11 r11 r2 (by omega) (by omega)).mono ?_
  rintro e w12 ⟨A12, c12, rfl, o12, b12⟩
  have r12 := own_rd o12
  replace r10 := r10.new b12
  replace hB := bthen hB b12
  clear b12 o12
  go_wp2_with fail
  refine (sameStore_any A10 A12 c10 c12 _ _ w12 r10 r12 (by omega)).mono ?_
  rintro e w' ⟨rfl, m2, rfl⟩
  rw [decide_eq_true rfl]
  go_wp2
  go_ret
  exact ⟨rfl, below_drewN hB m2⟩
theorem diffL_no {a b : List Ent} (h : storeB a = false ∨ storeB b = false) : diffL a b = [] := by
  have : changedL a b = [] := by unfold changedL; rcases h with h | h <;> simp [h]
  simp [diffL, this]
set_option maxHeartbeats 1000000 in
theorem law_FnDiffStores (A : Option Addr) (c : Nat) (bs : List Int) (w : World) (h : Rd w A (bs.map (.int .u8))) (hw : ∀ b ∈ bs, 0 ≤ b ∧ b ≤ 255) (hc : bs.length ≤ c) (hm : c ≤ maxLen) :
    Calls Try.prog 7 #[.slice A bs.length c] w fun e w' => e = .returned (.bool true) ∧ Below w.heap.size w w' := by
  have hm2 : bs.length ≤ 9223372036854775807 := by simp only [maxLen] at hm; omega
  by_cases hl : (1048576 : Int) < (bs.length : Int)
  · clear hw
    go_enter Try.func7, Try.ntmps7
    go_wp2
    go_ret
    exact ⟨rfl, Below.refl _ _⟩
  have HW := hide hw
  have HC := hide hc
  have HM := hide hm
  clear hw hc hm
  go_enter Try.func7, Try.ntmps7
  go_wp2_with fail
  refine (drawDiffS_any A c bs w h (unhide HW) (unhide HC) (unhide HM)).mono ?_
  rintro e w1 ⟨A1, c1, A2, c2, xs, ys, hxl, hyl, rfl, r1, r2, b1⟩
  have hyz := diffL_len xs ys
  go_wp2_with fail
  refine (diffStores_impl A1 A2 c1 c2 xs ys w1 r1 r2 (by omega) (by omega)).mono ?_
  rintro e w2 ⟨A3, c3, rfl, o3, b2⟩
  have r3 := own_rd o3
  replace r1 := r1.new b2
  replace r2 := r2.new b2
  have hB := bthen b1 b2
  go_wp2_with fail
  refine (diffStores_spec A1 A2 c1 c2 xs ys w2 r1 r2 (by omega) (by omega)).mono ?_
  rintro e w3 ⟨A4, c4, rfl, o4, b3⟩
  have r4 := own_rd o4
  replace r1 := r1.new b3
  replace r2 := r2.new b3
  replace r3 := r3.new b3
  replace hB := bthen hB b3
  clear o3 o4 b1 b2 b3
  go_wp2_with fail
  refine (sameStore_any A3 A4 c3 c4 _ _ w3 r3 r4 (by omega)).mono ?_
  rintro e w' ⟨rfl, m, rfl⟩
  rw [decide_eq_true rfl]
  replace hB := below_drewN hB m
  replace r1 := r1.drewN m
  replace r2 := r2.drewN m
  replace r3 := r3.drewN m
  clear r4
  generalize w3.drewN m = w4 at *
  go_wp2_with fail
  refine (storeB_impl A1 c1 xs w4 r1 (by omega)).mono ?_
  rintro e w5 ⟨rfl, b5⟩
  replace r1 := r1.new b5
  replace r2 := r2.new b5
  replace r3 := r3.new b5
  replace hB := bthen hB b5
  clear b5
  cases hs : storeB xs
  · have HN := hide (diffL_no (a := xs) (b := ys) (by simp [hs]))
    rw [unhide HN]
    go_wp2_with fail
    refine (alive_any _).mono ?_
    rintro e w6 ⟨rfl, b6⟩
    go_wp2
    go_ret
    exact ⟨rfl, bthen hB b6⟩
  go_wp2_with fail
  refine (storeB_impl A2 c2 ys w5 r2 (by omega)).mono ?_
  rintro e w6 ⟨rfl, b6⟩
  replace r1 := r1.new b6
  replace r2 := r2.new b6
  replace r3 := r3.new b6
  replace hB := bthen hB b6
  clear b6
  cases hd : storeB ys
  · have HN := hide (diffL_no (a := xs) (b := ys) (by simp [hd]))
    rw [unhide HN]
    go_wp2_with fail
    refine (alive_any _).mono ?_
    rintro e w6 ⟨rfl, b6⟩
    go_wp2
    go_ret
    exact ⟨rfl, bthen hB b6⟩
  have HJ := hide (diff_ok hs hd).1
  have HA := hide (diff_ok hs hd).2
  have HS := hide (diff_self xs)
  clear hs hd
  generalize diffL xs ys = zs at *
  go_wp2_with fail
  refine (applyDiff_impl A1 A3 c1 c3 xs zs w6 r1 r3 (by omega) (by omega)).mono ?_
  rintro e w7 ⟨A7, c7, rfl, o7, b7⟩
  have r7 := own_rd o7
  replace r1 := r1.new b7
  replace r2 := r2.new b7
  replace r3 := r3.new b7
  replace hB := bthen hB b7
  clear b7 o7
  rw [unhide HA] at r7 ⊢
  go_wp2_with fail
  refine (diffB_impl A3 c3 zs w7 r3 (by omega)).mono ?_
  rintro e w8 ⟨rfl, b8⟩
  replace r1 := r1.new b8
  replace r2 := r2.new b8
  replace r7 := r7.new b8
  replace hB := bthen hB b8
  clear b8
  rw [unhide HJ]
  go_wp2_with fail
  refine (sameStore_any A7 A2 c7 c2 _ _ w8 r7 r2 (by omega)).mono ?_
  rintro e w' ⟨rfl, m2, rfl⟩
  rw [decide_eq_true rfl]
  replace hB := below_drewN hB m2
  replace r1 := r1.drewN m2
  replace r2 := r2.drewN m2
  replace r7 := r7.drewN m2
  generalize w8.drewN m2 = w9 at *
  go_wp2_with fail
  refine (rootOf_impl A7 c7 ys w9 r7 (by omega)).mono ?_
  rintro e w10 ⟨rfl, b10⟩
  replace r1 := r1.new b10
  replace r2 := r2.new b10
  replace hB := bthen hB b10
  clear b10
  go_wp2_with fail
  refine (rootOf_impl A2 c2 ys w10 r2 (by omega)).mono ?_
  rintro e w11 ⟨rfl, b11⟩
  replace r1 := r1.new b11
  replace hB := bthen hB b11
  clear b11
  generalize rootL ys = z at *
  go_wp2_with fail
  refine (diffStores_impl A1 A1 c1 c1 xs xs w11 r1 r1 (by omega) (by omega)).mono ?_
  rintro e w12 ⟨A12, c12, rfl, -, b12⟩
  rw [unhide HS]
  go_wp2
  go_ret
  exact ⟨rfl, bthen hB b12⟩
end Go.Proofs.Ytpfdhbomcoafdaa
