/- Spreads: SpreadAll of impl and spec. -/
import Derived.Test.YtcpdocpapgpclaaSpreadI
import Derived.Test.YtcpdocpapgpclaaSpreadM
namespace Go.Proofs.Ytcpdocpapgpclaa
open Go.RowKit
set_option linter.unusedVariables false
set_option linter.unusedSimpArgs false

theorem getD_some {xs : List Int} {j : Nat} (h : j < xs.length) : xs[j]? = some (xs.getD j 0) := by simp [List.getD_eq_getElem?_getD, h]
def NoA (b : Bool) (A : Option Addr) : Prop := b = false → A = none
theorem noA_none (b : Bool) : NoA b none := fun _ => rfl
theorem noA_true (A : Option Addr) : NoA true A := fun h => nomatch h
set_option maxRecDepth 100000 in
theorem spreadAll_impl (A B : Option Addr) (c d : Nat) (xs ys : List Int) (w : World) (h : Rd w A (xs.map (.int .i64))) (h' : Rd w B (ys.map (.int .i64))) (hb : xs.length ≤ 1099511627776) (hb' : ys.length ≤ 4611686018427387904) :
    Calls Try.prog 16 #[.slice A xs.length c, .slice B ys.length d] w fun e w' => ∃ A' c', e = .returned (.tuple #[.slice A' (spAllL xs ys).length c', .int .i64 (spAllN xs ys)]) ∧ NoA (spreadB xs ys) A' ∧ w'.ownsRow w.heap.size 3 1 (.slice A' (spAllL xs ys).length c') (spAllL xs ys).length ((spAllL xs ys).map (.int .i64)) ∧ Below w.heap.size w w' := by
  cases hx : spreadB xs ys
  · have HX := hide hx
    have HC := hide (show spAllL xs ys = [] ∧ spAllN xs ys = 0 by simp [spAllL, spAllN, hx])
    clear hx
    rw [(unhide HC).1, (unhide HC).2]
    go_enter Try.func16, Try.ntmps16
    go_wp2_with fail
    refine (fits_any A B c d xs ys w h h' (by omega) hb').mono ?_
    rintro e w' ⟨rfl, rfl⟩
    rw [unhide HX]
    go_wp2
    go_ret2
    exact ⟨none, 0, rfl, noA_none _, own_nil _ _ _ _, Below.refl _ _⟩
  · have HX := hide hx
    have HC := hide (show spAllL xs ys = spIt xs ys (spEnd xs ys) ∧ spAllN xs ys = (spEnd xs ys : Int) by simp [spAllL, spAllN, hx])
    obtain ⟨h1, h2⟩ := Bool.and_eq_true_iff.1 hx
    have H1 := hide (l30_yes h1)
    have H2 := hide (l30_yes h2)
    clear hx h1 h2
    have HE := hide (spIt_len (ys := ys) (unhide H1).1 (spEnd xs ys))
    rw [(unhide HC).1, (unhide HC).2, unhide HE]
    have h4 : xs.length ≤ 4 := by have := (unhide H1).1; omega
    have h4' : 0 < xs.length := by have := (unhide H1).1; omega
    have h5 : ys.length ≤ 4 := by have := (unhide H2).1; omega
    go_enter Try.func16, Try.ntmps16
    go_wp2_with fail
    refine (fits_any A B c d xs ys w h h' (by omega) hb').mono ?_
    rintro e w' ⟨rfl, rfl⟩
    rw [unhide HX]
    go_wp2_with fail
    refine (cloneI_any A c xs w h h4' (by omega)).mono ?_
    rintro e w1 ⟨A1, c1, rfl, o1, b1⟩
    rw [(unhide H1).1] at o1
    rw [(unhide H1).1]
    have o2 : w1.ownsRow w.heap.size 3 1 (.slice A1 4 c1) 4 ((spIt xs ys 0).map (.int .i64)) := o1
    clear o1
    go_wp2
    go_loopw [6, 7] (fun s i wr => ∃ (r : Nat) (A' : Option Addr) (c' : Nat), r ≤ 3 ∧ i = .int .i64 r ∧ s = .slice A' 4 c' ∧ (∀ j, j < r → fixB xs ys j = false) ∧ wr.ownsRow w.heap.size 3 1 (.slice A' 4 c') 4 ((spIt xs ys r).map (.int .i64)) ∧ Below w.heap.size w wr) (fun _ i _ => 3 - (intOf i).toNat)
    case atStart => exact ⟨0, A1, c1, by omega, rfl, rfl, fun j hj => absurd hj (by omega), o2, b1⟩
    case round =>
      clear o2 b1
      obtain ⟨r, A', c', hr, rfl, rfl, hn, own, hB⟩ := hrel
      have HN := hide hn
      clear hn
      have L1 := hide (spIt_len (ys := ys) (unhide H1).1 r)
      have R1 := own_rd own
      go_wp2_with fail
      rw [← unhide L1]
      refine (spread_any A' B c' d (spIt xs ys r) ys wr R1 (h'.new hB) (unhide L1) (unhide H2).1 (spIt_bd (unhide H1).2 r) (unhide H2).2).mono ?_
      rintro e w2 ⟨A2, c2, rfl, o2, b2⟩
      rw [unhide L1]
      have hB2 := below_then hB b2 hB.size
      have own2 := own_new own b2
      have L2 := hide (spreadF_len (spIt xs ys r) ys)
      go_wp2_with fail
      have R2 := own_rd o2
      have R3 := own_rd own2
      clear own
      rw [← unhide L1]
      have hq := equalI_any A2 A' c2 c' (spreadF (spIt xs ys r) ys) (spIt xs ys r) w2 R2 R3 (by rw [unhide L2]; omega) (by rw [unhide L1]; omega)
      rw [unhide L2, unhide L1] at hq
      rw [unhide L1]
      refine hq.mono ?_
      rintro e w3 ⟨rfl, nq, rfl⟩
      clear hq
      cases hf : fixB xs ys r
      · have HF := hide hf
        have hf' : decide (spreadF (spIt xs ys r) ys = spIt xs ys r) = false := hf
        have hr3 : r < 3 := by
          rcases Nat.lt_or_ge r 3 with h | h
          · exact h
          · obtain rfl : r = 3 := by omega
            rw [fixB_3 (unhide H1).1 (unhide H1).2] at hf
            cases hf
        rw [hf']
        clear hf hf'
        go_wp2
        go_roundw
        case rel =>
          refine ⟨r + 1, A2, c2, by omega, by go_num, rfl, fun j hj => ?_, own_base o2 hB.size, below_drewN hB2 nq⟩
          rcases Nat.lt_or_ge j r with h3 | h3
          · exact unhide HN j h3
          · have : j = r := by omega
            subst this
            exact unhide HF
        case measure => simp [intOf]; omega
      · have HF := hide hf
        have hf' : decide (spreadF (spIt xs ys r) ys = spIt xs ys r) = true := hf
        have HE2 := hide (spEnd_eq hr hf (unhide HN))
        rw [hf']
        clear hf hf'
        go_wp2
        go_ret2
        rw [unhide HE2]
        exact ⟨A', c', rfl, noA_true _, own2, below_drewN hB2 nq⟩
theorem spreadAll_impl' (A B : Option Addr) (c d : Nat) (xs ys : List Int) (w : World) (h : Rd w A (xs.map (.int .i64))) (h' : Rd w B (ys.map (.int .i64))) (hb : xs.length ≤ 1099511627776) (hb' : ys.length ≤ 4611686018427387904) :
    Calls Try.prog 16 #[.slice A xs.length c, .slice B ys.length d] w fun e w' => ∃ A' c', e = .returned (.tuple #[.slice A' (spAllL xs ys).length c', .int .i64 (spAllN xs ys)]) ∧ w'.ownsRow w.heap.size 3 1 (.slice A' (spAllL xs ys).length c') (spAllL xs ys).length ((spAllL xs ys).map (.int .i64)) ∧ Below w.heap.size w w' :=
  (spreadAll_impl A B c d xs ys w h h' hb hb').mono fun _ _ ⟨A', c', h1, _, h2, h3⟩ => ⟨A', c', h1, h2, h3⟩
set_option maxRecDepth 100000 in
theorem spreadAll_spec (A B : Option Addr) (c d : Nat) (xs ys : List Int) (w : World) (h : Rd w A (xs.map (.int .i64))) (h' : Rd w B (ys.map (.int .i64))) (hb : xs.length ≤ 1099511627776) (hb' : ys.length ≤ 4611686018427387904) :
    Calls Try.prog 15 #[.slice A xs.length c, .slice B ys.length d] w fun e w' => ∃ A' c', e = .returned (.tuple #[.slice A' (spAllL xs ys).length c', .int .i64 (spAllN xs ys)]) ∧ w'.ownsRow w.heap.size 3 1 (.slice A' (spAllL xs ys).length c') (spAllL xs ys).length ((spAllL xs ys).map (.int .i64)) ∧ Below w.heap.size w w' := by
  have o0 := own_made (base := w.heap.size) (e := 3) (size := 1) w #[] 0 (Nat.le_refl _) (by simp [maxLen]) rfl
  cases hx : spreadB xs ys
  · have HX := hide hx
    have HS := hide (show spreadL xs ys = [] by simp [spreadL, hx])
    have HC := hide (show spAllL xs ys = [] ∧ spAllN xs ys = 0 by simp [spAllL, spAllN, hx])
    clear hx
    rw [(unhide HC).1, (unhide HC).2]
    go_enter Try.func15, Try.ntmps15
    go_wp2_with (at_builtin; refine wpList_app rfl (.tmp 11) (.tmp 12) 22 rfl el_int rfl o0 rfl (h.alloc _) (by simp) (one_ints xs) (by simp only [maxLen]; omega) (by omega) (by simp) ?_; intro A1 c1 w1 o1 ch1 _ _; simp only [Nat.zero_add, List.nil_append] at o1)
    have b1 : Below w.heap.size w w1 := ((Below.refl _ _).alloc (Nat.le_refl _) _).trans (ch1.below (fun k hk hA => by injection hA with hA; injection hA with hA; omega) (by simp))
    clear ch1 o0
    go_loopw [6, 7] (fun i s wr => i = .int .i64 0 ∧ s = .slice A1 xs.length c1 ∧ wr = w1) (fun _ _ _ => 0)
    case atStart => exact ⟨rfl, rfl, rfl⟩
    case round =>
      obtain ⟨rfl, rfl, rfl⟩ := hrel
      go_wp2_with fail
      refine (spreadOnce_spec A1 B c1 d xs ys _ (own_rd o1) (h'.new b1) hb hb').mono ?_
      rintro e w2 ⟨A2, c2, rfl, o2, b2⟩
      rw [unhide HS]
      have hB2 := below_then b1 b2 b1.size
      go_wp2
      go_ret2
      exact ⟨_, _, rfl, own_made (base := w.heap.size) w2 #[] 0 hB2.size (by simp [maxLen]) rfl, hB2.alloc hB2.size _⟩
  · have HX := hide hx
    have HC := hide (show spAllL xs ys = spIt xs ys (spEnd xs ys) ∧ spAllN xs ys = (spEnd xs ys : Int) by simp [spAllL, spAllN, hx])
    obtain ⟨h1, h2⟩ := Bool.and_eq_true_iff.1 hx
    have H1 := hide (l30_yes h1)
    have H2 := hide (l30_yes h2)
    have HSL := hide (fun r => spreadL_it hx r)
    clear hx h1 h2
    have HE := hide (spIt_len (ys := ys) (unhide H1).1 (spEnd xs ys))
    rw [(unhide HC).1, (unhide HC).2, unhide HE]
    have h4 : xs.length ≤ 4 := by have := (unhide H1).1; omega
    have h5 : ys.length ≤ 4 := by have := (unhide H2).1; omega
    go_enter Try.func15, Try.ntmps15
    go_wp2_with (at_builtin; refine wpList_app rfl (.tmp 11) (.tmp 12) 22 rfl el_int rfl o0 rfl (h.alloc _) (by simp) (one_ints xs) (by simp only [maxLen]; omega) (by omega) (by simp) ?_; intro A1 c1 w1 o1 ch1 _ _; simp only [Nat.zero_add, List.nil_append] at o1)
    have b1 : Below w.heap.size w w1 := ((Below.refl _ _).alloc (Nat.le_refl _) _).trans (ch1.below (fun k hk hA => by injection hA with hA; injection hA with hA; omega) (by simp))
    clear ch1 o0
    rw [(unhide H1).1] at o1
    rw [(unhide H1).1]
    have o2 : w1.ownsRow w.heap.size 3 1 (.slice A1 4 c1) 4 ((spIt xs ys 0).map (.int .i64)) := o1
    clear o1
    go_loopw [6, 7] (fun i s wr => ∃ (r : Nat) (A' : Option Addr) (c' : Nat), r ≤ 3 ∧ i = .int .i64 r ∧ s = .slice A' 4 c' ∧ (∀ j, j < r → fixB xs ys j = false) ∧ wr.ownsRow w.heap.size 3 1 (.slice A' 4 c') 4 ((spIt xs ys r).map (.int .i64)) ∧ Below w.heap.size w wr) (fun i _ _ => 3 - (intOf i).toNat)
    case atStart => exact ⟨0, A1, c1, by omega, rfl, rfl, fun j hj => absurd hj (by omega), o2, b1⟩
    case round =>
      clear o2 b1
      obtain ⟨r, A', c', hr, rfl, rfl, hn, own, hB⟩ := hrel
      have HN := hide hn
      clear hn
      have L1 := hide (spIt_len (ys := ys) (unhide H1).1 r)
      have R1 := own_rd own
      go_wp2_with fail
      have hq := spreadOnce_spec A' B c' d (spIt xs ys r) ys wr R1 (h'.new hB) (by rw [unhide L1]; omega) (by omega)
      rw [unhide HSL, spreadF_len, unhide L1] at hq
      refine hq.mono ?_
      clear hq
      rintro e w2 ⟨A2, c2, rfl, o2, b2⟩
      have hB2 := below_then hB b2 hB.size
      have own2 := own_new own b2
      clear own
      obtain ⟨ns, hns⟩ : ∃ ns, ns = spreadF (spIt xs ys r) ys := ⟨_, rfl⟩
      obtain ⟨os, hos⟩ : ∃ os, os = spIt xs ys r := ⟨_, rfl⟩
      have hln : ns.length = 4 := by rw [hns, spreadF_len]
      have hlo : os.length = 4 := by rw [hos, unhide L1]
      have hfx : fixB xs ys r = decide (ns = os) := by unfold fixB; rw [hns, hos]
      rw [← hns] at o2
      rw [← hos] at own2
      have HNS := hide hns
      have HOS := hide hos
      have HFX := hide hfx
      have HLN := hide hln
      have HLO := hide hlo
      have n4 : 4 ≤ ns.length := by omega
      have n4' : 4 ≤ os.length := by omega
      clear hns hos hfx hln hlo R1
      have R2 := own_rd o2
      have R3 := own_rd own2
      obtain ⟨p2, off2, hA2, hp2, hc2⟩ := R2.intD (k := 0) (by omega)
      obtain ⟨p3, off3, hA3, hp3, hc3⟩ := R3.intD (k := 0) (by omega)
      subst hA2 hA3
      have HC2 := hide hc2
      have HC3 := hide hc3
      have OW := hide own2
      have O2 := hide o2
      have HBB := hide hB2
      clear hc2 hc3 R2 R3 own2 o2 hB2
      go_wp2
      go_loopw [9, 10] (fun s i wq => ∃ (j : Nat) (z : Bool), j ≤ 4 ∧ i = .int .i64 j ∧ s = .bool z ∧ (z = true ↔ ∀ k, k < j → ns[k]? = os[k]?) ∧ ∃ m, wq = w2.drewN m) (fun _ i _ => 4 - (intOf i).toNat)
      case atStart => exact ⟨0, true, by omega, rfl, rfl, (by simp), 0, rfl⟩
      case round =>
        obtain ⟨j, z, hj, rfl, rfl, hz, m, rfl⟩ := hrel
        have HZ := hide hz
        clear hz
        by_cases hlj : j < 4
        · have cj := unhide HC2 j (by omega)
          have ck := unhide HC3 j (by omega)
          have i1 : (j : Int) < 4 := by omega
          obtain ⟨x, hx⟩ : ∃ x, x = ns.getD j 0 := ⟨_, rfl⟩
          obtain ⟨y, hy⟩ : ∃ y, y = os.getD j 0 := ⟨_, rfl⟩
          have hnj : ns[j]? = some x := by rw [hx]; exact getD_some (by omega)
          have hoj : os[j]? = some y := by rw [hy]; exact getD_some (by omega)
          rw [← hx] at cj
          rw [← hy] at ck
          have HNJ := hide hnj
          have HOJ := hide hoj
          clear hx hy hnj hoj
          cases z
          · have HZ2 := hide (show ¬ ∀ k, k < j + 1 → ns[k]? = os[k]? from fun hall => by have := (unhide HZ).2 (fun k hk => hall k (by omega)); cases this)
            go_wp2
            go_quiet (fail)
            go_wp2
            go_roundw
            case rel => exact ⟨j + 1, false, by omega, by go_num, rfl, ⟨(fun h => nomatch h), (fun h => absurd h (unhide HZ2))⟩, _, rfl⟩
            case measure => simp [intOf]; omega
          · have hjs := (unhide HZ).1 rfl
            have HZ2 := hide (show (x == y) = true ↔ ∀ k, k < j + 1 → ns[k]? = os[k]? from by
              rw [beq_iff_eq]
              constructor
              · intro e k hk
                rcases Nat.lt_or_ge k j with h3 | h3
                · exact hjs k h3
                · have : k = j := by omega
                  subst this
                  rw [unhide HNJ, unhide HOJ, e]
              · intro hall
                have := hall j (by omega)
                rw [unhide HNJ, unhide HOJ] at this
                injection this)
            clear hjs
            go_wp2
            go_quiet (fail)
            go_wp2
            go_roundw
            case rel => exact ⟨j + 1, (x == y), by omega, by go_num, rfl, unhide HZ2, _, rfl⟩
            case measure => simp [intOf]; omega
        · obtain rfl : j = 4 := by omega
          have hzf : z = fixB xs ys r := by
            rw [unhide HFX, Bool.eq_iff_iff, decide_eq_true_eq]
            rw [unhide HZ]
            constructor
            · intro hall
              apply List.ext_getElem?
              intro k
              rcases Nat.lt_or_ge k 4 with h3 | h3
              · exact hall k h3
              · rw [List.getElem?_eq_none (by rw [unhide HLN]; omega), List.getElem?_eq_none (by rw [unhide HLO]; omega)]
            · intro e k _
              rw [e]
          subst hzf
          cases hf : fixB xs ys r
          · have HF := hide hf
            have hr3 : r < 3 := by
              rcases Nat.lt_or_ge r 3 with h | h
              · exact h
              · obtain rfl : r = 3 := by omega
                rw [fixB_3 (unhide H1).1 (unhide H1).2] at hf
                cases hf
            clear hf
            go_wp2
            go_roundw
            case rel =>
              refine ⟨r + 1, _, c2, by omega, by go_num, rfl, fun j hj => ?_, own_base (?_ : _) hB.size, below_drewN (unhide HBB) m⟩
              · rcases Nat.lt_or_ge j r with h3 | h3
                · exact unhide HN j h3
                · have : j = r := by omega
                  subst this
                  exact unhide HF
              · have := unhide O2
                rw [unhide HNS] at this
                exact this
            case measure => simp [intOf]; omega
          · have HF := hide hf
            have HE2 := hide (spEnd_eq hr hf (unhide HN))
            clear hf
            go_wp2
            go_ret2
            rw [unhide HE2]
            have own3 := unhide OW
            rw [unhide HOS] at own3
            exact ⟨_, c', rfl, own3, below_drewN (unhide HBB) m⟩
end Go.Proofs.Ytcpdocpapgpclaa
