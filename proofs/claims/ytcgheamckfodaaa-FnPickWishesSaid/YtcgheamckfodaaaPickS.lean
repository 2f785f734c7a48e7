/- PickWishes of the reference. -/
import Derived.Test.YtcgheamckfodaaaPickI
namespace Go.Proofs.Ytcgheamckfodaaa
open Go.RowKit
set_option linter.unusedVariables false
set_option linter.unusedSimpArgs false

theorem make_four (w : World) : (Instr.makeSlice 50 (.int .i64 4) (.int .i64 4)).run Try.prog w = .ok (.slice (some ⟨w.heap.size, 0, none⟩) 4 4) (w.alloc (.cells #[.bool false, .bool false, .bool false, .bool false] 4)) := make_bools 4 (by omega) w
set_option maxRecDepth 100000 in
set_option maxHeartbeats 4000000 in
theorem pickWishes_spec (A : Option Addr) (c : Nat) (xs : List Wsh) (many : Int) (w : World) (h : Rd w A (xs.flatMap encW)) (hb : xs.length ≤ 1048576) (hm1 : -9223372036854775808 ≤ many) (hm2 : many ≤ 9223372036854775807) :
    Calls Try.prog 14 #[.slice A xs.length c, .int .i64 many] w fun e w' => ∃ A' c', e = .returned (.slice A' (pickL xs many).length c') ∧ w'.ownsRow w.heap.size 3 1 (.slice A' (pickL xs many).length c') (pickL xs many).length ((pickL xs many).map fun i => Value.int .i64 (i : Nat)) ∧ Below w.heap.size w w' := by
  have hmk := fun W => make_bools xs.length hb W
  by_cases hbad : wishesB xs = true ∧ inB many 0 10 = true
  rotate_left
  · have HL := hide (show pickL xs many = [] by simp only [pickL, if_neg hbad])
    have o0 : (w.alloc (.cells #[] 3)).ownsRow w.heap.size 3 1 (.slice (some ⟨w.heap.size, 0, none⟩) 0 0) 0 [] := own_made (base := w.heap.size) (e := 3) (size := 1) w #[] 0 (Nat.le_refl _) (by simp [maxLen]) rfl
    replace o0 := own_alloc o0 (.cells (Array.replicate xs.length (Value.bool false)) 4)
    have b0 : Below w.heap.size w ((w.alloc (.cells #[] 3)).alloc (.cells (Array.replicate xs.length (Value.bool false)) 4)) := ((Below.refl _ _).alloc (Nat.le_refl _) _).alloc (by simp) _
    have hX := (h.alloc (.cells #[] 3)).alloc (.cells (Array.replicate xs.length (Value.bool false)) 4)
    by_cases hm0 : 0 < many
    · have t1 : decide (0 < many) = true := by simpa using hm0
      by_cases hl0 : 0 < xs.length
      · have t2 : decide (0 < xs.length) = true := by simpa using hl0
        cases hV : wishesB xs
        · clear hbad
          go_enter Try.func14, Try.ntmps14
          go_wp2
          refine wp_loop_rounds 1 ?_
          rw [rounds_succ]
          go_wp2_with fail
          refine (wishesValid_spec A c xs _ hX (by omega)).mono ?_
          rintro e w1 ⟨rfl, b1⟩
          rw [hV]
          go_wp2
          go_ret
          rw [unhide HL]
          exact ⟨_, _, rfl, own_new o0 b1, b0.trans (b1.mono (by simp; omega))⟩
        · cases hI : inB many 0 10
          · clear hbad
            go_enter Try.func14, Try.ntmps14
            go_wp2
            refine wp_loop_rounds 1 ?_
            rw [rounds_succ]
            go_wp2_with fail
            refine (wishesValid_spec A c xs _ hX (by omega)).mono ?_
            rintro e w1 ⟨rfl, b1⟩
            rw [hV]
            go_wp2_with fail
            refine (l1In_any many 0 10 _).mono ?_
            rintro e w' ⟨rfl, rfl⟩
            rw [hI]
            go_wp2
            go_ret
            rw [unhide HL]
            exact ⟨_, _, rfl, own_new o0 b1, b0.trans (b1.mono (by simp; omega))⟩
          · exact absurd ⟨hV, hI⟩ hbad
      · have t2 : decide (0 < xs.length) = false := by simpa using hl0
        clear hbad
        go_enter Try.func14, Try.ntmps14
        go_wp2
        refine wp_loop_rounds 1 ?_
        rw [rounds_succ]
        go_wp2
        go_ret
        rw [unhide HL]
        exact ⟨_, _, rfl, o0, b0⟩
    · have t1 : decide (0 < many) = false := by simpa using hm0
      clear hbad
      go_enter Try.func14, Try.ntmps14
      go_wp2
      refine wp_loop_rounds 1 ?_
      rw [rounds_succ]
      go_wp2
      go_ret
      rw [unhide HL]
      exact ⟨_, _, rfl, o0, b0⟩
  obtain ⟨hV, hI⟩ := hbad
  obtain ⟨hm3, hm4⟩ := inB_true.1 hI
  obtain ⟨mm, rfl⟩ := Int.eq_ofNat_of_zero_le hm3
  obtain ⟨T, hT⟩ : ∃ T, T = min mm xs.length := ⟨_, rfl⟩
  have HL := hide (show pickL xs (mm : Int) = (pkN xs T).2 by unfold pickL; rw [if_pos ⟨hV, hI⟩, hT]; rfl)
  have hTl : T ≤ xs.length := by omega
  have hTm : T ≤ mm := by omega
  have HT := hide hT
  clear hT
  have HV := hide hV
  have HI := hide hI
  have h12 := wishes_len hV
  have HW := hide (wishes_who hV)
  have HA := hide (fun j => pickL_all hV (j := j))
  have HAT := hide (wishes_at hV)
  clear hV hI hm1 hm2 hm3
  have hmk4 := make_four
  go_enter Try.func14, Try.ntmps14
  go_wp2
  clear hmk
  have o0 : (w.alloc (.cells #[] 3)).ownsRow w.heap.size 3 1 (.slice (some ⟨w.heap.size, 0, none⟩) 0 0) 0 [] := own_made (base := w.heap.size) (e := 3) (size := 1) w #[] 0 (Nat.le_refl _) (by simp [maxLen]) rfl
  go_loopw [5] (fun v wr => ∃ (j : Nat) (A' : Option Addr) (c' : Nat), j ≤ T ∧ v = .slice A' j c' ∧ wr.ownsRow w.heap.size 3 1 (.slice A' j c') j ((pkN xs j).2.map fun i => Value.int .i64 (i : Nat)) ∧ (∀ q, A' = some ⟨q, 0, none⟩ → q ≠ w.heap.size + 1) ∧ Blk wr (w.heap.size + 1) 4 (bA (pkN xs j).1) ∧ Below w.heap.size w wr) (fun v _ => match v with | .slice _ n _ => xs.length - n | _ => 0)
  case atStart =>
    have := bA_rep (w.alloc (.cells #[] 3)) 4 xs.length
    rw [show (w.alloc (.cells #[] 3)).heap.size = w.heap.size + 1 by simp] at this
    exact ⟨0, _, 0, by omega, rfl, own_alloc o0 _, fun q hq => (by injection hq with hq; injection hq with hq; omega), this, ((Below.refl _ _).alloc (Nat.le_refl _) _).alloc (by simp) _⟩
  case round =>
    obtain ⟨j, A', c', hj, rfl, hown, hAq, hblk, hbel⟩ := hrel
    have HAQ := hide hAq
    clear hAq
    by_cases hlt : j < T
    · have t1 : (decide (j < mm)) = true := by simp; omega
      have t2 : (decide (j < xs.length)) = true := by simp; omega
      obtain ⟨best, hbest, hbl, hbd, -⟩ := pk_best xs (pkN xs j).1 (unhide HAT) (unhide HA j (by omega)).dlen (by rw [(unhide HA j (by omega)).cnt]; omega)
      have HN := hide (show pkN xs (j + 1) = ((pkN xs j).1.set best true, (pkN xs j).2 ++ [best]) by rw [pkN, hbest])
      have HB := hide hbest
      have hdl := (unhide HA j (by omega)).dlen
      clear hbest
      generalize pkN xs j = s at *
      obtain ⟨dn, ps⟩ := s
      simp only at hown hblk hbd hdl HB HN
      go_wp2_with fail
      refine (wishesValid_spec A c xs _ (h.new hbel) (by omega)).mono ?_
      rintro e w1 ⟨rfl, b1⟩
      rw [unhide HV]
      go_wp2_with fail
      refine (l1In_any (mm : Int) 0 10 _).mono ?_
      rintro e w' ⟨rfl, rfl⟩
      rw [unhide HI]
      replace hown := own_new hown b1
      replace hblk := hblk.new_ b1
      replace hbel := below_then hbel b1 hbel.size
      go_wp2
      have km0 : Blk (w1.alloc (.cells #[.bool false, .bool false, .bool false, .bool false] 4)) w1.heap.size 4 (bA (pkGo xs dn 0).1) := Blk.new _ _ _
      have kd0 := hblk.alloc (.cells #[.bool false, .bool false, .bool false, .bool false] 4)
      have hsz : w.heap.size + 1 < w1.heap.size := hblk.lt
      have hAm : ∀ q, A' = some ⟨q, 0, none⟩ → q ≠ w1.heap.size := by
        intro q hq e
        subst hq
        subst e
        rcases hown.2 with ⟨hv, _⟩ | ⟨g, cap, cur, hv, hg, hh, _⟩
        · cases hv
        · injection hv with hA
          injection hA with hA
          injection hA with hA
          have := (Array.getElem?_eq_some_iff.1 hh).1
          omega
      generalize hwm : w1.alloc (.cells #[.bool false, .bool false, .bool false, .bool false] 4) = wm at *
      have hbm : Below w.heap.size w wm := by rw [← hwm]; exact hbel.alloc hbel.size _
      have hom : wm.ownsRow w.heap.size 3 1 (.slice A' j c') j (ps.map fun i => Value.int .i64 (i : Nat)) := by rw [← hwm]; exact own_alloc hown _
      have HAM := hide hAm
      have HWM := hide hwm
      clear hAm hwm hown hblk b1
      obtain ⟨wo, hwo⟩ : ∃ wo : World, wo = w1 := ⟨_, rfl⟩
      subst hwo
      go_loopw [8, 9] (fun bv i wi => ∃ k : Nat, k ≤ xs.length ∧ i = .int .i64 k ∧ bv = .int .i64 (bI (pkGo xs dn k).2) ∧ Blk wi wo.heap.size 4 (bA (pkGo xs dn k).1) ∧ Chg (fun q => q = wo.heap.size) wm wi) (fun _ i _ => xs.length - (intOf i).toNat)
      case atStart => exact ⟨0, Nat.zero_le _, rfl, rfl, km0, Chg.refl _ _⟩
      case round =>
        obtain ⟨k, hk, rfl, rfl, km, hch⟩ := hrel
        have hB : Below w.heap.size w wr := hbm.trans (hch.below (fun q hq e => by have := hbel.size; omega) hbm.size)
        by_cases hkl : k < xs.length
        · have hst := show pkGo xs dn (k + 1) = pkStep xs dn k (pkGo xs dn k) from rfl
          have hpl := pk_len xs dn k
          have hpi := pk_inv xs dn (unhide HAT) k hk
          obtain ⟨⟨hw0, hw3⟩, -, -⟩ := unhide HW k hkl
          have hfe : ∀ (i : Nat) (hi : i < xs.length), feeAt xs i = xs[i].fee := fun i hi => by simp [feeAt, hi]
          obtain ⟨b, off, rfl, hbb, c0, c1, c2, c3, c4, c5⟩ := (h.new hB).wsh hkl
          have hfk := hfe k hkl
          have hq0 : whoAt xs k = xs[k].who.toNat := by simp [whoAt, hkl]
          generalize hxk : xs[k] = x at *
          have HX := hide hxk
          clear hxk
          obtain ⟨kd, src, dst, amt, fee, who⟩ := x
          simp only at c0 c1 c2 c3 c4 c5 hfk hq0 hw0 hw3
          obtain ⟨q, rfl⟩ := Int.eq_ofNat_of_zero_le hw0
          have hq : whoAt xs k = q := by rw [hq0]; rfl
          clear hq0 hw0
          have i1 : (k : Int) < (xs.length : Int) := by omega
          have i2 : (q : Int) < 4 := by omega
          have cd : wr.cell? ⟨(w.heap.size + 1), k, none⟩ = some (.bool (dn.getD k false)) := bA_get (blk_chg kd0 hch (by omega)) (by omega)
          have cm : wr.cell? ⟨wo.heap.size, q, none⟩ = some (.bool ((pkGo xs dn k).1.getD q false)) := bA_get km (by omega)
          have hD : (w.heap.size + 1) < wr.heap.size := (blk_chg kd0 hch (by omega)).lt
          have hM : wo.heap.size < wr.heap.size := km.lt
          have zm : wr.frozen? ⟨wo.heap.size, q, none⟩ = false := km.frozen q
          have hfee : ∀ bb, (pkGo xs dn k).2 = some bb → bb < xs.length ∧ wr.cell? ⟨b, off + bb * 6 + 4, none⟩ = some (.int .i64 (feeAt xs bb)) := by
            intro bb hbb2
            have hlt2 := (hpi.some_ bb hbb2).1
            obtain ⟨b', off', e, _, _, _, _, _, g4, _⟩ := (h.new hB).wsh (show bb < xs.length by omega)
            injection e with e
            injection e with e1 e2
            subst e1 e2
            exact ⟨by omega, by rw [hfe bb (by omega)]; exact g4⟩
          have HFE := hide hfee
          have HST := hide hst
          have HQ := hide hq
          have HFK := hide hfk
          clear hfee hst hpi hfe hq hfk
          generalize hs : pkGo xs dn k = st at *
          obtain ⟨met, bs⟩ := st
          have HSS := hide hs
          clear hs
          simp only at cm hpl km
          cases hd : dn.getD k false
          · cases hmq : met.getD q false
            · rw [hd] at cd
              rw [hmq] at cm
              cases bs with
              | none =>
                have HR := hide (show pkGo xs dn (k + 1) = (met.set q true, some k) by rw [unhide HST, pkStep, if_neg (by rw [hd, unhide HQ, hmq]; simp), unhide HQ]; rfl)
                clear hd hmq
                simp only [bI]
                go_wp2
                go_quiet (fail)
                go_wp2
                go_roundw
                case rel => exact ⟨k + 1, by omega, by go_num, by rw [unhide HR]; first | done | rfl, by rw [unhide HR]; exact bA_set km q, (hch.setCell (p := ⟨wo.heap.size, q, none⟩) (.inl rfl) _).drewN nq⟩
                case measure => simp [intOf]; omega
              | some bb =>
                obtain ⟨hbb1, cf⟩ := unhide HFE bb rfl
                have i3 : (bb : Int) < (xs.length : Int) := by omega
                simp only [bI]
                have hbet : pkBetter xs k (some bb) = decide (feeAt xs bb < fee) := by simp only [pkBetter]; rw [unhide HFK]
                cases hbt : decide (feeAt xs bb < fee) <;> rw [hbt] at hbet
                · have HR := hide (show pkGo xs dn (k + 1) = (met.set q true, some bb) by rw [unhide HST, pkStep, if_neg (by rw [hd, unhide HQ, hmq]; simp), unhide HQ]; show (_, if pkBetter xs k (some bb) = true then _ else _) = _; rw [hbet]; rfl)
                  clear hd hmq hbet
                  generalize feeAt xs bb = fb at *
                  go_wp2
                  go_quiet (fail)
                  go_wp2
                  go_roundw
                  case rel => exact ⟨k + 1, by omega, by go_num, by rw [unhide HR]; first | done | rfl, by rw [unhide HR]; exact bA_set km q, (hch.setCell (p := ⟨wo.heap.size, q, none⟩) (.inl rfl) _).drewN nq⟩
                  case measure => simp [intOf]; omega
                · have HR := hide (show pkGo xs dn (k + 1) = (met.set q true, some k) by rw [unhide HST, pkStep, if_neg (by rw [hd, unhide HQ, hmq]; simp), unhide HQ]; show (_, if pkBetter xs k (some bb) = true then _ else _) = _; rw [hbet]; rfl)
                  clear hd hmq hbet
                  generalize feeAt xs bb = fb at *
                  go_wp2
                  go_quiet (fail)
                  go_wp2
                  go_roundw
                  case rel => exact ⟨k + 1, by omega, by go_num, by rw [unhide HR]; first | done | rfl, by rw [unhide HR]; exact bA_set km q, (hch.setCell (p := ⟨wo.heap.size, q, none⟩) (.inl rfl) _).drewN nq⟩
                  case measure => simp [intOf]; omega
            · rw [hd] at cd
              rw [hmq] at cm
              have HR := hide (show pkGo xs dn (k + 1) = (met, bs) by rw [unhide HST, pkStep, if_pos (.inr (by rw [unhide HQ, hmq]))])
              clear hd hmq
              go_wp2
              go_roundw
              case rel => exact ⟨k + 1, by omega, by go_num, by rw [unhide HR], by rw [unhide HR]; exact km, hch⟩
              case measure => simp [intOf]; omega
          · rw [hd] at cd
            have HR := hide (show pkGo xs dn (k + 1) = (met, bs) by rw [unhide HST, pkStep, if_pos (.inl hd)])
            clear hd
            go_wp2
            go_roundw
            case rel => exact ⟨k + 1, by omega, by go_num, by rw [unhide HR], by rw [unhide HR]; exact km, hch⟩
            case measure => simp [intOf]; omega
        · have hke : k = xs.length := by omega
          subst hke
          rw [unhide HB]
          have hD : (w.heap.size + 1) < wr.heap.size := (blk_chg kd0 hch (by omega)).lt
          have zd : wr.frozen? ⟨(w.heap.size + 1), best, none⟩ = false := (blk_chg kd0 hch (by omega)).frozen best
          have cd : wr.cell? ⟨(w.heap.size + 1), best, none⟩ = some (.bool (dn.getD best false)) := bA_get (blk_chg kd0 hch (by omega)) (by omega)
          have i1 : (best : Int) < (xs.length : Int) := by omega
          have ho2 : wr.ownsRow w.heap.size 3 1 (.slice A' j c') j (ps.map fun i => Value.int .i64 (i : Nat)) := own_chg hom hch (fun q hq e => unhide HAM q hq e)
          have ho3 : (wr.setCell ⟨(w.heap.size + 1), best, none⟩ (.bool true)).ownsRow w.heap.size 3 1 (.slice A' j c') j (ps.map fun i => Value.int .i64 (i : Nat)) := own_far ho2 (fun q hq e => unhide HAQ q hq e.symm) _
          have kd3 := bA_set (blk_chg kd0 hch (by omega)) best
          have hb3 : Below w.heap.size w (wr.setCell ⟨(w.heap.size + 1), best, none⟩ (.bool true)) := hB.setCell (by simp only; omega) _
          simp only [bI]
          go_wp2_with (at_builtin; refine wpList_app rfl (.tmp 80) (.tmp 82) 29 rfl el_int rfl (own_alloc ho3 _) rfl (rd_at (s := wr.heap.size) (wr.setCell ⟨(w.heap.size + 1), best, none⟩ (.bool true)) [.int .i64 (best : Int)] _ (by simp [World.setCell])) rfl (one_ints [(best : Int)]) (by simp only [maxLen]; omega) (by omega) (by have := hch.size; have := kd0.lt; simp; omega) ?_; intro A1 c1 w3 o3 ch3 hd3 _)
          have hA9 : ∀ q, A1 = some ⟨q, 0, none⟩ → q ≠ w.heap.size + 1 := by
            intro q hq
            rcases hd3 with hd3 | ⟨hd3, _⟩
            · exact unhide HAQ q (by rw [← hd3, hq])
            · rw [hq] at hd3
              injection hd3 with hd3
              injection hd3 with hd3
              have := (blk_chg kd0 hch (by omega)).lt
              simp at hd3
              omega
          have hb4 := app_below hb3 ho3 ch3 (Nat.le_refl _)
          go_roundw
          case rel => exact ⟨j + 1, A1, c1, by omega, rfl, by rw [unhide HN]; simpa using o3, hA9, by rw [unhide HN]; exact blk_chg (kd3.alloc _) ch3 (fun hA => unhide HAQ _ hA rfl), hb4⟩
          case measure => simp; omega
    · by_cases hjm : j < mm
      · have t1 : (decide (j < mm)) = true := by simpa using hjm
        have t2 : (decide (j < xs.length)) = false := by have := unhide HT; simp; omega
        have hje : j = T := by omega
        have HJ := hide hje
        clear hje
        go_wp2
        go_ret
        rw [unhide HL, ← unhide HJ, (unhide HA j (by omega)).plen]
        exact ⟨A', c', rfl, hown, hbel⟩
      · have t1 : (decide (j < mm)) = false := by simpa using hjm
        have hje : j = T := by omega
        have HJ := hide hje
        clear hje
        go_wp2
        go_ret
        rw [unhide HL, ← unhide HJ, (unhide HA j (by omega)).plen]
        exact ⟨A', c', rfl, hown, hbel⟩
end Go.Proofs.Ytcgheamckfodaaa
