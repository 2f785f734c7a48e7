/- PickWishes of the program. -/
import Derived.Test.YtcgheamckfodaaaPickM
import Derived.Test.YtcgheamckfodaaaBoolS
import Derived.Test.YtcgheamckfodaaaRdr
import Derived.Test.YtcgheamckfodaaaViewsEl
import Derived.Outline
namespace Go.Proofs.Ytcgheamckfodaaa
open Go.RowKit
set_option linter.unusedVariables false
set_option linter.unusedSimpArgs false

theorem make_bools (n : Nat) (hn : n ≤ 1048576) (w : World) : (Instr.makeSlice 50 (.int .i64 (n : Int)) (.int .i64 (n : Int))).run Try.prog w = .ok (.slice (some ⟨w.heap.size, 0, none⟩) n n) (w.alloc (.cells (Array.replicate n (Value.bool false)) 4)) := by
  obtain ⟨i0, hi0, hz0, hz1, hz2⟩ := info_parts (show (Try.prog.info? 4).map (fun i => (i.zero, i.size, i.bytes)) = some (some (.bool false), 1, 1) by kernel_rfl)
  rw [run_make_rowN 50 4 i0 _ Try.underlying50 hi0 hz0 _ _ n n (Nat.le_refl _) (by rw [hz2]; omega) (by omega), hz1]
  simp only [Value.cells, Nat.mul_one, madeCells_one]
def bA (l : List Bool) : Array Value := (l.map Value.bool).toArray
theorem bA_get {w : World} {D : Nat} {t : TypeId} {l : List Bool} (h : Blk w D t (bA l)) {k : Nat} (hk : k < l.length) : w.cell? ⟨D, k, none⟩ = some (.bool (l.getD k false)) := by
  rw [h.cell]
  simp [bA, hk]
theorem bA_set {w : World} {D : Nat} {t : TypeId} {l : List Bool} (h : Blk w D t (bA l)) (k : Nat) : Blk (w.setCell ⟨D, k, none⟩ (.bool true)) D t (bA (l.set k true)) := by
  have := h.set_ k (.bool true)
  simpa [bA, List.map_set] using this
theorem bA_rep (w : World) (t : TypeId) (n : Nat) : Blk (w.alloc (.cells (Array.replicate n (Value.bool false)) t)) w.heap.size t (bA (List.replicate n false)) := by
  have := Blk.new w t (Array.replicate n (Value.bool false))
  simpa [bA] using this
theorem blk_chg {S : Nat → Prop} {w w' : World} {g : Nat} {t : TypeId} {cs : Array Value} (h : Blk w g t cs) (hc : Chg S w w') (hS : ¬ S g) : Blk w' g t cs := h.keep (hc.block g h.lt hS)

set_option maxRecDepth 100000 in
set_option maxHeartbeats 4000000 in
theorem pickWishes_impl (A : Option Addr) (c : Nat) (xs : List Wsh) (many : Int) (w : World) (h : Rd w A (xs.flatMap encW)) (hb : xs.length ≤ 1048576) (hm1 : -9223372036854775808 ≤ many) (hm2 : many ≤ 9223372036854775807) :
    Calls Try.prog 15 #[.slice A xs.length c, .int .i64 many] w fun e w' => ∃ A' c', e = .returned (.slice A' (pickL xs many).length c') ∧ w'.ownsRow w.heap.size 3 1 (.slice A' (pickL xs many).length c') (pickL xs many).length ((pickL xs many).map fun i => Value.int .i64 (i : Nat)) ∧ Below w.heap.size w w' := by
  cases hV : wishesB xs
  · have HL := hide (show pickL xs many = [] by simp [pickL, hV])
    go_enter Try.func15, Try.ntmps15
    go_wp2_with fail
    refine (wishesValid_impl A c xs _ h (by omega)).mono ?_
    rintro e w1 ⟨rfl, b1⟩
    rw [hV]
    go_wp2
    go_ret
    rw [unhide HL]
    exact ⟨none, 0, rfl, own_nil _ _ _ _, b1⟩
  cases hI : inB many 0 10
  · have HL := hide (show pickL xs many = [] by simp [pickL, hI])
    go_enter Try.func15, Try.ntmps15
    go_wp2_with fail
    refine (wishesValid_impl A c xs _ h (by omega)).mono ?_
    rintro e w1 ⟨rfl, b1⟩
    rw [hV]
    go_wp2_with fail
    refine (in_any many 0 10 _).mono ?_
    rintro e w' ⟨rfl, rfl⟩
    rw [hI]
    go_wp2
    go_ret
    rw [unhide HL]
    exact ⟨none, 0, rfl, own_nil _ _ _ _, b1⟩
  obtain ⟨hm3, hm4⟩ := inB_true.1 hI
  obtain ⟨mm, rfl⟩ := Int.eq_ofNat_of_zero_le hm3
  obtain ⟨T, hT⟩ : ∃ T, T = min mm xs.length := ⟨_, rfl⟩
  have HL := hide (show pickL xs (mm : Int) = (pkN xs T).2 by unfold pickL; rw [if_pos ⟨hV, hI⟩, hT]; rfl)
  have hmin : (if xs.length < mm then (xs.length : Int) else (mm : Int)) = (T : Int) := by split <;> omega
  have hTl : T ≤ xs.length := by omega
  clear hT
  have HV := hide hV
  have HI := hide hI
  have h12 := wishes_len hV
  have HW := hide (wishes_who hV)
  have HA := hide (fun j => pickL_all hV (j := j))
  have HAT := hide (wishes_at hV)
  clear hV hI hm1 hm2 hm3
  have hmk := fun W => make_bools xs.length hb W
  go_enter Try.func15, Try.ntmps15
  go_wp2_with fail
  refine (wishesValid_impl A c xs _ h (by omega)).mono ?_
  rintro e w1 ⟨rfl, b1⟩
  rw [unhide HV]
  go_wp2_with fail
  refine (in_any (mm : Int) 0 10 _).mono ?_
  rintro e w' ⟨rfl, rfl⟩
  rw [unhide HI]
  go_wp2
  clear hmk
  go_loopw [6] (fun v wr => ∃ (j : Nat) (A' : Option Addr) (c' : Nat), j ≤ T ∧ v = .slice A' j c' ∧ wr.ownsRow (w1.heap.size + 1) 3 1 (.slice A' j c') j ((pkN xs j).2.map fun i => Value.int .i64 (i : Nat)) ∧ Blk wr w1.heap.size 4 (bA (pkN xs j).1) ∧ Below w.heap.size w wr) (fun v _ => match v with | .slice _ n _ => xs.length - n | _ => 0)
  case atStart => exact ⟨0, none, 0, by omega, rfl, own_nil _ _ _ _, bA_rep _ _ _, b1.alloc b1.size _⟩
  case round =>
    have hw1 := b1.size
    clear b1
    obtain ⟨j, A', c', hj, rfl, hown, hblk, hbel⟩ := hrel
    by_cases hlt : j < T
    · have t1 : (decide (j < T)) = true := by simpa using hlt
      obtain ⟨best, hbest, hbl, hbd, -⟩ := pk_best xs (pkN xs j).1 (unhide HAT) (unhide HA j (by omega)).dlen (by rw [(unhide HA j (by omega)).cnt]; omega)
      have HN := hide (show pkN xs (j + 1) = ((pkN xs j).1.set best true, (pkN xs j).2 ++ [best]) by rw [pkN, hbest])
      have HB := hide hbest
      have hdl := (unhide HA j (by omega)).dlen
      clear hbest
      generalize pkN xs j = s at *
      obtain ⟨dn, ps⟩ := s
      simp only at hown hblk hbd hdl HB HN
      go_wp2
      have km0 : Blk (wr.alloc (.cells #[.bool false, .bool false, .bool false, .bool false] 60)) wr.heap.size 60 (bA (pkGo xs dn 0).1) := Blk.new _ _ _
      have kd0 := hblk.alloc (.cells #[.bool false, .bool false, .bool false, .bool false] 60)
      have hsz : w1.heap.size < wr.heap.size := hblk.lt
      generalize hwm : wr.alloc (.cells #[.bool false, .bool false, .bool false, .bool false] 60) = wm at *
      have hbm : Below w.heap.size w wm := by rw [← hwm]; exact hbel.alloc hbel.size _
      have hom : wm.ownsRow (w1.heap.size + 1) 3 1 (.slice A' j c') j (ps.map fun i => Value.int .i64 (i : Nat)) := by rw [← hwm]; exact own_alloc hown _
      have hAm : ∀ q, A' = some ⟨q, 0, none⟩ → q ≠ wr.heap.size := by
        intro q hq e
        subst hq
        subst e
        rcases Nat.eq_zero_or_pos j with h0 | h0
        · rcases hown.2 with ⟨hv, _⟩ | ⟨g, cap, cur, hv, hg, hh, _⟩
          · cases hv
          · injection hv with hA
            injection hA with hA
            injection hA with hA
            have := (Array.getElem?_eq_some_iff.1 hh).1
            omega
        · obtain ⟨g, h1, h2, h3⟩ := own_addr hown h0
          injection h1 with h1
          injection h1 with h1
          omega
      have HAM := hide hAm
      obtain ⟨wo, hwo⟩ : ∃ wo : World, wo = wr := ⟨_, rfl⟩
      subst hwo
      have HWM := hide hwm
      clear hAm hwm
      go_loopw [7, 31] (fun bv i wi => ∃ k : Nat, k ≤ xs.length ∧ i = .int .i64 k ∧ bv = .int .i64 (bI (pkGo xs dn k).2) ∧ Blk wi wo.heap.size 60 (bA (pkGo xs dn k).1) ∧ Chg (fun q => q = wo.heap.size) wm wi) (fun _ i _ => xs.length - (intOf i).toNat)
      case atStart => exact ⟨0, Nat.zero_le _, rfl, rfl, km0, Chg.refl _ _⟩
      case round =>
        obtain ⟨k, hk, rfl, rfl, km, hch⟩ := hrel
        have hB : Below w.heap.size w wr := hbm.trans (hch.below (fun q hq e => by have := hbel.size; omega) hbm.size)
        by_cases hkl : k < xs.length
        · have hst := show pkGo xs dn (k + 1) = pkStep xs dn k (pkGo xs dn k) from rfl
          have hpl := pk_len xs dn k
          have hpi := pk_inv xs dn (unhide HAT) k hk
          obtain ⟨⟨hw0, hw3⟩, -, -⟩ := unhide HW k hkl
          have hfe : ∀ (i : Nat) (hi : i < xs.length), feeAt xs i = xs[i].fee := fun i hi => by simp [feeAt, hi]
          obtain ⟨b, off, rfl, hbb, c0, c1, c2, c3, c4, c5⟩ := (h.new hB).wsh hkl
          have hfk := hfe k hkl
          have hq0 : whoAt xs k = xs[k].who.toNat := by simp [whoAt, hkl]
          generalize hxk : xs[k] = x at *
          have HX := hide hxk
          clear hxk
          obtain ⟨kd, src, dst, amt, fee, who⟩ := x
          simp only at c0 c1 c2 c3 c4 c5 hfk hq0 hw0 hw3
          obtain ⟨q, rfl⟩ := Int.eq_ofNat_of_zero_le hw0
          have hq : whoAt xs k = q := by rw [hq0]; rfl
          clear hq0 hw0
          have i1 : (k : Int) < (xs.length : Int) := by omega
          have i2 : (q : Int) < 4 := by omega
          have cd : wr.cell? ⟨w1.heap.size, k, none⟩ = some (.bool (dn.getD k false)) := bA_get (blk_chg kd0 hch (by omega)) (by omega)
          have cm : wr.cell? ⟨wo.heap.size, q, none⟩ = some (.bool ((pkGo xs dn k).1.getD q false)) := bA_get km (by omega)
          have hD : w1.heap.size < wr.heap.size := (blk_chg kd0 hch (by omega)).lt
          have hM : wo.heap.size < wr.heap.size := km.lt
          have zm : wr.frozen? ⟨wo.heap.size, q, none⟩ = false := km.frozen q
          have hfee : ∀ bb, (pkGo xs dn k).2 = some bb → bb < xs.length ∧ wr.cell? ⟨b, off + bb * 6 + 4, none⟩ = some (.int .i64 (feeAt xs bb)) := by
            intro bb hbb2
            have hlt2 := (hpi.some_ bb hbb2).1
            obtain ⟨b', off', e, _, _, _, _, _, g4, _⟩ := (h.new hB).wsh (show bb < xs.length by omega)
            injection e with e
            injection e with e1 e2
            subst e1 e2
            exact ⟨by omega, by rw [hfe bb (by omega)]; exact g4⟩
          have HFE := hide hfee
          have HST := hide hst
          have HQ := hide hq
          have HFK := hide hfk
          clear hfee hst hpi hfe hq hfk
          generalize hs : pkGo xs dn k = st at *
          obtain ⟨met, bs⟩ := st
          have HSS := hide hs
          clear hs
          simp only at cm hpl km
          cases hd : dn.getD k false
          · cases hmq : met.getD q false
            · rw [hd] at cd
              rw [hmq] at cm
              cases bs with
              | none =>
                have HR := hide (show pkGo xs dn (k + 1) = (met.set q true, some k) by rw [unhide HST, pkStep, if_neg (by rw [hd, unhide HQ, hmq]; simp), unhide HQ]; rfl)
                clear hd hmq
                simp only [bI]
                go_wp2
                go_quiet (fail)
                go_wp2
                go_roundw
                case rel => exact ⟨k + 1, by omega, by go_num, by rw [unhide HR]; first | done | rfl, by rw [unhide HR]; exact (bA_set km q).alloc _, ((hch.setCell (p := ⟨wo.heap.size, q, none⟩) (.inl rfl) _).alloc _).drewN nq⟩
                case measure => simp [intOf]; omega
              | some bb =>
                obtain ⟨hbb1, cf⟩ := unhide HFE bb rfl
                have i3 : (bb : Int) < (xs.length : Int) := by omega
                simp only [bI]
                have hbet : pkBetter xs k (some bb) = decide (feeAt xs bb < fee) := by simp only [pkBetter]; rw [unhide HFK]
                cases hbt : decide (feeAt xs bb < fee) <;> rw [hbt] at hbet
                · have HR := hide (show pkGo xs dn (k + 1) = (met.set q true, some bb) by rw [unhide HST, pkStep, if_neg (by rw [hd, unhide HQ, hmq]; simp), unhide HQ]; show (_, if pkBetter xs k (some bb) = true then _ else _) = _; rw [hbet]; rfl)
                  clear hd hmq hbet
                  generalize feeAt xs bb = fb at *
                  go_wp2
                  go_quiet (fail)
                  go_wp2
                  go_roundw
                  case rel => exact ⟨k + 1, by omega, by go_num, by rw [unhide HR]; first | done | rfl, by rw [unhide HR]; exact (bA_set km q).alloc _, ((hch.setCell (p := ⟨wo.heap.size, q, none⟩) (.inl rfl) _).alloc _).drewN nq⟩
                  case measure => simp [intOf]; omega
                · have HR := hide (show pkGo xs dn (k + 1) = (met.set q true, some k) by rw [unhide HST, pkStep, if_neg (by rw [hd, unhide HQ, hmq]; simp), unhide HQ]; show (_, if pkBetter xs k (some bb) = true then _ else _) = _; rw [hbet]; rfl)
                  clear hd hmq hbet
                  generalize feeAt xs bb = fb at *
                  go_wp2
                  go_quiet (fail)
                  go_wp2
                  go_roundw
                  case rel => exact ⟨k + 1, by omega, by go_num, by rw [unhide HR]; first | done | rfl, by rw [unhide HR]; exact (bA_set km q).alloc _, ((hch.setCell (p := ⟨wo.heap.size, q, none⟩) (.inl rfl) _).alloc _).drewN nq⟩
                  case measure => simp [intOf]; omega
            · rw [hd] at cd
              rw [hmq] at cm
              have HR := hide (show pkGo xs dn (k + 1) = (met, bs) by rw [unhide HST, pkStep, if_pos (.inr (by rw [unhide HQ, hmq]))])
              clear hd hmq
              go_wp2
              go_roundw
              case rel => exact ⟨k + 1, by omega, by go_num, by rw [unhide HR], by rw [unhide HR]; exact km.alloc _, hch.alloc _⟩
              case measure => simp [intOf]; omega
          · rw [hd] at cd
            have HR := hide (show pkGo xs dn (k + 1) = (met, bs) by rw [unhide HST, pkStep, if_pos (.inl hd)])
            clear hd
            go_wp2
            go_roundw
            case rel => exact ⟨k + 1, by omega, by go_num, by rw [unhide HR], by rw [unhide HR]; exact km.alloc _, hch.alloc _⟩
            case measure => simp [intOf]; omega
        · have hke : k = xs.length := by omega
          subst hke
          rw [unhide HB]
          have hD : w1.heap.size < wr.heap.size := (blk_chg kd0 hch (by omega)).lt
          have zd : wr.frozen? ⟨w1.heap.size, best, none⟩ = false := (blk_chg kd0 hch (by omega)).frozen best
          have cd : wr.cell? ⟨w1.heap.size, best, none⟩ = some (.bool (dn.getD best false)) := bA_get (blk_chg kd0 hch (by omega)) (by omega)
          have i1 : (best : Int) < (xs.length : Int) := by omega
          have ho2 : wr.ownsRow (w1.heap.size + 1) 3 1 (.slice A' j c') j (ps.map fun i => Value.int .i64 (i : Nat)) := own_chg hom hch (fun q hq e => unhide HAM q hq e)
          have ho3 : (wr.setCell ⟨w1.heap.size, best, none⟩ (.bool true)).ownsRow (w1.heap.size + 1) 3 1 (.slice A' j c') j (ps.map fun i => Value.int .i64 (i : Nat)) := own_far ho2 (fun q hq e => by have := own_block ho2 q (by rw [hq]; rfl); simp only at e; omega) _
          have kd3 := bA_set (blk_chg kd0 hch (by omega)) best
          have hb3 : Below w.heap.size w (wr.setCell ⟨w1.heap.size, best, none⟩ (.bool true)) := hB.setCell (by simp only; omega) _
          simp only [bI]
          go_wp2_with (at_builtin; refine wpList_app rfl (.tmp 66) (.tmp 68) 29 rfl el_int rfl (own_alloc ho3 _) rfl (rd_at (s := wr.heap.size) (wr.setCell ⟨w1.heap.size, best, none⟩ (.bool true)) [.int .i64 (best : Int)] _ (by simp [World.setCell])) rfl (one_ints [(best : Int)]) (by simp only [maxLen]; omega) (by omega) (by have := hch.size; have := kd0.lt; simp; omega) ?_; intro A1 c1 w3 o3 ch3 _ _)
          have hb4 := app_below hb3 ho3 ch3 (by omega)
          go_roundw
          case rel => exact ⟨j + 1, A1, c1, by omega, rfl, by rw [unhide HN]; simpa using o3, by rw [unhide HN]; exact blk_chg (kd3.alloc _) ch3 (fun hA => by have := own_block ho2 w1.heap.size (by rw [hA]; rfl); omega), hb4⟩
          case measure => simp; omega
    · have t1 : (decide (j < T)) = false := by simpa using hlt
      have hje : j = T := by omega
      have HJ := hide hje
      clear hje
      go_wp2
      go_ret
      rw [unhide HL, ← unhide HJ, (unhide HA j (by omega)).plen]
      exact ⟨A', c', rfl, own_base hown (by have := hbel.size; have := hblk.lt; omega), hbel⟩
end Go.Proofs.Ytcgheamckfodaaa
