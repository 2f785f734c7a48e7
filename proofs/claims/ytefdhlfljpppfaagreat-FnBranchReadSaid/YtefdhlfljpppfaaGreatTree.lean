/- Trees of sums over stores: LeafSum, levels, RootOf of the program. -/
import Derived.Test.YtefdhlfljpppfaaGreatDiffs
import Derived.Test.YtefdhlfljpppfaaGreatDeep
import Derived.Test.YtefdhlfljpppfaaGreatSums
namespace Go.Proofs.YtefdhlfljpppfaaGreat
open Go.RowKit
set_option linter.unusedVariables false
set_option linter.unusedSimpArgs false
attribute [local go_sem ↓] Go.wp_at_zero Go.wp_at_succ

def leafS (k v : Int) : Int := if inB k 0 31 = true ∧ inB v 0 1000000 = true then sumF 1 [k, v] else -1
def upN (xs : List Int) : Nat → List Int
  | 0 => []
  | j + 1 => upN xs j ++ [sumF 2 [xs.getD (j + j) 0, xs.getD (j + j + 1) 0]]
def upL (xs : List Int) : List Int := upN xs (xs.length / 2)
def leafN (v : List Int) : Nat → List Int
  | 0 => []
  | k + 1 => leafN v k ++ [leafS (k : Int) (v.getD k 0)]
def lvN (v : List Int) : Nat → List Int
  | 0 => leafN v 32
  | k + 1 => upL (lvN v k)
def lvsN (v : List Int) : Nat → List (List Int)
  | 0 => [lvN v 0]
  | k + 1 => lvsN v k ++ [lvN v (k + 1)]
theorem upN_len (xs : List Int) (j : Nat) : (upN xs j).length = j := by
  induction j with
  | zero => rfl
  | succ j ih => rw [upN, List.length_append, ih]; rfl
theorem leafN_len (v : List Int) (j : Nat) : (leafN v j).length = j := by
  induction j with
  | zero => rfl
  | succ j ih => rw [leafN, List.length_append, ih]; rfl
theorem lvN_len (v : List Int) (k : Nat) (hk : k ≤ 5) : (lvN v k).length = 2 ^ (5 - k) := by
  induction k with
  | zero => exact leafN_len v 32
  | succ k ih =>
    rw [lvN, upL, upN_len, ih (by omega), show 5 - k = (5 - (k + 1)) + 1 by omega, Nat.pow_succ]
    omega
theorem lvN_up (v : List Int) (k : Nat) (hk : k < 5) : lvN v (k + 1) = upN (lvN v k) (2 ^ (5 - (k + 1))) := by
  have h : (lvN v k).length / 2 = 2 ^ (5 - (k + 1)) := by
    rw [lvN_len v k (by omega), show 5 - k = (5 - (k + 1)) + 1 by omega, Nat.pow_succ]
    omega
  rw [lvN, upL, h]
theorem lvsN_len (v : List Int) (k : Nat) : (lvsN v k).length = k + 1 := by
  induction k with
  | zero => rfl
  | succ k ih => rw [lvsN, List.length_append, ih]; rfl
theorem lvsN_get (v : List Int) (k j : Nat) (hj : j < (lvsN v k).length) : (lvsN v k)[j] = lvN v j := by
  induction k generalizing j with
  | zero =>
    obtain rfl : j = 0 := by simpa [lvsN] using hj
    rfl
  | succ k ih =>
    simp only [lvsN]
    by_cases h : j < (lvsN v k).length
    · rw [List.getElem_append_left h]; exact ih j h
    · have h1 := lvsN_len v k
      have h2 := lvsN_len v (k + 1)
      obtain rfl : j = k + 1 := by omega
      rw [List.getElem_append_right (by omega)]
      simp
theorem leafS_bd (k v : Int) : -1 ≤ leafS k v ∧ leafS k v ≤ 1000002 := by
  unfold leafS
  split
  · exact sumF_bd _ _
  · omega
theorem leafSum_impl (k v : Int) (w : World) :
    Calls Tryz.prog 107 #[.int .i64 k, .int .i64 v] w fun e w' => e = .returned (.int .i64 (leafS k v)) ∧ Below w.heap.size w w' := by
  cases hk : inB k 0 31
  · have HV := hide (show leafS k v = -1 by simp [leafS, hk])
    go_enter Tryz.func107, Tryz.ntmps107
    go_wp2_with fail
    refine (isKey_any k _).mono ?_
    rintro e w' ⟨rfl, rfl⟩
    rw [hk]
    go_wp2
    go_ret
    exact ⟨reti (unhide HV).symm, Below.refl _ _⟩
  · cases hv : inB v 0 1000000
    · have HV := hide (show leafS k v = -1 by simp [leafS, hv])
      go_enter Tryz.func107, Tryz.ntmps107
      go_wp2_with fail
      refine (isKey_any k _).mono ?_
      rintro e w' ⟨rfl, rfl⟩
      rw [hk]
      go_wp2_with fail
      refine (isValue_any v _).mono ?_
      rintro e w' ⟨rfl, rfl⟩
      rw [hv]
      go_wp2
      go_ret
      exact ⟨reti (unhide HV).symm, Below.refl _ _⟩
    · have HV := hide (show leafS k v = sumF 1 [k, v] by simp [leafS, hv, hk])
      go_enter Tryz.func107, Tryz.ntmps107
      go_wp2_with fail
      refine (isKey_any k _).mono ?_
      rintro e w' ⟨rfl, rfl⟩
      rw [hk]
      go_wp2_with fail
      refine (isValue_any v _).mono ?_
      rintro e w' ⟨rfl, rfl⟩
      rw [hv]
      go_wp2_with fail
      refine (sum_impl 1 (some ⟨w.heap.size, 0, none⟩) 2 [k, v] _ (rd_lit w [.int .i64 k, .int .i64 v] 3) (by simp)).mono ?_
      rintro e w' ⟨rfl, rfl⟩
      go_wp2
      go_ret
      exact ⟨reti (unhide HV).symm, (Below.refl _ _).alloc (Nat.le_refl _) _⟩
theorem rows_info : (Tryz.prog.info? 25).map (fun i => (i.zero, i.size, i.bytes)) = some (some (.slice none 0 0), 1, 24) := by kernel_rfl
theorem el_rows : El Tryz.prog 106 25 1 24 := El.mk_ Tryz.underlying106 rows_info rfl (by omega)
set_option maxRecDepth 100000 in
set_option maxHeartbeats 1000000 in
theorem levels_impl (A : Option Addr) (c : Nat) (s : List Ent) (w : World) (h : Rd w A (s.flatMap encE)) (hb : s.length ≤ 4611686018427387904) (hs : storeB s = true) :
    Calls Tryz.prog 70 #[.slice A s.length c] w fun e w' => ∃ A' c', e = .returned (.slice A' 6 c') ∧ 6 ≤ c' ∧ c' ≤ maxLen ∧ RdD rowR (fun k => w.heap.size ≤ k) w' A' (lvsN (valsL s) 5) ∧ Below w.heap.size w w' := by
  have HKS := hide (store_keys hs)
  have hvl := valsL_len s
  go_enter Tryz.func70, Tryz.ntmps70
  go_wp2_with fail
  refine (valuesOf_any A c s _ h hb (unhide HKS)).mono ?_
  rintro e w1 ⟨rfl, b1⟩
  generalize hv : valsL s = v at *
  have HV := hide hv
  clear hv
  have hls : (vA v).size = 32 := by rw [vA_size, hvl]
  go_wp2
  go_loopw [3, 11] (fun r i wr => ∃ (k : Nat) (A' : Option Addr) (c' : Nat), k ≤ 32 ∧ i = .int .i64 k ∧ r = .slice A' k c' ∧ wr.ownsRow w.heap.size 3 1 (.slice A' k c') k ((leafN v k).map (.int .i64)) ∧ Below w.heap.size w wr) (fun _ i _ => 32 - (intOf i).toNat)
  case atStart => exact ⟨0, none, 0, by omega, rfl, rfl, own_nil _ _ _ _, b1⟩
  case round =>
    obtain ⟨k, A', c', hk, rfl, rfl, hown, hB⟩ := hrel
    by_cases hlt : k < 32
    · have hix := index_vals v hvl k hlt
      have i1 : (k : Int) < 32 := by omega
      have HS := hide (show leafN v (k + 1) = leafN v k ++ [leafS (k : Int) (v.getD k 0)] from rfl)
      generalize leafN v k = gs at *
      generalize v.getD k 0 = x at *
      go_wp2_with fail
      refine (leafSum_impl (k : Int) x wr).mono ?_
      rintro e w2 ⟨rfl, b2⟩
      generalize leafS (k : Int) x = y at *
      have o2 := own_new hown b2
      have hB2 := bthen hB b2
      go_wp2_with (at_builtin; refine wpList_app rfl (.tmp 15) (.tmp 19) 25 rfl el_int rfl (own_alloc o2 _) rfl (rd_lit w2 [.int .i64 y] _) rfl (one_ints [y]) (by simp only [maxLen]; omega) (by omega) (by have := hB2.size; simp; omega) ?_; intro A3 c3 w3 o3 ch3 _ _)
      have hB3 := app_below hB2 o2 ch3 (Nat.le_refl _)
      go_roundw
      case rel => exact ⟨k + 1, A3, c3, by omega, by go_num, rfl, by rw [unhide HS]; simpa using o3, hB3⟩
      case measure => simp [intOf]; omega
    · have hk32 : k = 32 := by omega
      have HK32 := hide hk32
      have i1 : ¬ (k : Int) < 32 := by omega
      have hcp := own_cap hown
      have rn := own_rdB hown (Nat.le_refl _)
      rw [hk32] at rn hcp
      clear hk32
      have HR := hide (show lvN v 0 = leafN v 32 from rfl)
      rw [← unhide HR] at rn
      have hBs := hB.size
      go_wp2
      obtain ⟨wo, hwo⟩ : ∃ wo : World, wo = wr := ⟨_, rfl⟩
      have HWO := hide hwo
      go_loopw [3, 6, 7, 8, 24] (fun now out _ _ i wq => ∃ (k : Nat) (A1 : Option Addr) (c1 : Nat) (A2 : Option Addr) (c2 : Nat) (vs : List (List Value)), k ≤ 5 ∧ i = .int .i64 k ∧ now = .slice A1 (2 ^ (5 - k)) c1 ∧ 2 ^ (5 - k) ≤ c1 ∧ c1 ≤ maxLen ∧ RdP (Off w.heap.size A2) wq A1 ((lvN v k).map (.int .i64)) ∧
          out = .slice A2 (k + 1) c2 ∧ AllR rowR (Off w.heap.size A2) wq (lvsN v k) vs ∧ wq.ownsRow w.heap.size 25 1 (.slice A2 (k + 1) c2) (k + 1) vs.flatten ∧ Below w.heap.size w wq) (fun _ _ _ _ i _ => 5 - (intOf i).toNat)
      case atStart =>
        subst hwo
        rw [unhide HK32]
        have om := own_made (base := w.heap.size) (e := 25) (size := 1) wo #[.slice A' 32 c'] 1 hB.size (by simp [maxLen]) rfl
        have hP : ∀ q, w.heap.size ≤ q → q < wo.heap.size → Off w.heap.size (some ⟨wo.heap.size, 0, none⟩) q := fun q h1 h2 => ⟨h1, fun e => by injection e with e; injection e with e; omega⟩
        have rn2 := (rn.mono hP).keep (Kp.alloc _ wo (.cells #[.slice A' 32 c'] 25))
        have hl32 : (lvN v 0).length = 32 := lvN_len v 0 (by omega)
        exact ⟨0, A', c', some ⟨wo.heap.size, 0, none⟩, 1, [[.slice A' 32 c']], by omega, rfl, rfl, hcp.1, hcp.2, rn2, rfl, ⟨⟨A', c', by rw [hl32], by rw [hl32]; exact hcp.1, hcp.2, rn2⟩, trivial⟩, om, hB.alloc hB.size _⟩
      case round =>
        clear hwo hown rn
        obtain ⟨k, A1, c1, A2, c2, vs, hk, rfl, rfl, hc1, hcm, r1, rfl, hall, hown, hB⟩ := hrel
        by_cases hlt : k < 5
        · have i1 : (k : Int) < 5 := by omega
          have hp2 : 2 ^ (5 - k) = 2 ^ (5 - (k + 1)) + 2 ^ (5 - (k + 1)) := by rw [show 5 - k = (5 - (k + 1)) + 1 by omega, Nat.pow_succ]; omega
          have hp32 : 2 ^ (5 - (k + 1)) ≤ 16 := Nat.le_trans (Nat.pow_le_pow_right (by omega) (show 5 - (k + 1) ≤ 4 by omega)) (by decide)
          have hll := lvN_len v k (by omega)
          have HUP := hide (show lvN v (k + 1) = upN (lvN v k) (2 ^ (5 - (k + 1))) from lvN_up v k hlt)
          have HLS := hide (show lvsN v (k + 1) = lvsN v k ++ [lvN v (k + 1)] from rfl)
          have hll2 := lvN_len v (k + 1) (by omega)
          have HP2 := hide hp2
          clear hp2
          generalize hmm : 2 ^ (5 - (k + 1)) = m at *
          have HM := hide hmm
          clear hmm
          generalize 2 ^ (5 - k) = n at *
          have hn32 : n ≤ 32 := by have := unhide HP2; omega
          generalize hxs : lvN v k = xs at *
          have HXS := hide hxs
          clear hxs
          go_wp2
          obtain ⟨w5, hw5⟩ : ∃ w5 : World, w5 = wr := ⟨_, rfl⟩
          have HW5 := hide hw5
          have hBq := hB.size
          have hLM := hide hll
          clear hll
          go_loopw [7, 8] (fun next i wr => ∃ (j jj : Nat) (A3 : Option Addr) (c3 : Nat), j ≤ m ∧ Hid (jj = j + j) ∧ i = .int .i64 (jj : Int) ∧ next = .slice A3 j c3 ∧ wr.ownsRow w5.heap.size 3 1 (.slice A3 j c3) j ((upN xs j).map (.int .i64)) ∧ Below w5.heap.size w5 wr) (fun _ i _ => n - (intOf i).toNat)
          case atStart =>
            subst hw5
            exact ⟨0, 0, none, 0, by omega, rfl, rfl, rfl, own_nil _ _ _ _, Below.refl _ _⟩
          case round =>
            subst hw5
            obtain ⟨j, jj, A3, c3, hj, HJJ, rfl, rfl, ho3, hB3⟩ := hrel
            have HU := hide (show upN xs (j + 1) = upN xs j ++ [sumF 2 [xs.getD (j + j) 0, xs.getD (j + j + 1) 0]] from rfl)
            have hul := upN_len xs j
            by_cases hlt2 : j < m
            · have i2 : (jj : Int) < (n : Int) := by have := unhide HJJ; have := unhide HP2; omega
              have i3 : (jj : Int) + 2 ≤ (c1 : Int) := by have := unhide HJJ; have := unhide HP2; omega
              have i5 : ¬ c1 = jj := by have := unhide HJJ; have := unhide HP2; omega
              have hjl : jj + 1 < xs.length := by have := unhide HJJ; have := unhide hLM; have := unhide HP2; omega
              obtain ⟨b, off, rfl, hbP, hbb, hcell⟩ := r1 (by simp; omega)
              have rs : Rd w5 (some ⟨b, off + jj, none⟩) ([xs.getD jj 0, xs.getD (jj + 1) 0].map (.int .i64)) := by
                intro _
                refine ⟨b, off + jj, rfl, hbb, fun q u hu => ?_⟩
                rw [Nat.add_assoc]
                apply hcell
                match q, hu with
                | 0, hu => simp at hu; subst hu; simp [show jj < xs.length by omega]
                | 1, hu => simp at hu; subst hu; simp [show jj + 1 < xs.length by omega]
              rw [← unhide HJJ] at HU
              generalize upN xs j = gs at *
              generalize xs.getD jj 0 = x at *
              generalize xs.getD (jj + 1) 0 = y at *
              clear hcell
              have rs' := rs.new hB3
              clear rs
              go_wp2_with fail
              refine (sum_impl 2 (some ⟨b, off + jj, none⟩) (c1 - jj) [x, y] wr rs' (by simp)).mono ?_
              rintro e w' ⟨rfl, rfl⟩
              generalize sumF 2 [x, y] = z at *
              go_wp2_with (at_builtin; refine wpList_app rfl (.tmp 32) (.tmp 39) 25 rfl el_int rfl (own_alloc ho3 _) rfl (rd_lit wr [.int .i64 z] _) rfl (one_ints [z]) (by simp only [maxLen]; omega) (by omega) (by have := hB3.size; simp; omega) ?_; intro A4 c4 w4 o4 ch4 _ _)
              have hB4 := app_below hB3 ho3 ch4 (Nat.le_refl _)
              go_roundw
              case rel => exact ⟨j + 1, jj + 2, A4, c4, by omega, (by have := unhide HJJ; exact hide (by omega)), by go_num, rfl, by rw [unhide HU]; simpa using o4, hB4⟩
              case measure => simp [intOf]; omega
            · obtain rfl : j = m := by omega
              have i2 : ¬ (jj : Int) < (n : Int) := by have := unhide HJJ; have := unhide HP2; omega
              rw [← unhide HUP] at ho3
              have hcp3 := own_cap ho3
              have hown' := own_new hown hB3
              have hB5 := bthen hB hB3
              have hall' := hall.keep row_good (Kp.below hB3)
              have rx := own_rdB ho3 (Nat.le_refl _)
              have hrg := own_rng hown
              have ho3' := ho3
              clear r1 hall hown ho3 HU
              go_wp2_with (at_builtin; refine wpList_app rfl (.tmp 41) (.tmp 43) 106 rfl el_rows rfl (own_alloc hown' _) rfl (rd_lit wr [.slice A3 j c3] _) rfl (by simp [Value.oneCell']) (by simp only [maxLen]; omega) (by omega) (by have := hB5.size; simp; omega) ?_; intro A6 c6 w6 o6 ch6 d6 _)
              have hrg5 : ∀ g, A2 = some ⟨g, 0, none⟩ → w.heap.size ≤ g ∧ g < w5.heap.size := hrg
              have hc3 := own_cap ho3'
              have hxr : rowR (fun q => w5.heap.size ≤ q) (lvN v (k + 1)) wr [.slice A3 j c3] := ⟨A3, c3, by rw [hll2], by rw [hll2]; exact hc3.1, hc3.2, rx⟩
              have hall6 := deep_app row_good hall' hxr hBq hrg5 ch6 d6
              have rx6 : RdP (Off w.heap.size A6) w6 A3 ((lvN v (k + 1)).map (.int .i64)) := (rx.mono fun q hq hqw => (⟨off_new hBq hrg5 d6 q hq hqw, hq⟩ : Off w.heap.size A6 q ∧ w5.heap.size ≤ q)).keep ((new_kp hrg5 ch6).mono fun q hq _ => hq.2) |>.mono fun q hq _ => hq.1
              have o6' : w6.ownsRow w.heap.size 25 1 (.slice A6 (k + 1 + 1) c6) (k + 1 + 1) (vs ++ [[Value.slice A3 j c3]]).flatten := by simpa using o6
              have hB6 := app_below hB5 hown' ch6 (Nat.le_refl _)
              go_roundw
              case rel =>
                refine ⟨k + 1, A3, c3, A6, c6, vs ++ [[.slice A3 j c3]], ?_, ?_, ?_, ?_, ?_, ?_, ?_, ?_, ?_, ?_⟩
                · omega
                · go_num
                · rw [unhide HM]
                · rw [unhide HM]; exact hc3.1
                · exact hc3.2
                · exact rx6
                · rfl
                · rw [unhide HLS]; exact hall6
                · exact o6'
                · exact hB6
              case measure => simp [intOf]; omega
        · obtain rfl : k = 5 := by omega
          have hc6 := own_cap hown
          go_wp2
          go_ret
          rw [unhide HV]
          exact ⟨A2, c2, rfl, hc6.1, hc6.2, ⟨vs, hall.mono row_good (fun q hq _ => hq.1), own_rdB hown (Nat.le_refl _)⟩, hB⟩
def rootL (s : List Ent) : Int := if storeB s = true then (lvN (valsL s) 5).getD 0 0 else -1
theorem rootOf_impl (A : Option Addr) (c : Nat) (s : List Ent) (w : World) (h : Rd w A (s.flatMap encE)) (hb : s.length ≤ 4611686018427387904) :
    Calls Tryz.prog 87 #[.slice A s.length c] w fun e w' => e = .returned (.int .i64 (rootL s)) ∧ Below w.heap.size w w' := by
  cases hs : storeB s
  · have HV := hide (show rootL s = -1 by simp [rootL, hs])
    go_enter Tryz.func87, Tryz.ntmps87
    go_wp2_with fail
    refine (storeB_impl A c s w h hb).mono ?_
    rintro e w1 ⟨rfl, b1⟩
    rw [hs]
    go_wp2
    go_ret
    exact ⟨reti (unhide HV).symm, b1⟩
  · have HV := hide (show rootL s = (lvN (valsL s) 5).getD 0 0 by simp [rootL, hs])
    have HS := hide hs
    go_enter Tryz.func87, Tryz.ntmps87
    go_wp2_with fail
    refine (storeB_impl A c s w h hb).mono ?_
    rintro e w1 ⟨rfl, b1⟩
    rw [hs]
    clear hs
    go_wp2_with fail
    refine (levels_impl A c s w1 (h.new b1) hb (unhide HS)).mono ?_
    rintro e w2 ⟨A2, c2, rfl, hc1, hc2, r2, b2⟩
    generalize valsL s = v at *
    obtain ⟨b, off, cs, rfl, _, hbb, hr, hcell⟩ := r2.get row_good (by omega) (k := 5) (by rw [lvsN_len]; omega)
    rw [lvsN_get] at hr
    obtain ⟨A3, c3, rfl, h3, h4, r3⟩ := hr
    have hc := hcell 0 _ rfl
    have hl5 := lvN_len v 5 (by omega)
    rw [show (lvN v 5).length = 1 from hl5] at hc
    obtain ⟨b3, off3, rfl, _, hb3, hcell3⟩ := r3 (by simp; omega)
    have hd := hcell3 0 (.int .i64 ((lvN v 5).getD 0 0)) (by simp [show 0 < (lvN v 5).length by omega])
    simp only [Nat.mul_one, Nat.add_zero] at hc hd
    generalize (lvN v 5).getD 0 0 = z at *
    clear hcell hcell3
    have i6 : (5 : Int) < ((lvsN v 5).length : Int) := by rw [lvsN_len]; omega
    go_wp2
    go_ret
    exact ⟨reti (unhide HV).symm, bthen b1 b2⟩
end Go.Proofs.YtefdhlfljpppfaaGreat
