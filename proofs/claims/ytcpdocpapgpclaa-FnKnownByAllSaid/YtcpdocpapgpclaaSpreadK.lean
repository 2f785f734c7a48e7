/- Spreads: KnownByAll of impl and spec. -/
import Derived.Test.YtcpdocpapgpclaaSpreadA
namespace Go.Proofs.Ytcpdocpapgpclaa
open Go.RowKit
set_option linter.unusedVariables false
set_option linter.unusedSimpArgs false

def andI (a b : Int) : Int := ((a.toNat &&& b.toNat : Nat) : Int)
def andN (zs : List Int) : Nat → Int
  | 0 => 255
  | j + 1 => andI (andN zs j) (zs.getD j 0)
def kbaN (xs ys : List Int) : Int := if spreadB xs ys then andN (spAllL xs ys) 4 else -1
theorem andI_bd {a b : Int} (ha : 0 ≤ a ∧ a ≤ 255) : 0 ≤ andI a b ∧ andI a b ≤ 255 := by
  unfold andI
  have : a.toNat &&& b.toNat ≤ a.toNat := Nat.and_le_left
  omega
theorem andI_bits {a b : Int} (ha : 0 ≤ a ∧ a ≤ 255) (hb : 0 ≤ b ∧ b ≤ 255) : bits .and .i64 a b = andI a b := by
  obtain ⟨A, rfl⟩ := Int.eq_ofNat_of_zero_le ha.1
  obtain ⟨B, rfl⟩ := Int.eq_ofNat_of_zero_le hb.1
  rw [i64_and_nat A B (by omega) (by omega)]
  simp [andI]
theorem andN_bd (zs : List Int) (j : Nat) : 0 ≤ andN zs j ∧ andN zs j ≤ 255 := by
  induction j with
  | zero => unfold andN; omega
  | succ j ih => exact andI_bd ih
theorem spAllL_len {xs ys : List Int} (h : spreadB xs ys = true) : (spAllL xs ys).length = 4 := by
  unfold spAllL
  rw [if_pos h]
  exact spIt_len (l30_yes (Bool.and_eq_true_iff.1 h).1).1 _
theorem spAllL_bd {xs ys : List Int} (h : spreadB xs ys = true) : ∀ x ∈ spAllL xs ys, 0 ≤ x ∧ x ≤ 255 := by
  unfold spAllL
  rw [if_pos h]
  exact spIt_bd (l30_yes (Bool.and_eq_true_iff.1 h).1).2 _
theorem spAllL_no {xs ys : List Int} (h : spreadB xs ys = false) : spAllL xs ys = [] := by unfold spAllL; rw [if_neg (by simp [h])]

set_option maxRecDepth 100000 in
theorem knownByAll_impl (A B : Option Addr) (c d : Nat) (xs ys : List Int) (w : World) (h : Rd w A (xs.map (.int .i64))) (h' : Rd w B (ys.map (.int .i64))) (hb : xs.length ≤ 1099511627776) (hb' : ys.length ≤ 4611686018427387904) :
    Calls Try.prog 18 #[.slice A xs.length c, .slice B ys.length d] w fun e w' => e = .returned (.int .i64 (kbaN xs ys)) ∧ Below w.heap.size w w' := by
  have hnil := fun W a n cc => Lib.run_eql_slice_nil (P := Try.prog) W 22 3 a n cc 0 0 Try.underlying22
  have HO := hide (spreadAll_impl A B c d xs ys w h h' hb hb')
  cases hx : spreadB xs ys
  · have HC := hide (show kbaN xs ys = -1 by simp [kbaN, hx])
    have HA := hide (spAllL_no hx)
    have HX := hide hx
    clear hx
    go_enter Try.func18, Try.ntmps18
    go_wp2_with fail
    refine (unhide HO).mono ?_
    rintro e w1 ⟨A1, c1, rfl, na, o1, b1⟩
    obtain rfl := na (unhide HX)
    rw [unhide HA]
    go_wp2
    go_ret
    exact ⟨reti (unhide HC).symm, b1⟩
  · have HC := hide (show kbaN xs ys = andN (spAllL xs ys) 4 by simp [kbaN, hx])
    have HA := hide (spAllL_len hx)
    have HV := hide (spAllL_bd hx)
    clear hx
    go_enter Try.func18, Try.ntmps18
    go_wp2_with fail
    refine (unhide HO).mono ?_
    rintro e w1 ⟨A1, c1, rfl, na, o1, b1⟩
    clear na
    generalize spAllL xs ys = zs at *
    have hl4 : 4 ≤ zs.length := by have := unhide HA; omega
    have hl5 : zs.length ≤ 4 := by have := unhide HA; omega
    obtain ⟨g, rfl, _, _⟩ := own_addr o1 (by omega)
    obtain ⟨b, off, hA, hbb, hc⟩ := (own_rd o1).intD (k := 0) (by omega)
    injection hA with hA
    injection hA with q1 q2
    subst q1 q2
    simp only [Nat.zero_add] at hc
    have HCC := hide hc
    have HR := hide o1
    clear hc o1
    go_wp2
    go_loop [7, 20] (fun s i => ∃ j : Nat, j ≤ zs.length ∧ i = .int .i64 j ∧ s = .int .i64 (andN zs j)) (fun _ i => zs.length - (intOf i).toNat)
    case atStart => exact ⟨0, by omega, rfl, rfl⟩
    case round =>
      obtain ⟨j, hj, rfl, rfl⟩ := hrel
      by_cases hlj : j < zs.length
      · have cj := unhide HCC j hlj
        obtain ⟨s, hs⟩ : ∃ s, s = andN zs j := ⟨_, rfl⟩
        obtain ⟨z, hz⟩ : ∃ z, z = zs.getD j 0 := ⟨_, rfl⟩
        rw [← hz] at cj
        rw [← hs]
        have sb : 0 ≤ s ∧ s ≤ 255 := hs ▸ andN_bd zs j
        have zb : 0 ≤ z ∧ z ≤ 255 := hz ▸ getD_bd (unhide HV) (by omega) j
        have HS := hide (show bits .and .i64 s z = andN zs (j + 1) by rw [andI_bits sb zb, hs, hz]; rfl)
        clear hs hz sb zb
        go_wp2
        go_round
        case rel => exact ⟨j + 1, by omega, by go_num, by rw [unhide HS]⟩
        case measure => simp [intOf]; omega
      · obtain rfl : j = 4 := by omega
        go_wp2
        go_ret
        exact ⟨reti (unhide HC).symm, b1⟩
set_option maxRecDepth 100000 in
theorem knownByAll_spec (A B : Option Addr) (c d : Nat) (xs ys : List Int) (w : World) (h : Rd w A (xs.map (.int .i64))) (h' : Rd w B (ys.map (.int .i64))) (hb : xs.length ≤ 1099511627776) (hb' : ys.length ≤ 4611686018427387904) :
    Calls Try.prog 17 #[.slice A xs.length c, .slice B ys.length d] w fun e w' => e = .returned (.int .i64 (kbaN xs ys)) ∧ Below w.heap.size w w' := by
  have HO := hide (spreadAll_spec A B c d xs ys w h h' hb hb')
  cases hx : spreadB xs ys
  · have HC := hide (show kbaN xs ys = -1 by simp [kbaN, hx])
    have HA := hide (spAllL_no hx)
    have HX := hide hx
    clear hx
    go_enter Try.func17, Try.ntmps17
    go_wp2_with fail
    refine (unhide HO).mono ?_
    rintro e w1 ⟨A1, c1, rfl, o1, b1⟩
    rw [unhide HA]
    go_wp2
    go_ret
    exact ⟨reti (unhide HC).symm, b1⟩
  · have HC := hide (show kbaN xs ys = andN (spAllL xs ys) 4 by simp [kbaN, hx])
    have HA := hide (spAllL_len hx)
    have HV := hide (spAllL_bd hx)
    clear hx
    go_enter Try.func17, Try.ntmps17
    go_wp2_with fail
    refine (unhide HO).mono ?_
    rintro e w1 ⟨A1, c1, rfl, o1, b1⟩
    generalize spAllL xs ys = zs at *
    have hl4 : 4 ≤ zs.length := by have := unhide HA; omega
    obtain ⟨b, off, rfl, hbb, hc⟩ := (own_rd o1).intD (k := 0) (by omega)
    have HCC := hide hc
    have HR := hide o1
    clear hc o1
    rw [unhide HA]
    go_wp2
    go_loop [7, 8] (fun s i => ∃ j : Nat, j ≤ 4 ∧ i = .int .i64 j ∧ s = .int .i64 (andN zs j)) (fun _ i => 4 - (intOf i).toNat)
    case atStart => exact ⟨0, by omega, rfl, rfl⟩
    case round =>
      obtain ⟨j, hj, rfl, rfl⟩ := hrel
      by_cases hlj : j < 4
      · have cj := unhide HCC j (by omega)
        obtain ⟨s, hs⟩ : ∃ s, s = andN zs j := ⟨_, rfl⟩
        obtain ⟨z, hz⟩ : ∃ z, z = zs.getD j 0 := ⟨_, rfl⟩
        rw [← hz] at cj
        rw [← hs]
        have sb : 0 ≤ s ∧ s ≤ 255 := hs ▸ andN_bd zs j
        have zb : 0 ≤ z ∧ z ≤ 255 := hz ▸ getD_bd (unhide HV) (by omega) j
        have HS := hide (show bits .and .i64 s z = andN zs (j + 1) by rw [andI_bits sb zb, hs, hz]; rfl)
        clear hs hz sb zb
        go_wp2
        go_round
        case rel => exact ⟨j + 1, by omega, by go_num, by rw [unhide HS]⟩
        case measure => simp [intOf]; omega
      · obtain rfl : j = 4 := by omega
        go_wp2
        go_ret
        exact ⟨reti (unhide HC).symm, b1⟩
end Go.Proofs.Ytcpdocpapgpclaa
