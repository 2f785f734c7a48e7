/- Spreads: spread and SpreadOnce of impl. -/
import Derived.Test.YtcpdocpapgpclaaSpreadO
import Derived.Test.YtcpdocpapgpclaaClone
namespace Go.Proofs.Ytcpdocpapgpclaa
open Go.RowKit
set_option linter.unusedVariables false
set_option linter.unusedSimpArgs false

/-- the row behind m members -/
def spRow (xs ys : List Int) (m : Nat) : List Int := (spreadF xs ys).take m ++ xs.drop m
theorem spRow_len {xs ys : List Int} (h : xs.length = 4) {m : Nat} (hm : m ≤ 4) : (spRow xs ys m).length = 4 := by simp [spRow, spreadF_len, h]; omega
theorem spRow_get {xs ys : List Int} (h : xs.length = 4) {m : Nat} (hm : m < 4) : (spRow xs ys m)[m]? = some (xs.getD m 0) := by
  have e : min m 4 = m := by omega
  simp [spRow, List.getElem?_append, spreadF_len, e, List.getD_eq_getElem?_getD, h, hm]
theorem spRow_set0 {xs ys : List Int} (h : xs.length = 4) {m : Nat} (hm : m < 4) : (spRow xs ys m).set m (xs.getD m 0) = spRow xs ys m := by
  apply List.ext_getElem?
  intro j
  by_cases hj : j = m
  · subst hj
    rw [List.getElem?_set_self (by rw [spRow_len h (by omega)]; omega), spRow_get h hm]
  · rw [List.getElem?_set_ne (Ne.symm hj)]
theorem spRow_set4 {xs ys : List Int} (h : xs.length = 4) {m : Nat} (hm : m < 4) : (spRow xs ys m).set m (spN xs (ys.getD m 0) (xs.getD m 0) 4) = spRow xs ys (m + 1) := by
  have e1 : (List.take m (spreadF xs ys)).length = m := by simp [spreadF_len]; omega
  have e2 : xs.drop m = xs[m]'(by omega) :: xs.drop (m + 1) := List.drop_eq_getElem_cons (by omega)
  unfold spRow
  rw [spreadF_take hm, List.append_assoc, e2]
  rw [List.set_append_right _ _ (by omega), e1, Nat.sub_self]
  rfl
theorem spRow_0 (xs ys : List Int) : spRow xs ys 0 = xs := by simp [spRow]
theorem spRow_4 {xs ys : List Int} (h : xs.length = 4) : spRow xs ys 4 = spreadF xs ys := by
  have : (spreadF xs ys).take 4 = spreadF xs ys := List.take_of_length_le (by rw [spreadF_len]; omega)
  simp [spRow, this, h]

set_option maxRecDepth 100000 in
theorem spread_any (A B : Option Addr) (c d : Nat) (xs ys : List Int) (w : World) (h : Rd w A (xs.map (.int .i64))) (h' : Rd w B (ys.map (.int .i64))) (hl : xs.length = 4) (hl' : ys.length = 4) (hv : ∀ x ∈ xs, 0 ≤ x ∧ x ≤ 255) (hv' : ∀ x ∈ ys, 0 ≤ x ∧ x ≤ 15) :
    Calls Try.prog 26 #[.slice A xs.length c, .slice B ys.length d] w fun e w' => ∃ A' c', e = .returned (.slice A' 4 c') ∧ w'.ownsRow w.heap.size 3 1 (.slice A' 4 c') 4 ((spreadF xs ys).map (.int .i64)) ∧ Below w.heap.size w w' := by
  have HL := hide hl
  have HM := hide hl'
  have HV := hide hv
  have HW := hide hv'
  have h4 : xs.length ≤ 4 := by omega
  have h4' : 4 ≤ xs.length := by omega
  have h5 : ys.length ≤ 4 := by omega
  have h5' : 4 ≤ ys.length := by omega
  clear hl hl' hv hv'
  go_enter Try.func26, Try.ntmps26
  go_wp2_with fail
  refine (cloneI_any A c xs w h (by omega) (by omega)).mono ?_
  rintro e w1 ⟨A1, c1, rfl, o1, b1⟩
  rw [unhide HL] at o1
  obtain ⟨g, rfl, hg1, hg2⟩ := own_addr o1 (by omega)
  rw [← spRow_0 xs ys] at o1
  have k1 := h.new b1
  have k2 := h'.new b1
  rw [unhide HL]
  go_wp2
  go_loopw [13] (fun i wr => ∃ m : Nat, m ≤ 4 ∧ i = .int .i64 m ∧ wr.ownsRow w.heap.size 3 1 (.slice (some ⟨g, 0, none⟩) 4 c1) 4 ((spRow xs ys m).map (.int .i64)) ∧ Below w.heap.size w wr) (fun i _ => 4 - (intOf i).toNat)
  case atStart => exact ⟨0, by omega, rfl, o1, b1⟩
  case round =>
    obtain ⟨m, hm, rfl, own, hB⟩ := hrel
    clear o1 b1 k1 k2
    by_cases hlt : m < 4
    · obtain ⟨b, off, hA, hbb, hc⟩ := h.intD (k := m) (by omega)
      obtain ⟨b', off', hA', hbb', hc'⟩ := h'.intD (k := m) (by omega)
      subst hA hA'
      obtain ⟨n, hn⟩ : ∃ n, n = xs.getD m 0 := ⟨_, rfl⟩
      obtain ⟨u, hu⟩ : ∃ u, u = ys.getD m 0 := ⟨_, rfl⟩
      obtain ⟨n0, n1⟩ : 0 ≤ n ∧ n ≤ 255 := hn ▸ getD_bd (unhide HV) (by omega) m
      obtain ⟨u0, u1⟩ : 0 ≤ u ∧ u ≤ 15 := hu ▸ getD_bd (unhide HW) (by omega) m
      have cm := hc' m (by omega)
      rw [← hu] at cm
      have HCC := hide hc
      clear hc hc'
      have HN := hide hn
      have HU := hide hu
      clear hn hu
      have HF := hide (fun j => spN_bd (h := u) (unhide HV) ⟨n0, n1⟩ j)
      have O0 : wr.ownsRow w.heap.size 3 1 (.slice (some ⟨g, 0, none⟩) 4 c1) 4 (((spRow xs ys m).set m (spN xs u n 0)).map (.int .i64)) := by
        rw [show spN xs u n 0 = xs.getD m 0 from unhide HN, spRow_set0 (unhide HL) hlt]; exact own
      clear own
      go_wp2
      go_loopw [18] (fun i wq => ∃ j : Nat, j ≤ 4 ∧ i = .int .i64 j ∧ wq.ownsRow w.heap.size 3 1 (.slice (some ⟨g, 0, none⟩) 4 c1) 4 (((spRow xs ys m).set m (spN xs u n j)).map (.int .i64)) ∧ Below w.heap.size w wq) (fun i _ => 4 - (intOf i).toNat)
      case atStart => exact ⟨0, by omega, rfl, O0, hB⟩
      case round =>
        clear O0 hB
        obtain ⟨j, hj, rfl, own, hB⟩ := hrel
        by_cases hlj : j < 4
        · have cj := (hB.cell (p := ⟨b, off + j, none⟩) hbb).trans (unhide HCC j (by omega))
          have cu := (hB.cell (p := ⟨b', off' + m, none⟩) hbb').trans cm
          obtain ⟨s, hs⟩ : ∃ s, s = spN xs u n j := ⟨_, rfl⟩
          obtain ⟨z, hz⟩ : ∃ z, z = xs.getD j 0 := ⟨_, rfl⟩
          rw [← hz] at cj
          obtain ⟨s0, s1⟩ : 0 ≤ s ∧ s ≤ 255 := hs ▸ unhide HF j
          obtain ⟨z0, z1⟩ : 0 ≤ z ∧ z ≤ 255 := hz ▸ getD_bd (unhide HV) (by omega) j
          have HS := hide hs
          have HZ := hide hz
          have i1 : (j : Int) < (xs.length : Int) := by omega
          have i2 : (m : Int) < (ys.length : Int) := by omega
          cases ht : hearsB u j
          · have HT := hide ht
            have ht' := (hears_and u0 u1 j).trans ht
            rw [← spN_no ht] at own
            clear ht hs hz
            go_wp2
            go_roundw
            case rel => exact ⟨j + 1, by omega, by go_num, own, hB⟩
            case measure => simp [intOf]; omega
          · have HT := hide ht
            have ht' := (hears_and u0 u1 j).trans ht
            have own2 : (wr.setCell ⟨g, m, none⟩ (.int .i64 (bits .or .i64 s z))).ownsRow w.heap.size 3 1 (.slice (some ⟨g, 0, none⟩) 4 c1) 4 (((spRow xs ys m).set m (spN xs u n (j + 1))).map (.int .i64)) := by
              have := own_set own m (.int .i64 (bits .or .i64 s z))
              rw [← List.map_set, List.set_set] at this
              rw [spN_yes ht, ← hs, ← hz, ← orI_bits ⟨s0, s1⟩ ⟨z0, z1⟩]
              exact this
            have cs := own_cell own m (by simp [spRow_len (unhide HL) hm]; omega)
            rw [List.getElem_map, List.getElem_set_self, ← hs] at cs
            have fs := own_frozen own m
            have OW := hide own2
            clear ht hs hz own own2
            go_wp2
            go_roundw
            case rel =>
              exact ⟨j + 1, by omega, by go_num, unhide OW, hB.setCell (by omega) _⟩
            case measure => simp [intOf]; omega
        · obtain rfl : j = 4 := by omega
          rw [unhide HN, unhide HU, spRow_set4 (unhide HL) hlt] at own
          go_wp2
          go_roundw
          case rel => exact ⟨m + 1, by omega, by go_num, own, hB⟩
          case measure => simp [intOf]; omega
    · obtain rfl : m = 4 := by omega
      rw [spRow_4 (unhide HL)] at own
      go_wp2
      go_ret
      exact ⟨_, _, rfl, own, hB⟩
theorem spreadOnce_impl (A B : Option Addr) (c d : Nat) (xs ys : List Int) (w : World) (h : Rd w A (xs.map (.int .i64))) (h' : Rd w B (ys.map (.int .i64))) (hb : xs.length ≤ 1099511627776) (hb' : ys.length ≤ 4611686018427387904) :
    Calls Try.prog 11 #[.slice A xs.length c, .slice B ys.length d] w fun e w' => ∃ A' c', e = .returned (.slice A' (spreadL xs ys).length c') ∧ w'.ownsRow w.heap.size 3 1 (.slice A' (spreadL xs ys).length c') (spreadL xs ys).length ((spreadL xs ys).map (.int .i64)) ∧ Below w.heap.size w w' := by
  cases hx : spreadB xs ys
  · have HX := hide hx
    have HC := hide (show spreadL xs ys = [] by simp [spreadL, hx])
    clear hx
    rw [unhide HC]
    go_enter Try.func11, Try.ntmps11
    go_wp2_with fail
    refine (fits_any A B c d xs ys w h h' (by omega) hb').mono ?_
    rintro e w' ⟨rfl, rfl⟩
    rw [unhide HX]
    go_wp2
    go_ret
    exact ⟨none, 0, rfl, own_nil _ _ _ _, Below.refl _ _⟩
  · have HX := hide hx
    have HC := hide (show spreadL xs ys = spreadF xs ys by simp [spreadL, hx])
    obtain ⟨h1, h2⟩ := Bool.and_eq_true_iff.1 hx
    have H1 := hide (l30_yes h1)
    have H2 := hide (l30_yes h2)
    clear hx h1 h2
    rw [unhide HC, spreadF_len]
    go_enter Try.func11, Try.ntmps11
    go_wp2_with fail
    refine (fits_any A B c d xs ys w h h' (by omega) hb').mono ?_
    rintro e w' ⟨rfl, rfl⟩
    rw [unhide HX]
    go_wp2_with fail
    refine (spread_any A B c d xs ys w h h' (unhide H1).1 (unhide H2).1 (unhide H1).2 (unhide H2).2).mono ?_
    rintro e w1 ⟨A1, c1, rfl, o1, b1⟩
    go_wp2
    go_ret
    exact ⟨A1, c1, rfl, o1, b1⟩
end Go.Proofs.Ytcpdocpapgpclaa
