/- Spreads: the plain laws of rounds. No program is in sight here but for the definitions' text. -/
import Derived.Test.YtcpdocpapgpclaaSpreadO
namespace Go.Proofs.Ytcpdocpapgpclaa
set_option linter.unusedVariables false
set_option linter.unusedSimpArgs false

/-- a round, seen at one binary digit -/
def stepB (H : Nat → Nat → Bool) (f : Nat → Bool) (m : Nat) : Bool := (((f m || (H m 0 && f 0)) || (H m 1 && f 1)) || (H m 2 && f 2)) || (H m 3 && f 3)
def itB (H : Nat → Nat → Bool) (f : Nat → Bool) : Nat → Nat → Bool
  | 0 => f
  | r + 1 => stepB H (itB H f r)
def cntB (f : Nat → Bool) : Nat := (f 0).toNat + (f 1).toNat + (f 2).toNat + (f 3).toNat
def sameB (f g : Nat → Bool) : Prop := f 0 = g 0 ∧ f 1 = g 1 ∧ f 2 = g 2 ∧ f 3 = g 3
theorem stepB_up (H : Nat → Nat → Bool) (f : Nat → Bool) (m : Nat) : (f m).toNat ≤ (stepB H f m).toNat := by
  unfold stepB
  cases f m <;> simp
theorem stepB_congr (H : Nat → Nat → Bool) {f g : Nat → Bool} (h : sameB f g) : sameB (stepB H f) (stepB H g) := by
  obtain ⟨h0, h1, h2, h3⟩ := h
  simp [sameB, stepB, h0, h1, h2, h3]
theorem sameB_of_cnt {H : Nat → Nat → Bool} {f : Nat → Bool} (h : cntB (stepB H f) ≤ cntB f) : sameB (stepB H f) f := by
  have a0 := stepB_up H f 0
  have a1 := stepB_up H f 1
  have a2 := stepB_up H f 2
  have a3 := stepB_up H f 3
  unfold cntB at h
  have e : ∀ a b : Bool, a.toNat = b.toNat → a = b := by decide
  exact ⟨e _ _ (by omega), e _ _ (by omega), e _ _ (by omega), e _ _ (by omega)⟩
theorem sameB_full {H : Nat → Nat → Bool} {f : Nat → Bool} (h : 4 ≤ cntB f) : sameB (stepB H f) f := by
  have e : ∀ a : Bool, a.toNat ≤ 1 := by decide
  have := e (stepB H f 0)
  have := e (stepB H f 1)
  have := e (stepB H f 2)
  have := e (stepB H f 3)
  exact sameB_of_cnt (by unfold cntB at *; omega)
theorem sameB_none {H : Nat → Nat → Bool} {f : Nat → Bool} (h : cntB f = 0) : sameB (stepB H f) f := by
  have e : ∀ a : Bool, a.toNat = 0 → a = false := by decide
  unfold cntB at h
  have h0 := e (f 0) (by omega)
  have h1 := e (f 1) (by omega)
  have h2 := e (f 2) (by omega)
  have h3 := e (f 3) (by omega)
  simp [sameB, stepB, h0, h1, h2, h3]
/-- three rounds are enough -/
theorem itB_fix (H : Nat → Nat → Bool) (f : Nat → Bool) : sameB (itB H f 4) (itB H f 3) := by
  by_cases h0 : sameB (itB H f 1) (itB H f 0)
  · exact stepB_congr H (stepB_congr H (stepB_congr H h0))
  · by_cases h1 : sameB (itB H f 2) (itB H f 1)
    · exact stepB_congr H (stepB_congr H h1)
    · by_cases h2 : sameB (itB H f 3) (itB H f 2)
      · exact stepB_congr H h2
      · have c0 : 0 < cntB (itB H f 0) := by
          rcases Nat.eq_zero_or_pos (cntB (itB H f 0)) with h | h
          · exact absurd (sameB_none h) h0
          · exact h
        have c1 : cntB (itB H f 0) < cntB (itB H f 1) := by
          rcases Nat.lt_or_ge (cntB (itB H f 0)) (cntB (itB H f 1)) with h | h
          · exact h
          · exact absurd (sameB_of_cnt h) h0
        have c2 : cntB (itB H f 1) < cntB (itB H f 2) := by
          rcases Nat.lt_or_ge (cntB (itB H f 1)) (cntB (itB H f 2)) with h | h
          · exact h
          · exact absurd (sameB_of_cnt h) h1
        have c3 : cntB (itB H f 2) < cntB (itB H f 3) := by
          rcases Nat.lt_or_ge (cntB (itB H f 2)) (cntB (itB H f 3)) with h | h
          · exact h
          · exact absurd (sameB_of_cnt h) h2
        have c4 : 4 ≤ cntB (itB H f 3) := by omega
        exact sameB_full c4

def bitM (xs : List Int) (b m : Nat) : Bool := (xs.getD m 0).toNat.testBit b
def hearsM (ys : List Int) (m j : Nat) : Bool := hearsB (ys.getD m 0) j
theorem orI_bit (a b : Int) (i : Nat) : (orI a b).toNat.testBit i = (a.toNat.testBit i || b.toNat.testBit i) := by
  unfold orI
  rw [Int.toNat_natCast, Nat.testBit_or]
theorem spN_bit (xs : List Int) (u n : Int) (j i : Nat) : (spN xs u n (j + 1)).toNat.testBit i = ((spN xs u n j).toNat.testBit i || (hearsB u j && bitM xs i j)) := by
  cases h : hearsB u j
  · rw [spN_no h]; simp
  · rw [spN_yes h, orI_bit]; simp [bitM]
theorem spreadF_getD (xs ys : List Int) {m : Nat} (hm : m < 4) : (spreadF xs ys).getD m 0 = spN xs (ys.getD m 0) (xs.getD m 0) 4 := by
  simp [spreadF, List.getD_eq_getElem?_getD, hm]
theorem bitM_step (xs ys : List Int) (b : Nat) {m : Nat} (hm : m < 4) : bitM (spreadF xs ys) b m = stepB (hearsM ys) (bitM xs b) m := by
  unfold bitM
  rw [spreadF_getD xs ys hm, spN_bit, spN_bit, spN_bit, spN_bit]
  rfl
def spIt (xs ys : List Int) : Nat → List Int
  | 0 => xs
  | r + 1 => spreadF (spIt xs ys r) ys
theorem spIt_len {xs ys : List Int} (h : xs.length = 4) (r : Nat) : (spIt xs ys r).length = 4 := by
  cases r with
  | zero => exact h
  | succ r => exact spreadF_len _ _
theorem spreadF_bd {xs ys : List Int} (h : ∀ x ∈ xs, 0 ≤ x ∧ x ≤ 255) : ∀ x ∈ spreadF xs ys, 0 ≤ x ∧ x ≤ 255 := by
  intro x hx
  unfold spreadF at hx
  obtain ⟨m, _, rfl⟩ := List.mem_map.1 hx
  exact spN_bd h (getD_bd h (by omega) m) 4
theorem spIt_bd {xs ys : List Int} (h : ∀ x ∈ xs, 0 ≤ x ∧ x ≤ 255) (r : Nat) : ∀ x ∈ spIt xs ys r, 0 ≤ x ∧ x ≤ 255 := by
  induction r with
  | zero => exact h
  | succ r ih => exact spreadF_bd ih
theorem bitM_it (xs ys : List Int) (b r : Nat) : sameB (bitM (spIt xs ys r) b) (itB (hearsM ys) (bitM xs b) r) := by
  induction r with
  | zero => exact ⟨rfl, rfl, rfl, rfl⟩
  | succ r ih =>
    have h := stepB_congr (hearsM ys) ih
    exact ⟨(bitM_step _ _ _ (by omega)).trans h.1, (bitM_step _ _ _ (by omega)).trans h.2.1, (bitM_step _ _ _ (by omega)).trans h.2.2.1, (bitM_step _ _ _ (by omega)).trans h.2.2.2⟩
theorem eq_of_bits {xs zs : List Int} (h : xs.length = 4) (h' : zs.length = 4) (hx : ∀ x ∈ xs, 0 ≤ x ∧ x ≤ 255) (hz : ∀ x ∈ zs, 0 ≤ x ∧ x ≤ 255) (hb : ∀ b, sameB (bitM xs b) (bitM zs b)) : xs = zs := by
  apply List.ext_getElem (by omega)
  intro m h1 h2
  have e1 : xs.getD m 0 = xs[m] := by simp [List.getD_eq_getElem?_getD, h1]
  have e2 : zs.getD m 0 = zs[m] := by simp [List.getD_eq_getElem?_getD, h2]
  have b1 := hx _ (List.getElem_mem h1)
  have b2 := hz _ (List.getElem_mem h2)
  have : xs[m].toNat = zs[m].toNat := by
    apply Nat.eq_of_testBit_eq
    intro b
    rw [← e1, ← e2]
    obtain ⟨c0, c1, c2, c3⟩ := hb b
    have hm : m = 0 ∨ m = 1 ∨ m = 2 ∨ m = 3 := by omega
    rcases hm with rfl | rfl | rfl | rfl
    · exact c0
    · exact c1
    · exact c2
    · exact c3
  omega
theorem sameB_symm {f g : Nat → Bool} (h : sameB f g) : sameB g f := ⟨h.1.symm, h.2.1.symm, h.2.2.1.symm, h.2.2.2.symm⟩
theorem sameB_trans {f g k : Nat → Bool} (h : sameB f g) (h' : sameB g k) : sameB f k := ⟨h.1.trans h'.1, h.2.1.trans h'.2.1, h.2.2.1.trans h'.2.2.1, h.2.2.2.trans h'.2.2.2⟩
/-- behind three rounds nothing changes -/
theorem spIt_fix {xs ys : List Int} (h : xs.length = 4) (hx : ∀ x ∈ xs, 0 ≤ x ∧ x ≤ 255) : spreadF (spIt xs ys 3) ys = spIt xs ys 3 :=
  eq_of_bits (spreadF_len _ _) (spIt_len h 3) (spreadF_bd (spIt_bd hx 3)) (spIt_bd hx 3) fun b =>
    sameB_trans (bitM_it xs ys b 4) (sameB_trans (itB_fix _ _) (sameB_symm (bitM_it xs ys b 3)))
def fixB (xs ys : List Int) (r : Nat) : Bool := decide (spreadF (spIt xs ys r) ys = spIt xs ys r)
/-- how many rounds change something -/
def spEnd (xs ys : List Int) : Nat := if fixB xs ys 0 then 0 else if fixB xs ys 1 then 1 else if fixB xs ys 2 then 2 else 3
theorem spEnd_le (xs ys : List Int) : spEnd xs ys ≤ 3 := by unfold spEnd; (repeat' split) <;> omega
theorem spEnd_eq {xs ys : List Int} {r : Nat} (hr : r ≤ 3) (h : fixB xs ys r = true) (hn : ∀ j, j < r → fixB xs ys j = false) : spEnd xs ys = r := by
  have h' : r = 0 ∨ r = 1 ∨ r = 2 ∨ r = 3 := by omega
  rcases h' with rfl | rfl | rfl | rfl
  · simp [spEnd, h]
  · simp [spEnd, h, hn 0 (by omega)]
  · simp [spEnd, h, hn 0 (by omega), hn 1 (by omega)]
  · simp [spEnd, hn 0 (by omega), hn 1 (by omega), hn 2 (by omega)]
theorem spEnd_fix {xs ys : List Int} (h : xs.length = 4) (hx : ∀ x ∈ xs, 0 ≤ x ∧ x ≤ 255) : spreadF (spIt xs ys (spEnd xs ys)) ys = spIt xs ys (spEnd xs ys) := by
  unfold spEnd
  by_cases h0 : fixB xs ys 0 = true
  · rw [if_pos h0]; exact of_decide_eq_true h0
  · rw [if_neg h0]
    by_cases h1 : fixB xs ys 1 = true
    · rw [if_pos h1]; exact of_decide_eq_true h1
    · rw [if_neg h1]
      by_cases h2 : fixB xs ys 2 = true
      · rw [if_pos h2]; exact of_decide_eq_true h2
      · rw [if_neg h2]; exact spIt_fix h hx
theorem fixB_3 {xs ys : List Int} (h : xs.length = 4) (hx : ∀ x ∈ xs, 0 ≤ x ∧ x ≤ 255) : fixB xs ys 3 = true := by
  unfold fixB; rw [decide_eq_true_eq]; exact spIt_fix h hx
def spAllL (xs ys : List Int) : List Int := if spreadB xs ys then spIt xs ys (spEnd xs ys) else []
def spAllN (xs ys : List Int) : Int := if spreadB xs ys then (spEnd xs ys : Int) else 0
theorem spreadB_it {xs ys : List Int} (h : spreadB xs ys = true) (r : Nat) : spreadB (spIt xs ys r) ys = true := by
  obtain ⟨h1, h2⟩ := Bool.and_eq_true_iff.1 h
  obtain ⟨hl, hv⟩ := l30_yes h1
  unfold spreadB
  rw [h2, Bool.and_true]
  simp only [l30B, spIt_len hl, decide_true, Bool.true_and, Bool.not_eq_true', List.any_eq_false]
  intro x hx
  rw [inB_true.2 (spIt_bd hv r x hx)]
  simp
theorem spreadL_it {xs ys : List Int} (h : spreadB xs ys = true) (r : Nat) : spreadL (spIt xs ys r) ys = spreadF (spIt xs ys r) ys := by unfold spreadL; rw [if_pos (spreadB_it h r)]
end Go.Proofs.Ytcpdocpapgpclaa
