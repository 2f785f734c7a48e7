/- Spreads: what the laws need, in plain numbers. -/
import Derived.Test.YtcpdocpapgpclaaSpreadK
namespace Go.Proofs.Ytcpdocpapgpclaa
set_option linter.unusedVariables false
set_option linter.unusedSimpArgs false

theorem spN_keeps (xs : List Int) (u n : Int) (j i : Nat) (h : n.toNat.testBit i = true) : (spN xs u n j).toNat.testBit i = true := by
  induction j with
  | zero => exact h
  | succ j ih => rw [spN_bit, ih, Bool.true_or]
theorem spN_and {xs : List Int} {u n : Int} (hx : ∀ x ∈ xs, 0 ≤ x ∧ x ≤ 255) (hn : 0 ≤ n ∧ n ≤ 255) (j : Nat) : (bits .and .i64 (spN xs u n j) n != n) = false := by
  rw [andI_bits (spN_bd hx hn j) hn, bne_eq_false_iff_eq]
  unfold andI
  have : (spN xs u n j).toNat &&& n.toNat = n.toNat := by
    apply Nat.eq_of_testBit_eq
    intro i
    rw [Nat.testBit_and]
    cases h : n.toNat.testBit i
    · simp
    · rw [spN_keeps xs u n j i h]; rfl
  rw [this]
  omega
theorem spN_zero (xs : List Int) (n : Int) (j : Nat) : spN xs 0 n j = n := by
  induction j with
  | zero => rfl
  | succ j ih => rw [spN_no (by simp [hearsB]), ih]
theorem andN_bit (zs : List Int) (j i : Nat) : (andN zs (j + 1)).toNat.testBit i = ((andN zs j).toNat.testBit i && bitM zs i j) := by
  show (andI (andN zs j) (zs.getD j 0)).toNat.testBit i = _
  unfold andI
  rw [Int.toNat_natCast, Nat.testBit_and]
  rfl
theorem andN_sub {zs : List Int} (hz : ∀ x ∈ zs, 0 ≤ x ∧ x ≤ 255) {k : Nat} (hk : k < 4) : (bits .and .i64 (zs.getD k 0) (andN zs 4) != andN zs 4) = false := by
  have hb := andN_bd zs 4
  rw [andI_bits (getD_bd hz (by omega) k) hb, bne_eq_false_iff_eq]
  unfold andI
  have : (zs.getD k 0).toNat &&& (andN zs 4).toNat = (andN zs 4).toNat := by
    apply Nat.eq_of_testBit_eq
    intro i
    rw [Nat.testBit_and, andN_bit, andN_bit, andN_bit, andN_bit]
    have hm : k = 0 ∨ k = 1 ∨ k = 2 ∨ k = 3 := by omega
    rcases hm with rfl | rfl | rfl | rfl
    all_goals
      simp only [bitM]
      generalize (andN zs 0).toNat.testBit i = a
      generalize (zs.getD 0 0).toNat.testBit i = b0
      generalize (zs.getD 1 0).toNat.testBit i = b1
      generalize (zs.getD 2 0).toNat.testBit i = b2
      generalize (zs.getD 3 0).toNat.testBit i = b3
      revert a b0 b1 b2 b3
      decide
  rw [this]
  omega
def orN (zs : List Int) : Nat → Int
  | 0 => 0
  | j + 1 => orI (orN zs j) (zs.getD j 0)
theorem orN_bd {zs : List Int} (hz : ∀ x ∈ zs, 0 ≤ x ∧ x ≤ 255) (j : Nat) : 0 ≤ orN zs j ∧ orN zs j ≤ 255 := by
  induction j with
  | zero => unfold orN; omega
  | succ j ih => exact orI_bd ih (getD_bd hz (by omega) j)
def orB (f : Nat → Bool) : Bool := f 0 || f 1 || f 2 || f 3
theorem orN_bit (zs : List Int) (i : Nat) : (orN zs 4).toNat.testBit i = orB (bitM zs i) := by
  unfold orN orN orN orN orN
  rw [orI_bit, orI_bit, orI_bit, orI_bit]
  simp [orB, bitM]
theorem orB_step (H : Nat → Nat → Bool) (f : Nat → Bool) : orB (stepB H f) = orB f := by
  unfold orB stepB
  cases h0 : f 0 <;> cases h1 : f 1 <;> cases h2 : f 2 <;> cases h3 : f 3 <;> simp
theorem orB_it (H : Nat → Nat → Bool) (f : Nat → Bool) (r : Nat) : orB (itB H f r) = orB f := by
  induction r with
  | zero => rfl
  | succ r ih => exact (orB_step H _).trans ih
theorem orB_congr {f g : Nat → Bool} (h : sameB f g) : orB f = orB g := by
  obtain ⟨h0, h1, h2, h3⟩ := h
  simp [orB, h0, h1, h2, h3]
def loud4 : List Int := [15, 15, 15, 15]
theorem loud_hears {m j : Nat} (hm : m < 4) (hj : j < 4) : hearsM loud4 m j = true := by
  have h1 : m = 0 ∨ m = 1 ∨ m = 2 ∨ m = 3 := by omega
  have h2 : j = 0 ∨ j = 1 ∨ j = 2 ∨ j = 3 := by omega
  rcases h1 with rfl | rfl | rfl | rfl <;> rcases h2 with rfl | rfl | rfl | rfl <;> decide
theorem loud_ok {xs ys : List Int} (h : spreadB xs ys = true) : spreadB xs loud4 = true := by
  have h1 := (Bool.and_eq_true_iff.1 h).1
  unfold spreadB
  rw [h1, Bool.true_and]
  decide
theorem hi_bit {x : Int} (h : 0 ≤ x ∧ x ≤ 255) {i : Nat} (hi : 8 ≤ i) : x.toNat.testBit i = false := by
  apply Nat.testBit_lt_two_pow
  have : 2 ^ 8 ≤ 2 ^ i := Nat.pow_le_pow_right (by decide) hi
  have : x.toNat < 2 ^ 8 := by omega
  omega
theorem kba_loud {xs ys : List Int} (h : spreadB xs ys = true) : kbaN xs loud4 = orN xs 4 := by
  have hL := loud_ok h
  obtain ⟨hl, hv⟩ := l30_yes (Bool.and_eq_true_iff.1 h).1
  unfold kbaN
  rw [if_pos hL]
  have hz : spAllL xs loud4 = spIt xs loud4 (spEnd xs loud4) := by unfold spAllL; rw [if_pos hL]
  rw [hz]
  have hfix := spEnd_fix (ys := loud4) hl hv
  have hbz := bitM_it xs loud4
  generalize spEnd xs loud4 = r at *
  have hb1 := andN_bd (spIt xs loud4 r) 4
  have hb2 := orN_bd hv 4
  have : (andN (spIt xs loud4 r) 4).toNat = (orN xs 4).toNat := by
    apply Nat.eq_of_testBit_eq
    intro i
    rcases Nat.lt_or_ge i 8 with hi | hi
    · rw [orN_bit, andN_bit, andN_bit, andN_bit, andN_bit]
      have h255 : (andN (spIt xs loud4 r) 0).toNat.testBit i = true := by
        show (255 : Nat).testBit i = true
        have : i = 0 ∨ i = 1 ∨ i = 2 ∨ i = 3 ∨ i = 4 ∨ i = 5 ∨ i = 6 ∨ i = 7 := by omega
        rcases this with rfl | rfl | rfl | rfl | rfl | rfl | rfl | rfl <;> decide
      have hor : orB (bitM (spIt xs loud4 r) i) = orB (bitM xs i) := (orB_congr (hbz i r)).trans (orB_it _ _ _)
      have hst : ∀ m, m < 4 → bitM (spIt xs loud4 r) i m = orB (bitM xs i) := by
        intro m hm
        have := bitM_step (spIt xs loud4 r) loud4 i hm
        rw [hfix] at this
        rw [this, ← hor]
        unfold stepB orB
        rw [loud_hears hm (by omega), loud_hears hm (by omega), loud_hears hm (by omega), loud_hears hm (by omega)]
        have h1 : m = 0 ∨ m = 1 ∨ m = 2 ∨ m = 3 := by omega
        generalize hf : bitM (spIt xs loud4 r) i = f
        rcases h1 with rfl | rfl | rfl | rfl <;> cases f 0 <;> cases f 1 <;> cases f 2 <;> cases f 3 <;> rfl
      rw [h255, hst 0 (by omega), hst 1 (by omega), hst 2 (by omega), hst 3 (by omega)]
      simp
    · rw [hi_bit hb1 hi, hi_bit hb2 hi]
  omega
end Go.Proofs.Ytcpdocpapgpclaa
