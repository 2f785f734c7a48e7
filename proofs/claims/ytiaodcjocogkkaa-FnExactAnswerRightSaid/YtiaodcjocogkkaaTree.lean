/- Trees of sums over stores: LeafSum, levels, RootOf of the program. -/
import Derived.Test.YtiaodcjocogkkaaDiffs
import Derived.Test.YtiaodcjocogkkaaDeep
import Derived.Test.YtiaodcjocogkkaaSums
namespace Go.Proofs.Ytiaodcjocogkkaa
open Go.RowKit
set_option linter.unusedVariables false
set_option linter.unusedSimpArgs false
attribute [local go_sem ↓] Go.wp_at_zero Go.wp_at_succ

def leafS (k v : Int) : Int := if inB k 0 31 = true ∧ inB v 0 1000000 = true then sumF 1 [k, v] else -1
def upN (xs : List Int) : Nat → List Int
  | 0 => []
  | j + 1 => upN xs j ++ [sumF 2 [xs.getD (j + j) 0, xs.getD (j + j + 1) 0]]
def upL (xs : List Int) : List Int := upN xs (xs.length / 2)
def leafN (v : List Int) : Nat → List Int
  | 0 => []
  | k + 1 => leafN v k ++ [leafS (k : Int) (v.getD k 0)]
def lvN (v : List Int) : Nat → List Int
  | 0 => leafN v 32
  | k + 1 => upL (lvN v k)
def lvsN (v : List Int) : Nat → List (List Int)
  | 0 => [lvN v 0]
  | k + 1 => lvsN v k ++ [lvN v (k + 1)]
theorem upN_len (xs : List Int) (j : Nat) : (upN xs j).length = j := by
  induction j with
  | zero => rfl
  | succ j ih => rw [upN, List.length_append, ih]; rfl
theorem leafN_len (v : List Int) (j : Nat) : (leafN v j).length = j := by
  induction j with
  | zero => rfl
  | succ j ih => rw [leafN, List.length_append, ih]; rfl
theorem lvN_len (v : List Int) (k : Nat) (hk : k ≤ 5) : (lvN v k).length = 2 ^ (5 - k) := by
  induction k with
  | zero => exact leafN_len v 32
  | succ k ih =>
    rw [lvN, upL, upN_len, ih (by omega), show 5 - k = (5 - (k + 1)) + 1 by omega, Nat.pow_succ]
    omega
theorem lvN_up (v : List Int) (k : Nat) (hk : k < 5) : lvN v (k + 1) = upN (lvN v k) (2 ^ (5 - (k + 1))) := by
  have h : (lvN v k).length / 2 = 2 ^ (5 - (k + 1)) := by
    rw [lvN_len v k (by omega), show 5 - k = (5 - (k + 1)) + 1 by omega, Nat.pow_succ]
    omega
  rw [lvN, upL, h]
theorem lvsN_len (v : List Int) (k : Nat) : (lvsN v k).length = k + 1 := by
  induction k with
  | zero => rfl
  | succ k ih => rw [lvsN, List.length_append, ih]; rfl
theorem lvsN_get (v : List Int) (k j : Nat) (hj : j < (lvsN v k).length) : (lvsN v k)[j] = lvN v j := by
  induction k generalizing j with
  | zero =>
    obtain rfl : j = 0 := by simpa [lvsN] using hj
    rfl
  | succ k ih =>
    simp only [lvsN]
    by_cases h : j < (lvsN v k).length
    · rw [List.getElem_append_left h]; exact ih j h
    · have h1 := lvsN_len v k
      have h2 := lvsN_len v (k + 1)
      obtain rfl : j = k + 1 := by omega
      rw [List.getElem_append_right (by omega)]
      simp
theorem leafS_bd (k v : Int) : -1 ≤ leafS k v ∧ leafS k v ≤ 1000002 := by
  unfold leafS
  split
  · exact sumF_bd _ _
  · omega
theorem leafSum_impl (k v : Int) (w : World) :
    Calls Try.prog 110 #[.int .i64 k, .int .i64 v] w fun e w' => e = .returned (.int .i64 (leafS k v)) ∧ Below w.heap.size w w' := by
  cases hk : inB k 0 31
  · have HV := hide (show leafS k v = -1 by simp [leafS, hk])
    go_enter Try.func110, Try.ntmps110
    go_wp2_with fail
    refine (isKey_any k _).mono ?_
    rintro e w' ⟨rfl, rfl⟩
    rw [hk]
    go_wp2
    go_ret
    exact ⟨reti (unhide HV).symm, Below.refl _ _⟩
  · cases hv : inB v 0 1000000
    · have HV := hide (show leafS k v = -1 by simp [leafS, hv])
      go_enter Try.func110, Try.ntmps110
      go_wp2_with fail
      refine (isKey_any k _).mono ?_
      rintro e w' ⟨rfl, rfl⟩
      rw [hk]
      go_wp2_with fail
      refine (isValue_any v _).mono ?_
      rintro e w' ⟨rfl, rfl⟩
      rw [hv]
      go_wp2
      go_ret
      exact ⟨reti (unhide HV).symm, Below.refl _ _⟩
    · have HV := hide (show leafS k v = sumF 1 [k, v] by simp [leafS, hv, hk])
      go_enter Try.func110, Try.ntmps110
      go_wp2_with fail
      refine (isKey_any k _).mono ?_
      rintro e w' ⟨rfl, rfl⟩
      rw [hk]
      go_wp2_with fail
      refine (isValue_any v _).mono ?_
      rintro e w' ⟨rfl, rfl⟩
      rw [hv]
      go_wp2_with fail
      refine (sum_impl 1 (some ⟨w.heap.size, 0, none⟩) 2 [k, v] _ (rd_lit w [.int .i64 k, .int .i64 v] 3) (by simp)).mono ?_
      rintro e w' ⟨rfl, rfl⟩
      go_wp2
      go_ret
      exact ⟨reti (unhide HV).symm, (Below.refl _ _).alloc (Nat.le_refl _) _⟩
end Go.Proofs.Ytiaodcjocogkkaa
