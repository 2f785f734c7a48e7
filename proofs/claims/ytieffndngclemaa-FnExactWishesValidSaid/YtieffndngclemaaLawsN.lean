/- The law FnExactWishesValid: the walk is printed by gen_exact.py. -/
import Derived.Test.YtieffndngclemaaWish
import Derived.Test.YtieffndngclemaaOpenWish
import Derived.Deep.DeepCutAuto
import Derived.Deep.Cut
namespace Go.Proofs.Ytieffndngclemaa
open Go.RowKit
set_option linter.unusedVariables false
set_option linter.unusedSimpArgs false

theorem own_drewN {w : World} {base : Nat} {e : TypeId} {size : Nat} {A : Option Addr} {c n : Nat} {xs : List Value} (h : w.ownsRow base e size (.slice A n c) n xs) (m : Nat) : (w.drewN m).ownsRow base e size (.slice A n c) n xs := h
theorem own_rng {w : World} {base : Nat} {e : TypeId} {size : Nat} {A : Option Addr} {c n : Nat} {xs : List Value} (h : w.ownsRow base e size (.slice A n c) n xs) : ∀ g, A = some ⟨g, 0, none⟩ → base ≤ g ∧ g < w.heap.size := fun g hg => h.lt g (by rw [hg]; rfl)
set_option maxRecDepth 100000 in
set_option maxHeartbeats 4000000 in
theorem law_FnExactWishesValid (A0 : Option Addr) (c0 : Nat) (xs : List Wsh) (w : World) (h0 : Rd w A0 (xs.flatMap encW)) (hw0 : ∀ n ∈ xs, n.wf) (hm0 : xs.length ≤ maxLen) :
    Calls Try.prog 3 #[.slice A0 xs.length c0] w fun e w' => e = .returned (.bool true) ∧ Below w.heap.size w w' := by
  clear hw0
  have hm0' : xs.length ≤ 9223372036854775807 := by simp only [maxLen] at hm0; omega
  clear hm0
  by_cases hl0 : (xs.length : Int) ≤ 1048576
  rotate_left
  · go_enter Try.func3, Try.ntmps3
    go_wp2_with fail
    refine (szWishS_any A0 xs.length c0 (1048576) _ (by omega) (by omega) (by omega)).mono ?_
    rintro e w' ⟨rfl, rfl⟩
    rw [if_neg (by omega)]
    go_wp2
    go_ret
    first | exact ⟨rfl, Below.refl _ _⟩ | exact ⟨rfl, (Below.refl _ _).alloc (Nat.le_refl _) _⟩
  have hk0 : xs.length ≤ 1048576 := by omega
  go_enter Try.func3, Try.ntmps3
  go_wp2_with fail
  refine (szWishS_any A0 xs.length c0 (1048576) _ (by omega) (by omega) (by omega)).mono ?_
  rintro e w' ⟨rfl, rfl⟩
  rw [if_pos (by omega)]
  have hB := Below.refl w.heap.size w
  go_wp2_with fail
  refine (toWishS_any A0 c0 xs w hk0 (h0.new hB)).mono ?_
  rintro e w1 ⟨B1, d1, rfl, o1, t1⟩
  have HL1 := hide (own_rng o1)
  have s1 := t1.size
  replace hB := bthen hB t1
  go_wp2_with fail
  refine (wishesValid_spec B1 d1 xs w1 (own_rd o1) (by omega)).mono ?_
  rintro e w2 ⟨rfl, t2⟩
  have s2 := t2.size
  replace hB := bthen hB t2
  replace o1 := own_new o1 t2
  go_wp2_with fail
  refine (toWishS_any A0 c0 xs w2 hk0 (h0.new hB)).mono ?_
  rintro e w3 ⟨B3, d3, rfl, o3, t3⟩
  have HL3 := hide (own_rng o3)
  have s3 := t3.size
  replace hB := bthen hB t3
  replace o1 := own_new o1 t3
  go_wp2_with fail
  refine (wishesValid_impl B3 d3 xs w3 (own_rd o3) (by omega)).mono ?_
  rintro e w4 ⟨rfl, t4⟩
  have s4 := t4.size
  replace hB := bthen hB t4
  replace o1 := own_new o1 t4
  replace o3 := own_new o3 t4
  go_wp2_with fail
  refine (toWishS_any A0 c0 xs w4 hk0 (h0.new hB)).mono ?_
  rintro e w5 ⟨B5, d5, rfl, o5, t5⟩
  have HL5 := hide (own_rng o5)
  have s5 := t5.size
  replace hB := bthen hB t5
  replace o1 := own_new o1 t5
  replace o3 := own_new o3 t5
  go_wp2_with fail
  refine (eqWishS_any B3 B5 d3 d5 _ _ w5 (own_rd o3) (own_rd o5) (by omega)).mono ?_
  rintro e w6 ⟨rfl, t6⟩
  have s6 := t6.size
  replace hB := bthen hB t6
  replace o1 := own_new o1 t6
  replace o3 := own_new o3 t6
  replace o5 := own_new o5 t6
  go_wp2
  go_ret
  exact ⟨rfl, hB⟩
end Go.Proofs.Ytieffndngclemaa
