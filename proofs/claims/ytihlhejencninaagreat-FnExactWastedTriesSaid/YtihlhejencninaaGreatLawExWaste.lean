/- The law FnExactWastedTries: walk printed by gen_exact.py. -/
import Derived.Test.YtihlhejencninaaGreatWasteS
import Derived.Test.YtihlhejencninaaGreatGint
import Derived.Test.YtihlhejencninaaGreatGact
import Derived.Test.YtihlhejencninaaGreatOpenEntry
import Derived.Test.YtihlhejencninaaGreatOpenAction
namespace Go.Proofs.YtihlhejencninaaGreat
open Go.RowKit
set_option linter.unusedVariables false
set_option linter.unusedSimpArgs false

set_option maxRecDepth 100000 in
set_option maxHeartbeats 4000000 in
theorem law_FnExactWastedTries (A0 : Option Addr) (c0 : Nat) (xs : List Ent) (A1 : Option Addr) (c1 : Nat) (ys : List Act) (A2 : Option Addr) (c2 : Nat) (zs : List Int) (w : World) (h0 : Rd w A0 (xs.flatMap encE)) (hw0 : ∀ n ∈ xs, n.wf) (hm0 : xs.length ≤ maxLen) (h1 : Rd w A1 (ys.flatMap encA)) (hw1 : ∀ n ∈ ys, n.wf) (hm1 : ys.length ≤ maxLen) (h2 : Rd w A2 (zs.map (.int .i64))) (hw2 : ∀ n ∈ zs, -9223372036854775808 ≤ n ∧ n ≤ 9223372036854775807) (hm2 : zs.length ≤ maxLen) :
    Calls Tryz.prog 5 #[.slice A0 xs.length c0, .slice A1 ys.length c1, .slice A2 zs.length c2] w fun e w' => e = .returned (.bool true) ∧ Below w.heap.size w w' := by
  clear hw0
  clear hw1
  clear hw2
  have hm0' : xs.length ≤ 9223372036854775807 := by simp only [maxLen] at hm0; omega
  clear hm0
  have hm1' : ys.length ≤ 9223372036854775807 := by simp only [maxLen] at hm1; omega
  clear hm1
  have hm2' : zs.length ≤ 9223372036854775807 := by simp only [maxLen] at hm2; omega
  clear hm2
  by_cases hl2 : (1048576 : Int) < (zs.length : Int)
  · go_enter Tryz.func5, Tryz.ntmps5
    go_wp2
    go_ret
    first | exact ⟨rfl, Below.refl _ _⟩ | exact ⟨rfl, (Below.refl _ _).alloc (Nat.le_refl _) _⟩
  replace hl2 : zs.length ≤ 1048576 := by omega
  by_cases hl0 : (xs.length : Int) ≤ 1048576
  rotate_left
  · go_enter Tryz.func5, Tryz.ntmps5
    go_wp2_with fail
    refine (szEntryS_any A0 xs.length c0 (1048576) _ (by omega) (by omega) (by omega)).mono ?_
    rintro e w' ⟨rfl, rfl⟩
    rw [if_neg (by omega)]
    go_wp2
    go_ret
    first | exact ⟨rfl, Below.refl _ _⟩ | exact ⟨rfl, (Below.refl _ _).alloc (Nat.le_refl _) _⟩
  by_cases hl1 : (ys.length : Int) ≤ 1048576 - (xs.length : Int)
  rotate_left
  · go_enter Tryz.func5, Tryz.ntmps5
    go_wp2_with fail
    refine (szEntryS_any A0 xs.length c0 (1048576) _ (by omega) (by omega) (by omega)).mono ?_
    rintro e w' ⟨rfl, rfl⟩
    rw [if_pos (by omega)]
    go_wp2_with fail
    refine (szActionS_any A1 ys.length c1 (1048576 - (xs.length : Int)) _ (by omega) (by omega) (by omega)).mono ?_
    rintro e w' ⟨rfl, rfl⟩
    rw [if_neg (by omega)]
    go_wp2
    go_ret
    first | exact ⟨rfl, Below.refl _ _⟩ | exact ⟨rfl, (Below.refl _ _).alloc (Nat.le_refl _) _⟩
  have hk0 : xs.length ≤ 1048576 := by omega
  have hk1 : ys.length ≤ 1048576 := by omega
  go_enter Tryz.func5, Tryz.ntmps5
  go_wp2_with fail
  refine (szEntryS_any A0 xs.length c0 (1048576) _ (by omega) (by omega) (by omega)).mono ?_
  rintro e w' ⟨rfl, rfl⟩
  rw [if_pos (by omega)]
  go_wp2_with fail
  refine (szActionS_any A1 ys.length c1 (1048576 - (xs.length : Int)) _ (by omega) (by omega) (by omega)).mono ?_
  rintro e w' ⟨rfl, rfl⟩
  rw [if_pos (by omega)]
  have hB := Below.refl w.heap.size w
  go_wp2_with fail
  refine (toEntryS_any A0 c0 xs w hk0 (h0.new hB)).mono ?_
  rintro e w1 ⟨B1, d1, rfl, o1, t1⟩
  have HL1 := hide (own_rng o1)
  have s1 := t1.size
  replace hB := bthen hB t1
  go_wp2_with fail
  refine (toActionS_any A1 c1 ys w1 hk1 (h1.new hB)).mono ?_
  rintro e w2 ⟨B2, d2, rfl, o2, t2⟩
  have HL2 := hide (own_rng o2)
  have s2 := t2.size
  replace hB := bthen hB t2
  replace o1 := own_new o1 t2
  go_wp2_with fail
  refine (toIntS_any A2 c2 zs w2 hl2 (h2.new hB)).mono ?_
  rintro e w3 ⟨B3, d3, rfl, o3, t3⟩
  have HL3 := hide (own_rng o3)
  have s3 := t3.size
  replace hB := bthen hB t3
  replace o1 := own_new o1 t3
  replace o2 := own_new o2 t3
  go_wp2_with fail
  refine (wastedTries_spec B1 d1 xs B2 d2 ys B3 d3 zs w3 (own_rd o1) (by omega) (own_rd o2) (by omega) (own_rd o3) (by omega)).mono ?_
  rintro e w4 ⟨rfl, t4⟩
  have s4 := t4.size
  replace hB := bthen hB t4
  replace o1 := own_new o1 t4
  replace o2 := own_new o2 t4
  replace o3 := own_new o3 t4
  go_wp2_with fail
  refine (toEntryS_any A0 c0 xs w4 hk0 (h0.new hB)).mono ?_
  rintro e w5 ⟨B5, d5, rfl, o5, t5⟩
  have HL5 := hide (own_rng o5)
  have s5 := t5.size
  replace hB := bthen hB t5
  replace o1 := own_new o1 t5
  replace o2 := own_new o2 t5
  replace o3 := own_new o3 t5
  go_wp2_with fail
  refine (toActionS_any A1 c1 ys w5 hk1 (h1.new hB)).mono ?_
  rintro e w6 ⟨B6, d6, rfl, o6, t6⟩
  have HL6 := hide (own_rng o6)
  have s6 := t6.size
  replace hB := bthen hB t6
  replace o1 := own_new o1 t6
  replace o2 := own_new o2 t6
  replace o3 := own_new o3 t6
  replace o5 := own_new o5 t6
  go_wp2_with fail
  refine (toIntS_any A2 c2 zs w6 hl2 (h2.new hB)).mono ?_
  rintro e w7 ⟨B7, d7, rfl, o7, t7⟩
  have HL7 := hide (own_rng o7)
  have s7 := t7.size
  replace hB := bthen hB t7
  replace o1 := own_new o1 t7
  replace o2 := own_new o2 t7
  replace o3 := own_new o3 t7
  replace o5 := own_new o5 t7
  replace o6 := own_new o6 t7
  go_wp2_with fail
  refine (wastedTries_impl B5 d5 xs B6 d6 ys B7 d7 zs w7 (own_rd o5) (by omega) (own_rd o6) (by omega) (own_rd o7) (by omega)).mono ?_
  rintro e w8 ⟨rfl, t8⟩
  have s8 := t8.size
  replace hB := bthen hB t8
  replace o1 := own_new o1 t8
  replace o2 := own_new o2 t8
  replace o3 := own_new o3 t8
  replace o5 := own_new o5 t8
  replace o6 := own_new o6 t8
  replace o7 := own_new o7 t8
  go_wp2_with fail
  refine (toEntryS_any A0 c0 xs w8 hk0 (h0.new hB)).mono ?_
  rintro e w9 ⟨B9, d9, rfl, o9, t9⟩
  have HL9 := hide (own_rng o9)
  have s9 := t9.size
  replace hB := bthen hB t9
  replace o1 := own_new o1 t9
  replace o2 := own_new o2 t9
  replace o3 := own_new o3 t9
  replace o5 := own_new o5 t9
  replace o6 := own_new o6 t9
  replace o7 := own_new o7 t9
  go_wp2_with fail
  refine (eqEntryS_any B5 B9 d5 d9 _ _ w9 (own_rd o5) (own_rd o9) (by omega)).mono ?_
  rintro e w10 ⟨rfl, t10⟩
  have s10 := t10.size
  replace hB := bthen hB t10
  replace o1 := own_new o1 t10
  replace o2 := own_new o2 t10
  replace o3 := own_new o3 t10
  replace o5 := own_new o5 t10
  replace o6 := own_new o6 t10
  replace o7 := own_new o7 t10
  replace o9 := own_new o9 t10
  go_wp2_with fail
  refine (toActionS_any A1 c1 ys w10 hk1 (h1.new hB)).mono ?_
  rintro e w11 ⟨B11, d11, rfl, o11, t11⟩
  have HL11 := hide (own_rng o11)
  have s11 := t11.size
  replace hB := bthen hB t11
  replace o1 := own_new o1 t11
  replace o2 := own_new o2 t11
  replace o3 := own_new o3 t11
  replace o5 := own_new o5 t11
  replace o6 := own_new o6 t11
  replace o7 := own_new o7 t11
  go_wp2_with fail
  refine (eqActionS_any B6 B11 d6 d11 _ _ w11 (own_rd o6) (own_rd o11) (by omega)).mono ?_
  rintro e w12 ⟨rfl, t12⟩
  have s12 := t12.size
  replace hB := bthen hB t12
  replace o1 := own_new o1 t12
  replace o2 := own_new o2 t12
  replace o3 := own_new o3 t12
  replace o5 := own_new o5 t12
  replace o6 := own_new o6 t12
  replace o7 := own_new o7 t12
  replace o11 := own_new o11 t12
  go_wp2_with fail
  refine (toIntS_any A2 c2 zs w12 hl2 (h2.new hB)).mono ?_
  rintro e w13 ⟨B13, d13, rfl, o13, t13⟩
  have HL13 := hide (own_rng o13)
  have s13 := t13.size
  replace hB := bthen hB t13
  replace o1 := own_new o1 t13
  replace o2 := own_new o2 t13
  replace o3 := own_new o3 t13
  replace o5 := own_new o5 t13
  replace o6 := own_new o6 t13
  replace o7 := own_new o7 t13
  go_wp2_with fail
  refine (eqIntS_any B7 B13 d7 d13 _ _ w13 (own_rd o7) (own_rd o13) (by omega)).mono ?_
  rintro e w' ⟨rfl, m, rfl⟩
  have s14 : w13.heap.size ≤ (w13.drewN m).heap.size := Nat.le_refl _
  replace hB := below_drewN hB m
  replace o1 := own_drewN o1 m
  replace o2 := own_drewN o2 m
  replace o3 := own_drewN o3 m
  replace o5 := own_drewN o5 m
  replace o6 := own_drewN o6 m
  replace o7 := own_drewN o7 m
  replace o13 := own_drewN o13 m
  generalize w13.drewN m = w14 at *
  go_wp2
  go_ret
  exact ⟨rfl, hB⟩
end Go.Proofs.YtihlhejencninaaGreat
