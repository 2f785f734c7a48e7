/- Conflicts of actions, of the program (printed by gen_in.py from xconf.in). -/
import Derived.Test.YtihlhejencninaaGreatGval
import Derived.Test.YtihlhejencninaaGreatGrun
import Derived.Test.YtihlhejencninaaGreatGact
import Derived.Test.YtihlhejencninaaGreatGloc
import Derived.Deep.Cut
namespace Go.Proofs.YtihlhejencninaaGreat
open Go.RowKit
set_option linter.unusedVariables false
set_option linter.unusedSimpArgs false

def maskF (h : Nat) (xs : List Int) : Nat := xs.foldl (fun h k => h ||| 2 ^ k.toNat) h
def maskN (xs : List Int) : Nat := maskF 0 xs
theorem maskF_bit (h : Nat) (xs : List Int) (k : Nat) : (maskF h xs).testBit k = (h.testBit k || xs.any fun x => x.toNat == k) := by
  induction xs generalizing h with
  | nil => simp [maskF]
  | cons e es ih =>
    show (maskF (h ||| 2 ^ e.toNat) es).testBit k = _
    rw [ih, Nat.testBit_or, Nat.testBit_two_pow]
    simp only [List.any_cons, Bool.or_assoc]
    congr 2
theorem maskF_lt (h : Nat) (xs : List Int) (hh : h < 4294967296) (hk : ∀ e ∈ xs, 0 ≤ e ∧ e ≤ 31) : maskF h xs < 4294967296 := by
  induction xs generalizing h with
  | nil => exact hh
  | cons e es ih =>
    refine ih _ ?_ (fun x hx => hk x (by simp [hx]))
    have := hk e (by simp)
    have h1 : 2 ^ e.toNat ≤ 2 ^ 31 := Nat.pow_le_pow_right (by omega) (by omega)
    have h2 : (2 : Nat) ^ 31 < 2 ^ 32 := by decide
    exact Nat.or_lt_two_pow (n := 32) (by simpa using hh) (Nat.lt_of_le_of_lt h1 h2)
theorem maskN_snoc (xs : List Int) (q : Nat) : maskN (xs ++ [(q : Int)]) = maskN xs ||| 2 ^ q := by simp [maskN, maskF]
theorem maskN_bit {xs : List Int} {x : Int} (hx : x ∈ xs) : (maskN xs).testBit x.toNat = true := by
  rw [maskN, maskF_bit]
  simp only [Bool.or_eq_true, List.any_eq_true, beq_iff_eq]
  exact .inr ⟨x, hx, rfl⟩
def keysOk (xs : List Int) : Prop := ∀ e ∈ xs, 0 ≤ e ∧ e ≤ 31
theorem maskN_lt {xs : List Int} (hk : keysOk xs) : maskN xs < 4294967296 := maskF_lt 0 xs (by omega) hk
theorem keys_r {a : Act} (h : actB a = true) : keysOk (actReads a) := fun e he => by
  obtain ⟨h1, h2, -, -⟩ := actB_bd h
  unfold actReads at he
  split at he
  · cases he
  · split at he
    · simp at he; omega
    · simp at he; omega
theorem keys_w {a : Act} (h : actB a = true) : keysOk (actWrites a) := fun e he => by
  obtain ⟨h1, h2, -, -⟩ := actB_bd h
  unfold actWrites at he
  split at he
  · simp at he; omega
  · split at he
    · simp at he; omega
    · simp at he; omega
def confN (a b : Act) : Nat := (maskN (actWrites a) &&& (maskN (actReads b) ||| maskN (actWrites b))) ||| (maskN (actWrites b) &&& maskN (actReads a))
/-- actions without a conflict -/
theorem confN_no {a b : Act} (h : confN a b = 0) : ∀ x ∈ actReads b, x ∉ actWrites a := fun x hx hw => by
  have h1 := maskN_bit hx
  have h2 := maskN_bit hw
  have h3 : (confN a b).testBit x.toNat = true := by
    unfold confN
    rw [Nat.testBit_or, Nat.testBit_and, Nat.testBit_or, h1, h2]
    simp
  rw [h] at h3
  simp at h3
theorem bneN (n : Nat) : (((n : Nat) : Int) != 0) = (n != 0) := by
  rw [Bool.eq_iff_iff]
  simp only [bne_iff_ne, ne_eq]
  omega
def rdIs (xs : List Int) (v : Value) (w : World) : Prop := ∃ A c, v = .slice A xs.length c ∧ Rd w A (xs.map (.int .i64))
theorem sb_rdIs (xs : List Int) : StB (rdIs xs) := fun _ _ _ hb ⟨A, c, h1, h2⟩ => ⟨A, c, h1, h2.new hb⟩
set_option maxHeartbeats 2000000 in
theorem mask_any (A : Option Addr) (c : Nat) (xs : List Int) (w : World) (h : Rd w A (xs.map (.int .i64))) (hk : keysOk xs) (hl : xs.length ≤ 1000) :
    Calls Tryz.prog 112 #[.slice A xs.length c] w fun e w' => e = .returned (.int .i64 (maskN xs : Nat)) ∧ Below w.heap.size w w' := by
  have HK := hide hk
  clear hk
  go_enter Tryz.func112, Tryz.ntmps112
  go_wp2
  go_loopw [3, 5, 8] (fun o _ i wr => ∃ (k m : Nat), k ≤ xs.length ∧ i = .int .i64 k ∧ o = .int .i64 m ∧ Hid (m = maskN (xs.take k)) ∧ wr = w) (fun _ _ i _ => xs.length - (intOf i).toNat)
  case atStart => exact ⟨0, 0, Nat.zero_le _, rfl, rfl, hide rfl, rfl⟩
  case round =>
    obtain ⟨k, m, hk, rfl, rfl, HM, rfl⟩ := hrel
    by_cases hlt : k < xs.length
    · have i1 : (k : Int) < (xs.length : Int) := by omega
      obtain ⟨b, off, hA, hbb, m0⟩ := h.int hlt
      obtain ⟨q, hq⟩ : ∃ q : Nat, xs[k] = (q : Int) := Int.eq_ofNat_of_zero_le (unhide HK xs[k] (List.getElem_mem hlt)).1
      have hq1 : q < 32 := by have := (unhide HK xs[k] (List.getElem_mem hlt)).2; omega
      have HS := hide (show maskN (xs.take (k + 1)) = maskN (xs.take k) ||| 2 ^ q by rw [List.take_succ_eq_append_getElem hlt, hq, maskN_snoc])
      have hml : m < 4294967296 := by
        rw [unhide HM]
        exact maskN_lt fun e he => unhide HK e (List.mem_of_mem_take he)
      rw [hq] at m0
      clear hq
      have HA := hide hA
      clear hA
      rw [unhide HA]
      have i2 : (q : Int) < 64 := by omega
      go_wp2
      go_roundw
      case rel => exact ⟨k + 1, m ||| 2 ^ q, by omega, by go_num, by rw [or_bit m q hml hq1], hide (by rw [unhide HS, ← unhide HM]), by first | exact trivial | rfl⟩
      case measure => simp [intOf]; omega
    · obtain rfl : k = xs.length := by omega
      rw [List.take_length] at HM
      go_wp2
      go_ret
      exact ⟨by rw [← unhide HM]; rfl, Below.refl _ _⟩
set_option maxRecDepth 100000 in
set_option maxHeartbeats 4000000 in
theorem conflicts_any (a b : Act) (w : World) (ha : actB a = true) (hb : actB b = true) :
    Calls Tryz.prog 64 #[.agg #[.int .i64 a.kind, .int .i64 a.src, .int .i64 a.dst, .int .i64 a.amt], .agg #[.int .i64 b.kind, .int .i64 b.src, .int .i64 b.dst, .int .i64 b.amt]] w fun e w' => e = .returned (.bool (confN a b != 0)) ∧ Below w.heap.size w w' := by
  obtain ⟨W, hW⟩ : ∃ W : World, W = (w.alloc (.cells #[.int .i64 a.kind, .int .i64 a.src, .int .i64 a.dst, .int .i64 a.amt] 56)).alloc (.cells #[.int .i64 b.kind, .int .i64 b.src, .int .i64 b.dst, .int .i64 b.amt] 56) := ⟨_, rfl⟩
  have hb0 : Below w.heap.size w W := by rw [hW]; exact ((Below.refl _ _).alloc (Nat.le_refl _) _).alloc (by simp) _
  have K0 : Blk W w.heap.size 56 #[.int .i64 a.kind, .int .i64 a.src, .int .i64 a.dst, .int .i64 a.amt] := by rw [hW]; exact (Blk.new _ _ _).alloc _
  have K1 : Blk W (w.heap.size + 1) 56 #[.int .i64 b.kind, .int .i64 b.src, .int .i64 b.dst, .int .i64 b.amt] := by
    rw [hW]
    have := Blk.new (w.alloc (.cells #[.int .i64 a.kind, .int .i64 a.src, .int .i64 a.dst, .int .i64 a.amt] 56)) 56 #[.int .i64 b.kind, .int .i64 b.src, .int .i64 b.dst, .int .i64 b.amt]
    simpa using this
  have HXA := hide (fun (w' : World) (h : Below W.heap.size W w') => (⟨(K0.new_ h).cell 0, (K0.new_ h).cell 1, (K0.new_ h).cell 2, (K0.new_ h).cell 3⟩ : w'.cell? ⟨w.heap.size, 0, none⟩ = some (.int .i64 a.kind) ∧ w'.cell? ⟨w.heap.size, 1, none⟩ = some (.int .i64 a.src) ∧ w'.cell? ⟨w.heap.size, 2, none⟩ = some (.int .i64 a.dst) ∧ w'.cell? ⟨w.heap.size, 3, none⟩ = some (.int .i64 a.amt)))
  have HXB := hide (fun (w' : World) (h : Below W.heap.size W w') => (⟨(K1.new_ h).cell 0, (K1.new_ h).cell 1, (K1.new_ h).cell 2, (K1.new_ h).cell 3⟩ : w'.cell? ⟨w.heap.size + 1, 0, none⟩ = some (.int .i64 b.kind) ∧ w'.cell? ⟨w.heap.size + 1, 1, none⟩ = some (.int .i64 b.src) ∧ w'.cell? ⟨w.heap.size + 1, 2, none⟩ = some (.int .i64 b.dst) ∧ w'.cell? ⟨w.heap.size + 1, 3, none⟩ = some (.int .i64 b.amt)))
  have HRA := hide (keys_r ha)
  have HRB := hide (keys_r hb)
  have HWA := hide (keys_w ha)
  have HWB := hide (keys_w hb)
  have hr1 := actReads_len a
  have hr2 := actReads_len b
  have hw1 := actWrites_len a
  have hw2 := actWrites_len b
  clear K0 K1 ha hb
  go_enter Tryz.func64, Tryz.ntmps64
  go_upto_region 1 with fail
  rw [← hW]
  clear hW
  have hF : StBL [bV (.agg #[.int .i64 a.kind, .int .i64 a.src, .int .i64 a.dst, .int .i64 a.amt]), rdIs (actReads a), bV (.int .i64 (maskN (actReads a) : Nat)), bV (.agg #[.int .i64 b.kind, .int .i64 b.src, .int .i64 b.dst, .int .i64 b.amt]), rdIs (actReads b), bV (.int .i64 (maskN (actReads b) : Nat)), bV (.agg #[.int .i64 a.kind, .int .i64 a.src, .int .i64 a.dst, .int .i64 a.amt]), rdIs (actWrites a), bV (.int .i64 (maskN (actWrites a) : Nat)), bV (.agg #[.int .i64 b.kind, .int .i64 b.src, .int .i64 b.dst, .int .i64 b.amt]), rdIs (actWrites b), bV (.int .i64 (maskN (actWrites b) : Nat))] :=
    ⟨sb_V _, sb_rdIs _, sb_V _, sb_V _, sb_rdIs _, sb_V _, sb_V _, sb_rdIs _, sb_V _, sb_V _, sb_rdIs _, sb_V _, trivial⟩
  go_upto_region 1 with fail
  refine wp_region_loc (by kernel_rfl) [(0, some 9), (1, some 10), (2, some 11), (3, some 12), (4, some 13), (5, some 14), (6, some 15), (7, some 16), (8, some 17), (9, some 18), (10, some 19), (11, some 20)] [[], [(0, some 9)], [(1, some 10)], [], [(3, some 12)], [(4, some 13)], [], [(6, some 15)], [(7, some 16)], [], [(9, some 18)], [(10, some 19)]] (by kernel_rfl)
    (locB _) (fun a b => Below a.heap.size a b) noR [0, 0, 0, 0, 0, 0, 0, 0, 0, 0, 0, 0] 0 (by kernel_rfl) (fun _ => Below.refl _ _) (fun _ _ _ => bthen) (locB_st hF _) trivial ?_ ?_
  · refine steps_cons ?s0 ( steps_cons ?s1 ( steps_cons ?s2 ( steps_cons ?s3 ( steps_cons ?s4 ( steps_cons ?s5 ( steps_cons ?s6 ( steps_cons ?s7 ( steps_cons ?s8 ( steps_cons ?s9 ( steps_cons ?s10 ( steps_cons ?s11 steps_nil)))))))))))
    case s0 =>
      intro w' m' hE hR
      intro Q hQ
      obtain ⟨y0, y1, y2, y3⟩ := unhide HXA w' (below_undrew hE)
      go_wp2
      exact hQ _ _ _ rfl rfl (Below.refl _ _) trivial
    case s1 =>
      intro w' m' hE hR
      rintro _ rfl Q hQ
      go_wp2_with fail
      refine (reads_any a w').mono ?_
      rintro e w2 ⟨A', c', rfl, o2, b2⟩
      go_wp2
      exact hQ _ _ _ rfl ⟨A', c', rfl, own_rd o2⟩ b2 trivial
    case s2 =>
      intro w' m' hE hR
      rintro _ ⟨A', c', rfl, r2⟩ Q hQ
      go_wp2_with fail
      refine (mask_any A' c' (actReads a) w' r2 (unhide HRA) (by omega)).mono ?_
      rintro e w2 ⟨rfl, b2⟩
      go_wp2
      exact hQ _ _ _ rfl rfl b2 trivial
    case s3 =>
      intro w' m' hE hR
      intro Q hQ
      obtain ⟨y0, y1, y2, y3⟩ := unhide HXB w' (below_undrew hE)
      go_wp2
      exact hQ _ _ _ rfl rfl (Below.refl _ _) trivial
    case s4 =>
      intro w' m' hE hR
      rintro _ rfl Q hQ
      go_wp2_with fail
      refine (reads_any b w').mono ?_
      rintro e w2 ⟨A', c', rfl, o2, b2⟩
      go_wp2
      exact hQ _ _ _ rfl ⟨A', c', rfl, own_rd o2⟩ b2 trivial
    case s5 =>
      intro w' m' hE hR
      rintro _ ⟨A', c', rfl, r2⟩ Q hQ
      go_wp2_with fail
      refine (mask_any A' c' (actReads b) w' r2 (unhide HRB) (by omega)).mono ?_
      rintro e w2 ⟨rfl, b2⟩
      go_wp2
      exact hQ _ _ _ rfl rfl b2 trivial
    case s6 =>
      intro w' m' hE hR
      intro Q hQ
      obtain ⟨y0, y1, y2, y3⟩ := unhide HXA w' (below_undrew hE)
      go_wp2
      exact hQ _ _ _ rfl rfl (Below.refl _ _) trivial
    case s7 =>
      intro w' m' hE hR
      rintro _ rfl Q hQ
      go_wp2_with fail
      refine (writes_any a w').mono ?_
      rintro e w2 ⟨A', c', rfl, o2, b2⟩
      go_wp2
      exact hQ _ _ _ rfl ⟨A', c', rfl, own_rd o2⟩ b2 trivial
    case s8 =>
      intro w' m' hE hR
      rintro _ ⟨A', c', rfl, r2⟩ Q hQ
      go_wp2_with fail
      refine (mask_any A' c' (actWrites a) w' r2 (unhide HWA) (by omega)).mono ?_
      rintro e w2 ⟨rfl, b2⟩
      go_wp2
      exact hQ _ _ _ rfl rfl b2 trivial
    case s9 =>
      intro w' m' hE hR
      intro Q hQ
      obtain ⟨y0, y1, y2, y3⟩ := unhide HXB w' (below_undrew hE)
      go_wp2
      exact hQ _ _ _ rfl rfl (Below.refl _ _) trivial
    case s10 =>
      intro w' m' hE hR
      rintro _ rfl Q hQ
      go_wp2_with fail
      refine (writes_any b w').mono ?_
      rintro e w2 ⟨A', c', rfl, o2, b2⟩
      go_wp2
      exact hQ _ _ _ rfl ⟨A', c', rfl, own_rd o2⟩ b2 trivial
    case s11 =>
      intro w' m' hE hR
      rintro _ ⟨A', c', rfl, r2⟩ Q hQ
      go_wp2_with fail
      refine (mask_any A' c' (actWrites b) w' r2 (unhide HWB) (by omega)).mono ?_
      rintro e w2 ⟨rfl, b2⟩
      go_wp2
      exact hQ _ _ _ rfl rfl b2 trivial
  intro w9 hE _
  rintro v0 - v1 - v2 hv2 v3 - v4 - v5 hv5 v6 - v7 - v8 hv8 v9 - v10 - v11 hv11
  obtain rfl : v2 = _ := hv2
  obtain rfl : v5 = _ := hv5
  obtain rfl : v8 = _ := hv8
  obtain rfl : v11 = _ := hv11
  change wpList _ _ _ [_, _, _, _] _ _
  simp only [Act.put, List.setIfInBounds_toArray, List.set_cons_succ, List.set_cons_zero]
  have b9 := below_undrew hE
  clear hE hF
  have HC := hide (show confN a b = (maskN (actWrites a) &&& (maskN (actReads b) ||| maskN (actWrites b))) ||| (maskN (actWrites b) &&& maskN (actReads a)) from rfl)
  have l1 := maskN_lt (unhide HRA)
  have l2 := maskN_lt (unhide HRB)
  have l3 := maskN_lt (unhide HWA)
  have l4 := maskN_lt (unhide HWB)
  generalize maskN (actReads a) = ra at *
  generalize maskN (actReads b) = rb at *
  generalize maskN (actWrites a) = wa at *
  generalize maskN (actWrites b) = wb at *
  have e1 : bits .or .i64 (rb : Int) (wb : Int) = ((rb ||| wb : Nat) : Int) := i64_or_nat _ _ (by omega) (by omega)
  have l5 : rb ||| wb < 4294967296 := Nat.or_lt_two_pow (n := 32) (by simpa using l2) (by simpa using l4)
  have e2 : bits .and .i64 (wa : Int) ((rb ||| wb : Nat) : Int) = ((wa &&& (rb ||| wb) : Nat) : Int) := i64_and_nat _ _ (by omega) (by omega)
  have e3 : bits .and .i64 (wb : Int) (ra : Int) = ((wb &&& ra : Nat) : Int) := i64_and_nat _ _ (by omega) (by omega)
  have l6 : wa &&& (rb ||| wb) ≤ wa := Nat.and_le_left
  have l7 : wb &&& ra ≤ wb := Nat.and_le_left
  have e4 : bits .or .i64 ((wa &&& (rb ||| wb) : Nat) : Int) ((wb &&& ra : Nat) : Int) = ((wa &&& (rb ||| wb) ||| (wb &&& ra) : Nat) : Int) := i64_or_nat _ _ (by omega) (by omega)
  go_wp2
  go_ret
  refine ⟨?_, bthen hb0 b9⟩
  rw [unhide HC]
  exact congrArg (fun z => Ending.returned (.bool z)) (bneN _)
set_option maxHeartbeats 2000000 in
theorem conflict_any (a b : Act) (w : World) (ha : actB a = true) (hb : actB b = true) :
    Calls Tryz.prog 29 #[.agg #[.int .i64 a.kind, .int .i64 a.src, .int .i64 a.dst, .int .i64 a.amt], .agg #[.int .i64 b.kind, .int .i64 b.src, .int .i64 b.dst, .int .i64 b.amt]] w fun e w' => e = .returned (.bool (confN a b != 0)) ∧ Below w.heap.size w w' := by
  obtain ⟨W, hW⟩ : ∃ W : World, W = (w.alloc (.cells #[.int .i64 a.kind, .int .i64 a.src, .int .i64 a.dst, .int .i64 a.amt] 56)).alloc (.cells #[.int .i64 b.kind, .int .i64 b.src, .int .i64 b.dst, .int .i64 b.amt] 56) := ⟨_, rfl⟩
  have hb0 : Below w.heap.size w W := by rw [hW]; exact ((Below.refl _ _).alloc (Nat.le_refl _) _).alloc (by simp) _
  have K0 : Blk W w.heap.size 56 #[.int .i64 a.kind, .int .i64 a.src, .int .i64 a.dst, .int .i64 a.amt] := by rw [hW]; exact (Blk.new _ _ _).alloc _
  have K1 : Blk W (w.heap.size + 1) 56 #[.int .i64 b.kind, .int .i64 b.src, .int .i64 b.dst, .int .i64 b.amt] := by
    rw [hW]
    have := Blk.new (w.alloc (.cells #[.int .i64 a.kind, .int .i64 a.src, .int .i64 a.dst, .int .i64 a.amt] 56)) 56 #[.int .i64 b.kind, .int .i64 b.src, .int .i64 b.dst, .int .i64 b.amt]
    simpa using this
  have HXA := hide (fun (w' : World) (h : Below W.heap.size W w') => (⟨(K0.new_ h).cell 0, (K0.new_ h).cell 1, (K0.new_ h).cell 2, (K0.new_ h).cell 3⟩ : w'.cell? ⟨w.heap.size, 0, none⟩ = some (.int .i64 a.kind) ∧ w'.cell? ⟨w.heap.size, 1, none⟩ = some (.int .i64 a.src) ∧ w'.cell? ⟨w.heap.size, 2, none⟩ = some (.int .i64 a.dst) ∧ w'.cell? ⟨w.heap.size, 3, none⟩ = some (.int .i64 a.amt)))
  have HXB := hide (fun (w' : World) (h : Below W.heap.size W w') => (⟨(K1.new_ h).cell 0, (K1.new_ h).cell 1, (K1.new_ h).cell 2, (K1.new_ h).cell 3⟩ : w'.cell? ⟨w.heap.size + 1, 0, none⟩ = some (.int .i64 b.kind) ∧ w'.cell? ⟨w.heap.size + 1, 1, none⟩ = some (.int .i64 b.src) ∧ w'.cell? ⟨w.heap.size + 1, 2, none⟩ = some (.int .i64 b.dst) ∧ w'.cell? ⟨w.heap.size + 1, 3, none⟩ = some (.int .i64 b.amt)))
  have HC := hide (fun w' => conflicts_any a b w' ha hb)
  have HA := hide ha
  have HB := hide hb
  obtain ⟨x0, x1, x2, x3⟩ := unhide HXA W (Below.refl _ _)
  clear K0 K1 ha hb
  go_enter Tryz.func29, Tryz.ntmps29
  go_upto_region 1 with fail
  rw [← hW]
  clear hW
  go_wp2_with fail
  refine (actionValid_impl a W).mono ?_
  rintro e w1 ⟨rfl, b1⟩
  rw [unhide HA]
  obtain ⟨y0, y1, y2, y3⟩ := unhide HXB w1 b1
  clear x0 x1 x2 x3
  go_wp2_with fail
  refine (actionValid_impl b w1).mono ?_
  rintro e w2 ⟨rfl, b2⟩
  rw [unhide HB]
  have b12 := bthen b1 b2
  clear y0 y1 y2 y3
  obtain ⟨x0, x1, x2, x3⟩ := unhide HXA w2 b12
  obtain ⟨y0, y1, y2, y3⟩ := unhide HXB w2 b12
  go_wp2_with fail
  refine (unhide HC w2).mono ?_
  rintro e w3 ⟨rfl, b3⟩
  go_wp2
  go_ret
  exact ⟨rfl, bthen hb0 (bthen b12 b3)⟩
end Go.Proofs.YtihlhejencninaaGreat
