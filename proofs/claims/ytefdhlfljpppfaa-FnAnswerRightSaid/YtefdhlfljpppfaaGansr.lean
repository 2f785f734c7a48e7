/- Proofs of values: two values have two roots; the proof of a store leads to its root. The plain law: no program is in sight here. The law FnAnswerRight: the walk (printed by gen_in.py from xlawfansr.in). -/
import Derived.Test.YtefdhlfljpppfaaProof
import Derived.Test.YtefdhlfljpppfaaRootS
import Derived.Test.YtefdhlfljpppfaaDrawTr
import Derived.Test.YtefdhlfljpppfaaSums
namespace Go.Proofs.Ytefdhlfljpppfaa
open Go.RowKit
set_option linter.unusedVariables false
set_option linter.unusedSimpArgs false

theorem step_inj {a b x : Int} (ha : 0 ≤ a ∧ a ≤ 1000002) (hb : 0 ≤ b ∧ b ≤ 1000002) (h : sumStep a x = sumStep b x) : a = b := by
  unfold sumStep at h
  omega
theorem step_inj2 {a x y : Int} (hx : 0 ≤ x ∧ x ≤ 1000002) (hy : 0 ≤ y ∧ y ≤ 1000002) (h : sumStep a x = sumStep a y) : x = y := by
  unfold sumStep at h
  omega
theorem step_bd (a x : Int) : 0 ≤ sumStep a x ∧ sumStep a x ≤ 1000002 := by
  unfold sumStep
  omega
theorem node_two (a b : Int) (ha : 0 ≤ a ∧ a ≤ 1000002) (hb : 0 ≤ b ∧ b ≤ 1000002) : nodeS a b = sumStep (sumStep (17 + 2) a) b := by
  unfold nodeS
  rw [sumF_yes rfl (summed_two a b ha hb)]
  rfl
theorem node_inj1 {a b o : Int} (ha : 0 ≤ a ∧ a ≤ 1000002) (hb : 0 ≤ b ∧ b ≤ 1000002) (ho : 0 ≤ o ∧ o ≤ 1000002) (h : nodeS a o = nodeS b o) : a = b := by
  rw [node_two a o ha ho, node_two b o hb ho] at h
  exact step_inj2 ha hb (step_inj (step_bd _ _) (step_bd _ _) h)
theorem node_inj2 {a b o : Int} (ha : 0 ≤ a ∧ a ≤ 1000002) (hb : 0 ≤ b ∧ b ≤ 1000002) (ho : 0 ≤ o ∧ o ≤ 1000002) (h : nodeS o a = nodeS o b) : a = b := by
  rw [node_two o a ho ha, node_two o b ho hb] at h
  exact step_inj2 ha hb h
theorem stepUp_bd {key : Int} {lv : Nat} {s o : Int} (hs : 0 ≤ s ∧ s ≤ 1000002) (ho : 0 ≤ o ∧ o ≤ 1000002) : 0 ≤ stepUp key lv s o ∧ stepUp key lv s o ≤ 1000002 := by
  unfold stepUp
  split
  · exact node_bd _ _ ho hs
  · exact node_bd _ _ hs ho
theorem stepUp_inj {key : Int} {lv : Nat} {a b o : Int} (ha : 0 ≤ a ∧ a ≤ 1000002) (hb : 0 ≤ b ∧ b ≤ 1000002) (ho : 0 ≤ o ∧ o ≤ 1000002) (h : stepUp key lv a o = stepUp key lv b o) : a = b := by
  unfold stepUp at h
  split at h
  · exact node_inj2 ha hb ho h
  · exact node_inj1 ha hb ho h
theorem go_inj {key : Int} : ∀ (os : List Int) (lv : Nat) (a b : Int), 0 ≤ a ∧ a ≤ 1000002 → 0 ≤ b ∧ b ≤ 1000002 → (∀ o ∈ os, 0 ≤ o ∧ o ≤ 1000002) → proofGo key lv a os = proofGo key lv b os → a = b
  | [], _, a, b, _, _, _, h => h
  | o :: os, lv, a, b, ha, hb, ho, h => by
    have h1 := ho o (by simp)
    exact stepUp_inj ha hb h1 (go_inj os (lv + 1) _ _ (stepUp_bd ha h1) (stepUp_bd hb h1) (fun x hx => ho x (by simp [hx])) h)
theorem leafS_two {k v : Int} (hk : inB k 0 31 = true) (hv : inB v 0 1000000 = true) : leafS k v = sumStep (sumStep (17 + 1) k) v := by
  have h1 := inB_true.1 hk
  have h2 := inB_true.1 hv
  unfold leafS
  rw [if_pos ⟨hk, hv⟩, sumF_yes rfl]
  · rfl
  · have h3 : inB k 0 2000000 = true := inB_true.2 (by omega)
    have h4 : inB v 0 2000000 = true := inB_true.2 (by omega)
    simp [summed, h3, h4]
theorem leafS_inv {k v : Int} (h : ¬ leafS k v < 0) : inB k 0 31 = true ∧ inB v 0 1000000 = true := by
  unfold leafS at h
  split at h
  · assumption
  · omega
theorem leafS_inj {k v u : Int} (h1 : ¬ leafS k v < 0) (h2 : ¬ leafS k u < 0) (h : leafS k v = leafS k u) : v = u := by
  obtain ⟨a1, a2⟩ := leafS_inv h1
  obtain ⟨b1, b2⟩ := leafS_inv h2
  rw [leafS_two a1 a2, leafS_two b1 b2] at h
  have := inB_true.1 a2
  have := inB_true.1 b2
  exact step_inj2 (by omega) (by omega) h
/-- one root, one value -/
theorem proof_one {root key v u : Int} {ps : List Int} (h1 : proofR root key v ps = true) (h2 : proofR root key u ps = true) : v = u := by
  simp only [proofR, Bool.and_eq_true, decide_eq_true_eq, beq_iff_eq] at h1 h2
  obtain ⟨hr, h1⟩ := h1
  obtain ⟨-, h2⟩ := h2
  have key1 : ∀ z, proofF key z ps = root → ¬ leafS key z < 0 ∧ sumsB ps = true ∧ proofGo key 0 (leafS key z) ps = root := by
    intro z hz
    unfold proofF at hz
    split at hz
    · omega
    · rename_i hc
      refine ⟨fun h => hc (.inl h), ?_, hz⟩
      cases hs : sumsB ps
      · exact absurd (.inr (.inr hs)) hc
      · rfl
  obtain ⟨a1, a2, a3⟩ := key1 v h1
  obtain ⟨b1, _, b3⟩ := key1 u h2
  have la := leafS_bd key v
  have lb := leafS_bd key u
  refine leafS_inj a1 b1 (go_inj ps 0 _ _ (by omega) (by omega) (fun o ho => ?_) (a3.trans b3.symm))
  obtain ⟨k, hk, rfl⟩ := List.getElem_of_mem ho
  exact sums_get a2 hk
theorem answer_one {b : Bk} {a : Ans} {u : Int} (h1 : answerB b a = true) (h2 : answerB b ⟨a.key, u, a.proof⟩ = true) : a.value = u := by
  simp only [answerB, Bool.and_eq_true] at h1 h2
  exact proof_one h1.2 h2.2
theorem answer_val {b : Bk} {a : Ans} (h : answerB b a = true) : 0 ≤ a.value ∧ a.value ≤ 1000000 := by
  simp only [answerB, Bool.and_eq_true, proofR, decide_eq_true_eq, beq_iff_eq] at h
  obtain ⟨-, hr, h⟩ := h
  unfold proofF at h
  split at h
  · omega
  · rename_i hc
    exact inB_true.1 (leafS_inv (fun h => hc (.inl h))).2
theorem xor_ne (n : Nat) : n ^^^ 1 ≠ n := by
  intro h
  have := congrArg (·.testBit 0) h
  simp at this; omega
theorem go_snoc (key : Int) : ∀ (xs : List Int) (lv : Nat) (s o : Int), proofGo key lv s (xs ++ [o]) = stepUp key (lv + xs.length) (proofGo key lv s xs) o
  | [], lv, s, o => rfl
  | x :: xs, lv, s, o => by
    show proofGo key (lv + 1) _ (xs ++ [o]) = _
    rw [go_snoc key xs (lv + 1), show lv + 1 + xs.length = lv + (x :: xs).length by simp; omega]
    rfl
theorem leafN_get (v : List Int) : ∀ (n k : Nat), k < n → (leafN v n).getD k 0 = leafS (k : Int) (v.getD k 0)
  | 0, k, h => by omega
  | n + 1, k, h => by
    rw [leafN]
    by_cases hk : k < n
    · rw [List.getD_eq_getElem?_getD, List.getElem?_append_left (by rw [leafN_len]; exact hk), ← List.getD_eq_getElem?_getD, leafN_get v n k hk]
    · obtain rfl : k = n := by omega
      rw [List.getD_eq_getElem?_getD, List.getElem?_append_right (by rw [leafN_len]; omega), leafN_len]
      simp
theorem upN_get (xs : List Int) : ∀ (n j : Nat), j < n → (upN xs n).getD j 0 = nodeS (xs.getD (j + j) 0) (xs.getD (j + j + 1) 0)
  | 0, j, h => by omega
  | n + 1, j, h => by
    rw [upN]
    by_cases hj : j < n
    · rw [List.getD_eq_getElem?_getD, List.getElem?_append_left (by rw [upN_len]; exact hj), ← List.getD_eq_getElem?_getD, upN_get xs n j hj]
    · obtain rfl : j = n := by omega
      rw [List.getD_eq_getElem?_getD, List.getElem?_append_right (by rw [upN_len]; omega), upN_len]
      simp [nodeS]
theorem xor_even {m : Nat} (h : m % 2 = 0) : m ^^^ 1 = m + 1 := by
  have h1 : (m ^^^ 1) / 2 = m / 2 := by rw [Nat.xor_div_two]; simp
  have h2 : (m ^^^ 1) % 2 ^ 1 = (m % 2 ^ 1) ^^^ (1 % 2 ^ 1) := Nat.xor_mod_two_pow
  rw [Nat.pow_one, h] at h2
  have h3 : (0 ^^^ 1 % 2) = 1 := rfl
  omega
theorem xor_odd {m : Nat} (h : m % 2 = 1) : m ^^^ 1 = m - 1 := by
  have h1 : (m ^^^ 1) / 2 = m / 2 := by rw [Nat.xor_div_two]; simp
  have h2 : (m ^^^ 1) % 2 ^ 1 = (m % 2 ^ 1) ^^^ (1 % 2 ^ 1) := Nat.xor_mod_two_pow
  rw [Nat.pow_one, h] at h2
  have h3 : (1 ^^^ 1 % 2) = 0 := rfl
  omega
theorem go_prN (v : List Int) (q : Nat) (hq : q < 32) : ∀ n, n ≤ 5 → proofGo (q : Int) 0 (leafS (q : Int) (v.getD q 0)) (prN v q n) = (lvN v n).getD (q / 2 ^ n) 0
  | 0, _ => by
    show leafS _ _ = (leafN v 32).getD (q / 2 ^ 0) 0
    rw [leafN_get v 32 _ (by simpa using hq)]
    simp
  | n + 1, hn => by
    rw [prN, go_snoc, go_prN v q hq n (by omega), prN_len, Nat.zero_add, lvN_up v n (by omega)]
    have hj : q / 2 ^ (n + 1) < 2 ^ (5 - (n + 1)) := by
      rw [Nat.div_lt_iff_lt_mul (Nat.two_pow_pos _), ← Nat.pow_add, show 5 - (n + 1) + (n + 1) = 5 by omega]
      exact hq
    rw [upN_get _ _ _ hj]
    have hm : q / 2 ^ (n + 1) = (q / 2 ^ n) / 2 := by rw [Nat.pow_succ, Nat.div_div_eq_div_mul]
    rw [hm]
    unfold stepUp
    rw [Int.toNat_natCast, Nat.testBit_eq_decide_div_mod_eq]
    generalize q / 2 ^ n = m
    by_cases h : m % 2 = 1
    · rw [if_pos (by simpa using h), xor_odd h, show m / 2 + m / 2 = m - 1 by omega, show m - 1 + 1 = m by omega]
    · rw [if_neg (by simpa using h), xor_even (by omega), show m / 2 + m / 2 = m by omega]
theorem prN_in {v : List Int} (hv : valOk v) (q : Nat) : ∀ n, n ≤ 5 → ∀ z ∈ prN v q n, sumIn z
  | 0, _, z, h => by cases h
  | n + 1, hn, z, h => by
    rw [prN] at h
    rcases List.mem_append.1 h with h | h
    · exact prN_in hv q n (by omega) z h
    · rw [List.mem_singleton] at h
      rw [h]
      exact getD_in (lvN_in hv n) _
/-- the proof of a store leads to its root -/
theorem proof_root {s : List Ent} {key : Int} (hs : storeB s = true) (hk : inB key 0 31 = true) : proofF key (atL s key) (proofL s key) = rootL s := by
  have hkb := inB_true.1 hk
  obtain ⟨q, rfl⟩ := Int.eq_ofNat_of_zero_le hkb.1
  have hq : q < 32 := by omega
  have hv : valOk (valsL s) := valOk_vals (storeB_def _ ▸ hs) (by omega)
  have hg : (valsL s).getD q 0 = atL s (q : Int) := vals_get (storeB_def _ ▸ hs) (by omega) q hq
  have hP : proofL s (q : Int) = prN (valsL s) q 5 := by rw [proofL, if_pos ⟨hs, hk⟩, Int.toNat_natCast]
  have hl := leafS_in hv hq
  rw [hg] at hl
  have hl2 : 0 ≤ leafS (q : Int) (atL s (q : Int)) := hl.1
  have hgo := go_prN (valsL s) q hq 5 (Nat.le_refl _)
  rw [hg] at hgo
  have hsb : sumsB (prN (valsL s) q 5) = true := by
    simp only [sumsB, Bool.not_eq_true', List.any_eq_false, Bool.not_eq_true, Bool.not_eq_false']
    intro z hz
    have := prN_in hv q 5 (Nat.le_refl _) z hz
    simp [inB_true.2 ⟨this.1, this.2⟩]
  rw [proofF, if_neg (by rw [hP, prN_len, hsb]; simp; omega), hP, hgo, rootL, if_pos hs]
  have : q / 2 ^ 5 = 0 := by omega
  rw [this]
/-- a value is in the range -/
theorem atL_in {s : List Ent} {key : Int} (hs : storeB s = true) (hk : inB key 0 31 = true) : 0 ≤ atL s key ∧ atL s key ≤ 1000000 := by
  have hkb := inB_true.1 hk
  obtain ⟨q, rfl⟩ := Int.eq_ofNat_of_zero_le hkb.1
  have hq : q < 32 := by omega
  have hv : valOk (valsL s) := valOk_vals (storeB_def _ ▸ hs) (by omega)
  rw [← vals_get (storeB_def _ ▸ hs) (by omega) q hq]
  exact hv.2 q
end Go.Proofs.Ytefdhlfljpppfaa
namespace Go.Proofs.Ytefdhlfljpppfaa
open Go.RowKit
set_option linter.unusedVariables false
set_option linter.unusedSimpArgs false

theorem boxes2 (w : World) (t1 t2 : TypeId) (z1 z2 c1 : Array Value) : Blk ((w.alloc (.cells z1 t1)).alloc (.cells z2 t2)) w.heap.size t1 z1 ∧ Blk (((w.alloc (.cells z1 t1)).alloc (.cells z2 t2)).setRow w.heap.size c1) w.heap.size t1 c1 ∧ Blk (((w.alloc (.cells z1 t1)).alloc (.cells z2 t2)).setRow w.heap.size c1) (w.heap.size + 1) t2 z2 ∧ Below w.heap.size w (((w.alloc (.cells z1 t1)).alloc (.cells z2 t2)).setRow w.heap.size c1) := by
  have h1 : Blk ((w.alloc (.cells z1 t1)).alloc (.cells z2 t2)) w.heap.size t1 z1 := (Blk.new _ _ _).alloc _
  have h2 : Blk ((w.alloc (.cells z1 t1)).alloc (.cells z2 t2)) (w.heap.size + 1) t2 z2 := by
    have := Blk.new (w.alloc (.cells z1 t1)) t2 z2
    simpa using this
  exact ⟨h1, blk_setRow h1, h2.chg (chg_setRow (S := fun k => k = w.heap.size) rfl _) (by omega), below_setRow (((Below.refl _ _).alloc (Nat.le_refl _) _).alloc (by simp) _) (Nat.le_refl _) _⟩
theorem box_two (w0 w : World) (q : Nat) (t1 t2 : TypeId) (c1 z2 c2 : Array Value) (h1 : Blk w q t1 c1) (h2 : Blk w (q + 1) t2 z2) (hb : Below q w0 w) : Blk (w.setRow (q + 1) c2) q t1 c1 ∧ Blk (w.setRow (q + 1) c2) (q + 1) t2 c2 ∧ Below q w0 (w.setRow (q + 1) c2) :=
  ⟨h1.chg (chg_setRow (S := fun k => k = q + 1) rfl _) (by omega), blk_setRow h2, below_setRow hb (by omega) _⟩
theorem xor_one (n : Nat) (h : n ≤ 1000000) : bits .xor .i64 (n : Int) 1 = ((n ^^^ 1 : Nat) : Int) := by
  rw [show (1 : Int) = ((1 : Nat) : Int) from rfl, i64_xor_nat n 1 (by omega) (by omega)]
set_option maxRecDepth 100000 in
set_option maxHeartbeats 8000000 in
theorem law_FnAnswerRight (A : Option Addr) (c : Nat) (bs : List Int) (w : World) (h : Rd w A (bs.map (.int .u8))) (hw : ∀ b ∈ bs, 0 ≤ b ∧ b ≤ 255) (hc : bs.length ≤ c) (hm : c ≤ maxLen) :
    Calls Try.prog 5 #[.slice A bs.length c] w fun e w' => e = .returned (.bool true) ∧ Below w.heap.size w w' := by
  have hm2 : bs.length ≤ 9223372036854775807 := by simp only [maxLen] at hm; omega
  by_cases hl : (1048576 : Int) < (bs.length : Int)
  · clear hw
    go_enter Try.func5, Try.ntmps5
    go_wp2
    go_ret
    exact ⟨rfl, Below.refl _ _⟩
  have HW := hide hw
  have HC := hide hc
  have HM := hide hm
  clear hw hc hm
  go_enter Try.func5, Try.ntmps5
  go_wp2_with fail
  refine (DrawAnswerRight_any A c bs w h (unhide HW) (unhide HC) (unhide HM)).mono ?_
  rintro e w1 ⟨y, L, e1, ⟨key, val, ps⟩, P, c1, rfl, hyl, hpl, rL, rP, hB⟩
  simp only at hpl rP
  clear h
  go_wp2_with (refine wpList_store_row rfl 41 (.tmp 3) (.tmp 12) rfl w1.heap.size #[.int .i64 y.before, .int .i64 y.height, .int .i64 y.view, .slice L y.list.length e1, .int .i64 y.root, .int .i64 y.eff] rfl rfl 41 #[.int .i64 0, .int .i64 0, .int .i64 0, .slice none 0 0, .int .i64 0, .int .i64 0] (boxes2 w1 41 43 #[.int .i64 0, .int .i64 0, .int .i64 0, .slice none 0 0, .int .i64 0, .int .i64 0] #[.int .i64 0, .int .i64 0, .slice none 0 0] #[.int .i64 y.before, .int .i64 y.height, .int .i64 y.view, .slice L y.list.length e1, .int .i64 y.root, .int .i64 y.eff]).1 info_bk4 rfl (bk_one4 _ _ _ _ _ _ _ _) ?_; refine at_world (C := fun W => wpList _ _ _ _ _ W) (F := fun W => Blk W w1.heap.size 41 #[.int .i64 y.before, .int .i64 y.height, .int .i64 y.view, .slice L y.list.length e1, .int .i64 y.root, .int .i64 y.eff] ∧ Blk W (w1.heap.size + 1) 43 #[.int .i64 0, .int .i64 0, .slice none 0 0] ∧ Below w1.heap.size w1 W) (boxes2 w1 41 43 #[.int .i64 0, .int .i64 0, .int .i64 0, .slice none 0 0, .int .i64 0, .int .i64 0] #[.int .i64 0, .int .i64 0, .slice none 0 0] #[.int .i64 y.before, .int .i64 y.height, .int .i64 y.view, .slice L y.list.length e1, .int .i64 y.root, .int .i64 y.eff]).2 ?_; rintro w2 ⟨k2, k3, b2⟩; obtain ⟨qb, hqb⟩ : ∃ q, q = w1.heap.size := ⟨_, rfl⟩; rw [← hqb] at k2 k3 b2 ⊢; have HQB := hide hqb; clear hqb; refine wpList_store_row rfl 43 (.tmp 4) (.tmp 13) rfl (qb + 1) #[.int .i64 key, .int .i64 val, .slice P ps.length c1] rfl rfl 43 #[.int .i64 0, .int .i64 0, .slice none 0 0] k3 info_ans4 rfl (ans_one4 _ _ _ _ _) ?_; refine at_world (C := fun W => wpList _ _ _ _ _ W) (F := fun W => Blk W qb 41 #[.int .i64 y.before, .int .i64 y.height, .int .i64 y.view, .slice L y.list.length e1, .int .i64 y.root, .int .i64 y.eff] ∧ Blk W (qb + 1) 43 #[.int .i64 key, .int .i64 val, .slice P ps.length c1] ∧ Below qb w1 W) (box_two w1 w2 qb 41 43 #[.int .i64 y.before, .int .i64 y.height, .int .i64 y.view, .slice L y.list.length e1, .int .i64 y.root, .int .i64 y.eff] #[.int .i64 0, .int .i64 0, .slice none 0 0] #[.int .i64 key, .int .i64 val, .slice P ps.length c1] k2 k3 b2) ?_; rintro w3 ⟨kb3, ka3, b3⟩; clear k2 k3 b2; have z0 : w3.cell? ⟨qb, 0, none⟩ = some (.int .i64 y.before) := kb3.cell 0; have z1 : w3.cell? ⟨qb, 1, none⟩ = some (.int .i64 y.height) := kb3.cell 1; have z2 : w3.cell? ⟨qb, 2, none⟩ = some (.int .i64 y.view) := kb3.cell 2; have z3 : w3.cell? ⟨qb, 3, none⟩ = some (.slice L y.list.length e1) := kb3.cell 3; have z4 : w3.cell? ⟨qb, 4, none⟩ = some (.int .i64 y.root) := kb3.cell 4; have z5 : w3.cell? ⟨qb, 5, none⟩ = some (.int .i64 y.eff) := kb3.cell 5; have a0 : w3.cell? ⟨qb + 1, 0, none⟩ = some (.int .i64 key) := ka3.cell 0; have a1 : w3.cell? ⟨qb + 1, 1, none⟩ = some (.int .i64 val) := ka3.cell 1; have a2 : w3.cell? ⟨qb + 1, 2, none⟩ = some (.slice P ps.length c1) := ka3.cell 2)
  have hqb := unhide HQB
  have b3' : Below w1.heap.size w1 w3 := by rw [← hqb]; exact b3
  clear hqb b3
  have rL3 := rL.new b3'
  have rP3 := rP.new b3'
  have hB3 := bthen hB b3'
  clear rL rP hB b3'
  refine (answerRight_impl y ⟨key, val, ps⟩ L e1 P c1 w3 rL3 (by omega) rP3 (by simp only; omega)).mono ?_
  rintro e w4 ⟨rfl, b4⟩
  have rL4 := rL3.new b4
  have rP4 := rP3.new b4
  have hB4 := bthen hB3 b4
  have kb4 := kb3.new_ b4
  have ka4 := ka3.new_ b4
  clear z0 z1 z2 z3 z4 z5 a0 a1 a2 rL3 rP3 hB3 kb3 ka3 b4
  have z0 : w4.cell? ⟨qb, 0, none⟩ = some (.int .i64 y.before) := kb4.cell 0
  have z1 : w4.cell? ⟨qb, 1, none⟩ = some (.int .i64 y.height) := kb4.cell 1
  have z2 : w4.cell? ⟨qb, 2, none⟩ = some (.int .i64 y.view) := kb4.cell 2
  have z3 : w4.cell? ⟨qb, 3, none⟩ = some (.slice L y.list.length e1) := kb4.cell 3
  have z4 : w4.cell? ⟨qb, 4, none⟩ = some (.int .i64 y.root) := kb4.cell 4
  have z5 : w4.cell? ⟨qb, 5, none⟩ = some (.int .i64 y.eff) := kb4.cell 5
  have a0 : w4.cell? ⟨qb + 1, 0, none⟩ = some (.int .i64 key) := ka4.cell 0
  have a1 : w4.cell? ⟨qb + 1, 1, none⟩ = some (.int .i64 val) := ka4.cell 1
  have a2 : w4.cell? ⟨qb + 1, 2, none⟩ = some (.slice P ps.length c1) := ka4.cell 2
  go_wp2_with fail
  refine (answerRight_spec y ⟨key, val, ps⟩ L e1 P c1 w4 rL4 (by omega) rP4 (by simp only; omega)).mono ?_
  rintro e w5 ⟨rfl, b5⟩
  have rL5 := rL4.new b5
  have rP5 := rP4.new b5
  have hB5 := bthen hB4 b5
  have kb5 := kb4.new_ b5
  have ka5 := ka4.new_ b5
  clear z0 z1 z2 z3 z4 z5 a0 a1 a2 rL4 rP4 hB4 kb4 ka4 b5
  have z0 : w5.cell? ⟨qb, 0, none⟩ = some (.int .i64 y.before) := kb5.cell 0
  have z1 : w5.cell? ⟨qb, 1, none⟩ = some (.int .i64 y.height) := kb5.cell 1
  have z2 : w5.cell? ⟨qb, 2, none⟩ = some (.int .i64 y.view) := kb5.cell 2
  have z3 : w5.cell? ⟨qb, 3, none⟩ = some (.slice L y.list.length e1) := kb5.cell 3
  have z4 : w5.cell? ⟨qb, 4, none⟩ = some (.int .i64 y.root) := kb5.cell 4
  have z5 : w5.cell? ⟨qb, 5, none⟩ = some (.int .i64 y.eff) := kb5.cell 5
  have a0 : w5.cell? ⟨qb + 1, 0, none⟩ = some (.int .i64 key) := ka5.cell 0
  have a1 : w5.cell? ⟨qb + 1, 1, none⟩ = some (.int .i64 val) := ka5.cell 1
  have a2 : w5.cell? ⟨qb + 1, 2, none⟩ = some (.slice P ps.length c1) := ka5.cell 2
  cases hok : answerB y ⟨key, val, ps⟩
  · clear hok
    go_wp2_with fail
    refine (alive_any w5).mono ?_
    rintro e w6 ⟨rfl, b6⟩
    go_wp2
    go_ret
    exact ⟨rfl, bthen hB5 b6⟩
  have hv := answer_val hok
  obtain ⟨n, rfl⟩ : ∃ n : Nat, val = n := Int.eq_ofNat_of_zero_le hv.1
  have hn : n ≤ 1000000 := by have := hv.2; simp only at this; omega
  have hno : answerB y ⟨key, ((n ^^^ 1 : Nat) : Int), ps⟩ = false := by
    cases h2 : answerB y ⟨key, ((n ^^^ 1 : Nat) : Int), ps⟩
    · rfl
    · have h3 := answer_one (a := ⟨key, (n : Int), ps⟩) hok h2
      exact absurd (Int.ofNat.inj h3).symm (xor_ne n)
  have HNO := hide hno
  have HX := hide (xor_one n hn)
  clear hok hv hno
  go_wp2_with fail
  rw [unhide HX]
  refine (answerRight_impl y ⟨key, ((n ^^^ 1 : Nat) : Int), ps⟩ L e1 P c1 w5 rL5 (by omega) rP5 (by simp only; omega)).mono ?_
  rintro e w6 ⟨rfl, b6⟩
  rw [unhide HNO]
  go_wp2_with fail
  refine (alive_any w6).mono ?_
  rintro e w7 ⟨rfl, b7⟩
  go_wp2
  go_ret
  exact ⟨rfl, bthen hB5 (bthen b6 b7)⟩
end Go.Proofs.Ytefdhlfljpppfaa
