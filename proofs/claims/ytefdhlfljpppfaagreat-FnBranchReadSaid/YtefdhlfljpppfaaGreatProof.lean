/- Proofs and answers: ProofRoot, ProofRight, BlockValid, AnswerRight of impl and spec. -/
import Derived.Test.YtefdhlfljpppfaaGreatTree
import Derived.Test.YtefdhlfljpppfaaGreatActS
import Derived.Test.YtefdhlfljpppfaaGreatBlk
namespace Go.Proofs.YtefdhlfljpppfaaGreat
open Go.RowKit
set_option linter.unusedVariables false
set_option linter.unusedSimpArgs false

def nodeS (a b : Int) : Int := sumF 2 [a, b]
def stepUp (key : Int) (lv : Nat) (s o : Int) : Int := if key.toNat.testBit lv = true then nodeS o s else nodeS s o
def proofGo (key : Int) : Nat → Int → List Int → Int
  | _, s, [] => s
  | lv, s, o :: os => proofGo key (lv + 1) (stepUp key lv s o) os
def sumsB (xs : List Int) : Bool := !xs.any fun n => !inB n 0 1000002
def proofF (key value : Int) (proof : List Int) : Int := if leafS key value < 0 ∨ proof.length ≠ 5 ∨ sumsB proof = false then -1 else proofGo key 0 (leafS key value) proof
def proofR (root key value : Int) (proof : List Int) : Bool := decide (0 ≤ root) && (proofF key value proof == root)
def blkB (b : Bk) : Bool := inB b.before 0 1000002 && (inB b.root 0 1000002 && (inB b.eff 0 1000002 && (inB b.height 0 100 && (inB b.view 0 1000 && actsB b.list))))
def answerB (b : Bk) (a : Ans) : Bool := blkB b && proofR b.root a.key a.value a.proof
theorem leafS_key {k v : Int} (h : ¬ leafS k v < 0) : 0 ≤ k ∧ k ≤ 31 ∧ leafS k v ≤ 1000002 := by
  have h2 := leafS_bd k v
  unfold leafS at h
  split at h
  · rename_i hc
    have := inB_true.1 hc.1
    exact ⟨this.1, this.2, h2.2⟩
  · omega
theorem sums_get {xs : List Int} (h : sumsB xs = true) {k : Nat} (hk : k < xs.length) : 0 ≤ xs[k] ∧ xs[k] ≤ 1000002 := by
  unfold sumsB at h
  simp only [Bool.not_eq_true', List.any_eq_false, Bool.not_eq_true, Bool.not_eq_false'] at h
  exact inB_true.1 (by have := h _ (List.getElem_mem hk); simpa using this)
theorem node_bd (a b : Int) (ha : 0 ≤ a ∧ a ≤ 1000002) (hb : 0 ≤ b ∧ b ≤ 1000002) : 0 ≤ nodeS a b ∧ nodeS a b ≤ 1000002 := by
  have hs : summed [a, b] = true := by
    have h1 : inB a 0 2000000 = true := inB_true.2 (by omega)
    have h2 : inB b 0 2000000 = true := inB_true.2 (by omega)
    simp [summed, h1, h2]
  unfold nodeS
  rw [sumF_yes rfl hs]
  exact sums_bd _ _ (by omega)
theorem summed_two (a b : Int) (ha : 0 ≤ a ∧ a ≤ 1000002) (hb : 0 ≤ b ∧ b ≤ 1000002) : summed [a, b] = true := by
  have h1 : inB a 0 2000000 = true := inB_true.2 (by omega)
  have h2 : inB b 0 2000000 = true := inB_true.2 (by omega)
  simp [summed, h1, h2]
theorem key_and (key lv : Nat) (hh : key < 4294967296) : bits .and .i64 ((key : Int) / 2 ^ lv) 1 = if key.testBit lv = true then 1 else 0 := by
  have e : (key : Int) / 2 ^ lv = ((key / 2 ^ lv : Nat) : Int) := by simp
  have hl : key / 2 ^ lv ≤ key := Nat.div_le_self _ _
  rw [e, show (1 : Int) = ((1 : Nat) : Int) from rfl, i64_and_nat _ _ (by omega) (by omega)]
  have : key / 2 ^ lv &&& 1 = if key.testBit lv = true then 1 else 0 := by
    rw [Nat.and_one_is_mod, Nat.testBit_eq_decide_div_mod_eq]
    simp only [decide_eq_true_eq]
    split <;> omega
  rw [this]
  split <;> rfl
theorem leafSum_spec (k v : Int) (w : World) :
    Calls Tryz.prog 114 #[.int .i64 k, .int .i64 v] w fun e w' => e = .returned (.int .i64 (leafS k v)) ∧ Below w.heap.size w w' := by
  cases hk : inB k 0 31
  · have HV := hide (show leafS k v = -1 by simp [leafS, hk])
    go_enter Tryz.func114, Tryz.ntmps114
    go_wp2_with fail
    refine (l1In_any k _ _ _).mono ?_
    rintro e w' ⟨rfl, rfl⟩
    rw [hk]
    go_wp2
    go_ret
    exact ⟨reti (unhide HV).symm, Below.refl _ _⟩
  · cases hv : inB v 0 1000000
    · have HV := hide (show leafS k v = -1 by simp [leafS, hv])
      go_enter Tryz.func114, Tryz.ntmps114
      go_wp2_with fail
      refine (l1In_any k _ _ _).mono ?_
      rintro e w' ⟨rfl, rfl⟩
      rw [hk]
      go_wp2_with fail
      refine (l1In_any v _ _ _).mono ?_
      rintro e w' ⟨rfl, rfl⟩
      rw [hv]
      go_wp2
      go_ret
      exact ⟨reti (unhide HV).symm, Below.refl _ _⟩
    · have HV := hide (show leafS k v = sumF 1 [k, v] by simp [leafS, hv, hk])
      have HS := hide (show summed [k, v] = true by
        have h1 := inB_true.1 hk
        have h2 := inB_true.1 hv
        have e1 : inB k 0 2000000 = true := inB_true.2 (by omega)
        have e2 : inB v 0 2000000 = true := inB_true.2 (by omega)
        simp [summed, e1, e2])
      go_enter Tryz.func114, Tryz.ntmps114
      go_wp2_with fail
      refine (l1In_any k _ _ _).mono ?_
      rintro e w' ⟨rfl, rfl⟩
      rw [hk]
      go_wp2_with fail
      refine (l1In_any v _ _ _).mono ?_
      rintro e w' ⟨rfl, rfl⟩
      rw [hv]
      go_wp2_with fail
      refine (l1Sum_any 1 (some ⟨w.heap.size, 0, none⟩) 2 [k, v] _ (rd_lit w [.int .i64 k, .int .i64 v] 3) (by simp) rfl (unhide HS)).mono ?_
      rintro e w' ⟨rfl, rfl⟩
      go_wp2
      go_ret
      exact ⟨reti (unhide HV).symm, (Below.refl _ _).alloc (Nat.le_refl _) _⟩
theorem l3Node_any (a b : Int) (w : World) (h : summed [a, b] = true) :
    Calls Tryz.prog 115 #[.int .i64 a, .int .i64 b] w fun e w' => e = .returned (.int .i64 (nodeS a b)) ∧ Below w.heap.size w w' := by
  have HS := hide h
  clear h
  go_enter Tryz.func115, Tryz.ntmps115
  go_wp2_with fail
  refine (l1Sum_any 2 (some ⟨w.heap.size, 0, none⟩) 2 [a, b] _ (rd_lit w [.int .i64 a, .int .i64 b] 3) (by simp) rfl (unhide HS)).mono ?_
  rintro e w' ⟨rfl, rfl⟩
  go_wp2
  go_ret
  exact ⟨rfl, (Below.refl _ _).alloc (Nat.le_refl _) _⟩
theorem proofClosure (x : Int) (W : World) : Calls Tryz.prog 124 #[.int .i64 x] W fun e W' => e = .returned (.bool (!inB x 0 1000002)) ∧ W = W' := by
  go_enter Tryz.func124, Tryz.ntmps124
  go_wp2_with (go_at_call 89; refine (isSum_any _ _).mono ?_; rintro e w' ⟨rfl, rfl⟩)
  all_goals go_ret
  all_goals exact ⟨rfl, rfl⟩
set_option maxHeartbeats 1000000 in
theorem proofRoot_impl (key value : Int) (A : Option Addr) (c : Nat) (xs : List Int) (w : World) (h : Rd w A (xs.map (.int .i64))) (hb : xs.length ≤ 4611686018427387904) :
    Calls Tryz.prog 92 #[.int .i64 key, .int .i64 value, .slice A xs.length c] w fun e w' => e = .returned (.int .i64 (proofF key value xs)) ∧ Below w.heap.size w w' := by
  by_cases hl : leafS key value < 0
  · have HV := hide (show proofF key value xs = -1 by unfold proofF; rw [if_pos (.inl hl)])
    generalize hz : leafS key value = z at *
    have HZ := hide hz
    clear hz
    go_enter Tryz.func92, Tryz.ntmps92
    go_wp2_with fail
    refine (leafSum_impl key value w).mono ?_
    rintro e w1 ⟨rfl, b1⟩
    rw [unhide HZ]
    go_wp2
    go_ret
    exact ⟨reti (unhide HV).symm, b1⟩
  by_cases hn : xs.length = 5
  rotate_left
  · have HV := hide (show proofF key value xs = -1 by unfold proofF; rw [if_pos (.inr (.inl hn))])
    have hn2 : ((xs.length : Int) != 5) = true := by simp; omega
    generalize hz : leafS key value = z at *
    have HZ := hide hz
    clear hz
    go_enter Tryz.func92, Tryz.ntmps92
    go_wp2_with fail
    refine (leafSum_impl key value w).mono ?_
    rintro e w1 ⟨rfl, b1⟩
    rw [unhide HZ]
    go_wp2
    go_ret
    exact ⟨reti (unhide HV).symm, b1⟩
  have hn2 : ((xs.length : Int) != 5) = false := by simp [hn]
  have HN := hide hn
  cases hs : sumsB xs
  · have HV := hide (show proofF key value xs = -1 by unfold proofF; rw [if_pos (.inr (.inr hs))])
    have HS := hide (show (xs.any fun n => !inB n 0 1000002) = true by simpa [sumsB] using hs)
    clear hs hn
    generalize hz : leafS key value = z at *
    have HZ := hide hz
    clear hz
    go_enter Tryz.func92, Tryz.ntmps92
    go_wp2_with fail
    refine (leafSum_impl key value w).mono ?_
    rintro e w1 ⟨rfl, b1⟩
    rw [unhide HZ]
    go_wp2_with fail
    refine (containsFuncI_any A c 124 _ Tryz.call124 proofClosure xs w1 (h.new b1) hb).mono ?_
    rintro e w' ⟨rfl, rfl⟩
    rw [unhide HS]
    go_wp2
    go_ret
    exact ⟨reti (unhide HV).symm, b1⟩
  have HV := hide (show proofF key value xs = proofGo key 0 (leafS key value) xs by unfold proofF; rw [if_neg]; rintro (h1 | h1 | h1); exact hl h1; exact h1 hn; rw [hs] at h1; cases h1)
  have HS := hide (show (xs.any fun n => !inB n 0 1000002) = false by simpa [sumsB] using hs)
  have HG := hide hs
  obtain ⟨k1, k2, k3⟩ := leafS_key hl
  obtain ⟨q, rfl⟩ := Int.eq_ofNat_of_zero_le k1
  clear hs hn
  generalize hz : leafS (q : Int) value = z0 at *
  have HZ := hide hz
  clear hz
  go_enter Tryz.func92, Tryz.ntmps92
  go_wp2_with fail
  refine (leafSum_impl (q : Int) value w).mono ?_
  rintro e w1 ⟨rfl, b1⟩
  rw [unhide HZ]
  go_wp2_with fail
  refine (containsFuncI_any A c 124 _ Tryz.call124 proofClosure xs w1 (h.new b1) hb).mono ?_
  rintro e w' ⟨rfl, rfl⟩
  rw [unhide HS]
  replace h := h.new b1
  go_wp2
  go_loopw [7, 8, 9, 26] (fun s _ _ i wr => ∃ (k : Nat) (z : Int), k ≤ xs.length ∧ i = .int .i64 k ∧ s = .int .i64 z ∧ 0 ≤ z ∧ z ≤ 1000002 ∧ proofGo (q : Int) 0 z0 xs = proofGo (q : Int) k z (xs.drop k) ∧ Below w1.heap.size w1 wr) (fun _ _ _ i _ => xs.length - (intOf i).toNat)
  case atStart => exact ⟨0, z0, Nat.zero_le _, rfl, rfl, by omega, k3, rfl, Below.refl _ _⟩
  case round =>
    obtain ⟨k, z, hk, rfl, rfl, hz1, hz2, hz, hB⟩ := hrel
    by_cases hlt : k < xs.length
    · obtain ⟨b, off, rfl, hbb, hc⟩ := (h.new hB).int hlt
      obtain ⟨x1, x2⟩ := sums_get (unhide HG) hlt
      rw [drop_get xs k hlt, proofGo] at hz
      have i1 : (k : Int) < (xs.length : Int) := by omega
      have i2 : (k : Int) < 64 := by have := unhide HN; omega
      have hkn : ((q : Int)).toNat = q := by omega
      unfold stepUp at hz
      rw [hkn] at hz
      have hba := key_and q k (by omega)
      generalize hxk : xs[k] = xk at *
      clear hxk hkn
      cases hbit : q.testBit k
      · rw [hbit] at hba hz
        rw [if_neg (by simp)] at hba hz
        have hnb := node_bd z xk ⟨hz1, hz2⟩ ⟨x1, x2⟩
        have HZ2 := hide hz
        clear hz hbit
        go_wp2_with fail
        refine (sum_impl 2 (some ⟨wr.heap.size, 0, none⟩) 2 [z, xk] _ (rd_lit wr [.int .i64 z, .int .i64 xk] 3) (by simp)).mono ?_
        rintro e w' ⟨rfl, rfl⟩
        rw [show sumF 2 [z, xk] = nodeS z xk from rfl]
        go_wp2
        go_roundw
        case rel => exact ⟨k + 1, _, by omega, by go_num, rfl, hnb.1, hnb.2, unhide HZ2, hB.alloc hB.size _⟩
        case measure => simp [intOf]; omega
      · rw [hbit] at hba hz
        rw [if_pos rfl] at hba hz
        have hnb := node_bd xk z ⟨x1, x2⟩ ⟨hz1, hz2⟩
        have HZ2 := hide hz
        clear hz hbit
        go_wp2_with fail
        refine (sum_impl 2 (some ⟨wr.heap.size, 0, none⟩) 2 [xk, z] _ (rd_lit wr [.int .i64 xk, .int .i64 z] 3) (by simp)).mono ?_
        rintro e w' ⟨rfl, rfl⟩
        rw [show sumF 2 [xk, z] = nodeS xk z from rfl]
        go_wp2
        go_roundw
        case rel => exact ⟨k + 1, _, by omega, by go_num, rfl, hnb.1, hnb.2, unhide HZ2, hB.alloc hB.size _⟩
        case measure => simp [intOf]; omega
    · have hz' : proofGo (q : Int) 0 z0 xs = z := by rw [hz, List.drop_of_length_le (by omega)]; rfl
      have HZ2 := hide hz'
      clear hz hz'
      go_wp2
      go_ret
      exact ⟨reti ((unhide HV).trans (unhide HZ2)).symm, bthen b1 hB⟩
theorem proofRight_impl (root key value : Int) (A : Option Addr) (c : Nat) (xs : List Int) (w : World) (h : Rd w A (xs.map (.int .i64))) (hb : xs.length ≤ 4611686018427387904) :
    Calls Tryz.prog 54 #[.int .i64 root, .int .i64 key, .int .i64 value, .slice A xs.length c] w fun e w' => e = .returned (.bool (proofR root key value xs)) ∧ Below w.heap.size w w' := by
  by_cases h0 : 0 ≤ root
  · have HV := hide (show proofR root key value xs = (proofF key value xs == root) by simp [proofR, h0])
    cases hz : (proofF key value xs == root)
    all_goals
      rw [hz] at HV
      go_enter Tryz.func54, Tryz.ntmps54
      go_wp2_with fail
      refine (proofRoot_impl key value A c xs w h hb).mono ?_
      rintro e w1 ⟨rfl, b1⟩
      go_wp2
      go_ret
      exact ⟨retb (unhide HV).symm, b1⟩
  · have HV := hide (show proofR root key value xs = false by simp [proofR, h0])
    go_enter Tryz.func54, Tryz.ntmps54
    go_wp2
    go_ret
    exact ⟨retb (unhide HV).symm, Below.refl _ _⟩
set_option maxHeartbeats 1000000 in
theorem blockValid_impl (x : Bk) (A : Option Addr) (c : Nat) (w : World) (h : Rd w A (x.list.flatMap encA)) (hb : x.list.length ≤ 4611686018427387904) :
    Calls Tryz.prog 53 #[.agg #[.int .i64 x.before, .int .i64 x.height, .int .i64 x.view, .slice A x.list.length c, .int .i64 x.root, .int .i64 x.eff]] w fun e w' => e = .returned (.bool (blkB x)) ∧ Below w.heap.size w w' := by
  have HB := hide (show blkB x = (inB x.before 0 1000002 && (inB x.root 0 1000002 && (inB x.eff 0 1000002 && (inB x.height 0 100 && (inB x.view 0 1000 && actsB x.list))))) from rfl)
  have hb1 : Below w.heap.size w (w.alloc (.cells #[.int .i64 x.before, .int .i64 x.height, .int .i64 x.view, .slice A x.list.length c, .int .i64 x.root, .int .i64 x.eff] 50)) := (Below.refl _ _).alloc (Nat.le_refl _) _
  have hr := h.new hb1
  cases e1 : inB x.before 0 1000002
  all_goals cases e2 : inB x.root 0 1000002
  all_goals cases e3 : inB x.eff 0 1000002
  all_goals cases e4 : inB x.height 0 100
  all_goals cases e5 : inB x.view 0 1000
  all_goals
    go_enter Tryz.func53, Tryz.ntmps53
    go_wp2_with (first | (go_at_call 89; refine (isSum_any _  _).mono ?_; rintro e w' ⟨rfl, rfl⟩) | (go_at_call 66; refine (in_any _ _ _ _).mono ?_; rintro e w' ⟨rfl, rfl⟩) | (go_at_call 90; refine (isView_any _  _).mono ?_; rintro e w' ⟨rfl, rfl⟩))
    first
      | (go_ret; exact ⟨retb (by rw [unhide HB, e1, e2, e3, e4, e5]; rfl), hb1⟩)
      | (refine (actionsValid_impl A c x.list _ hr hb).mono ?_
         rintro e w2 ⟨rfl, b2⟩
         go_wp2
         go_ret
         exact ⟨retb (by rw [unhide HB, e1, e2, e3, e4, e5]; rfl), bthen hb1 b2⟩)
set_option maxHeartbeats 1000000 in
theorem answerRight_impl (x : Bk) (a : Ans) (A : Option Addr) (c : Nat) (B : Option Addr) (d : Nat) (w : World) (h : Rd w A (x.list.flatMap encA)) (hb : x.list.length ≤ 4611686018427387904) (h2 : Rd w B (a.proof.map (.int .i64))) (hb2 : a.proof.length ≤ 4611686018427387904) :
    Calls Tryz.prog 19 #[.agg #[.int .i64 x.before, .int .i64 x.height, .int .i64 x.view, .slice A x.list.length c, .int .i64 x.root, .int .i64 x.eff], .agg #[.int .i64 a.key, .int .i64 a.value, .slice B a.proof.length d]] w fun e w' => e = .returned (.bool (answerB x a)) ∧ Below w.heap.size w w' := by
  have HB := hide (show answerB x a = (blkB x && proofR x.root a.key a.value a.proof) from rfl)
  have hb1 : Below w.heap.size w ((w.alloc (.cells #[.int .i64 x.before, .int .i64 x.height, .int .i64 x.view, .slice A x.list.length c, .int .i64 x.root, .int .i64 x.eff] 50)).alloc (.cells #[.int .i64 a.key, .int .i64 a.value, .slice B a.proof.length d] 31)) := ((Below.refl _ _).alloc (Nat.le_refl _) _).alloc (by simp) _
  have k0 := (Blk.new w 50 #[.int .i64 x.before, .int .i64 x.height, .int .i64 x.view, .slice A x.list.length c, .int .i64 x.root, .int .i64 x.eff]).alloc (.cells #[.int .i64 a.key, .int .i64 a.value, .slice B a.proof.length d] 31)
  have k1 := Blk.new (w.alloc (.cells #[.int .i64 x.before, .int .i64 x.height, .int .i64 x.view, .slice A x.list.length c, .int .i64 x.root, .int .i64 x.eff] 50)) 31 #[.int .i64 a.key, .int .i64 a.value, .slice B a.proof.length d]
  simp only [World.size_alloc] at k1
  cases e1 : blkB x
  · go_enter Tryz.func19, Tryz.ntmps19
    go_wp2_with fail
    refine (blockValid_impl x A c _ (h.new hb1) hb).mono ?_
    rintro e w2 ⟨rfl, b2⟩
    rw [e1]
    go_wp2
    go_ret
    exact ⟨retb (by rw [unhide HB, e1]; rfl), bthen hb1 b2⟩
  · go_enter Tryz.func19, Tryz.ntmps19
    go_wp2_with fail
    refine (blockValid_impl x A c _ (h.new hb1) hb).mono ?_
    rintro e w2 ⟨rfl, b2⟩
    rw [e1]
    replace k0 := k0.new_ b2
    replace k1 := k1.new_ b2
    have z4 : w2.cell? ⟨w.heap.size, 4, none⟩ = some (.int .i64 x.root) := k0.cell 4
    have y0 : w2.cell? ⟨w.heap.size + 1, 0, none⟩ = some (.int .i64 a.key) := k1.cell 0
    have y1 : w2.cell? ⟨w.heap.size + 1, 1, none⟩ = some (.int .i64 a.value) := k1.cell 1
    have y2 : w2.cell? ⟨w.heap.size + 1, 2, none⟩ = some (.slice B a.proof.length d) := k1.cell 2
    go_wp2_with fail
    refine (proofRight_impl x.root a.key a.value B d a.proof _ (h2.new (bthen hb1 b2)) hb2).mono ?_
    rintro e w3 ⟨rfl, b3⟩
    go_wp2
    go_ret
    exact ⟨retb (by rw [unhide HB, e1]; rfl), bthen (bthen hb1 b2) b3⟩
set_option maxHeartbeats 1000000 in
theorem blockValid_spec (x : Bk) (A : Option Addr) (c : Nat) (w : World) (h : Rd w A (x.list.flatMap encA)) (hb : x.list.length ≤ 4611686018427387904) :
    Calls Tryz.prog 72 #[.agg #[.int .i64 x.before, .int .i64 x.height, .int .i64 x.view, .slice A x.list.length c, .int .i64 x.root, .int .i64 x.eff]] w fun e w' => e = .returned (.bool (blkB x)) ∧ Below w.heap.size w w' := by
  have HB := hide (show blkB x = (inB x.before 0 1000002 && (inB x.root 0 1000002 && (inB x.eff 0 1000002 && (inB x.height 0 100 && (inB x.view 0 1000 && actsB x.list))))) from rfl)
  have hb1 : Below w.heap.size w (w.alloc (.cells #[.int .i64 x.before, .int .i64 x.height, .int .i64 x.view, .slice A x.list.length c, .int .i64 x.root, .int .i64 x.eff] 50)) := (Below.refl _ _).alloc (Nat.le_refl _) _
  have hr := h.new hb1
  cases e1 : inB x.before 0 1000002
  all_goals cases e2 : inB x.root 0 1000002
  all_goals cases e3 : inB x.eff 0 1000002
  all_goals cases e4 : inB x.height 0 100
  all_goals cases e5 : inB x.view 0 1000
  all_goals
    go_enter Tryz.func72, Tryz.ntmps72
    go_wp2_with (first | (go_at_call 41; refine (l1In_any _ _ _ _).mono ?_; rintro e w' ⟨rfl, rfl⟩) | (go_at_call 41; refine (l1In_any _ _ _ _).mono ?_; rintro e w' ⟨rfl, rfl⟩) | (go_at_call 41; refine (l1In_any _ _ _ _).mono ?_; rintro e w' ⟨rfl, rfl⟩))
    first
      | (go_ret; exact ⟨retb (by rw [unhide HB, e1, e2, e3, e4, e5]; rfl), hb1⟩)
      | (refine (actionsValid_spec A c x.list _ hr hb).mono ?_
         rintro e w2 ⟨rfl, b2⟩
         go_wp2
         go_ret
         exact ⟨retb (by rw [unhide HB, e1, e2, e3, e4, e5]; rfl), bthen hb1 b2⟩)
end Go.Proofs.YtefdhlfljpppfaaGreat
