/- Proofs and answers: ProofRoot, ProofRight, BlockValid, AnswerRight of impl and spec. -/
import Derived.Test.YtmpdopjailomlaaGreatTree
import Derived.Test.YtmpdopjailomlaaGreatActS
import Derived.Test.YtmpdopjailomlaaGreatBlk
namespace Go.Proofs.YtmpdopjailomlaaGreat
open Go.RowKit
set_option linter.unusedVariables false
set_option linter.unusedSimpArgs false

def nodeS (a b : Int) : Int := sumF 2 [a, b]
def stepUp (key : Int) (lv : Nat) (s o : Int) : Int := if key.toNat.testBit lv = true then nodeS o s else nodeS s o
def proofGo (key : Int) : Nat → Int → List Int → Int
  | _, s, [] => s
  | lv, s, o :: os => proofGo key (lv + 1) (stepUp key lv s o) os
def sumsB (xs : List Int) : Bool := !xs.any fun n => !inB n 0 1000002
def proofF (key value : Int) (proof : List Int) : Int := if leafS key value < 0 ∨ proof.length ≠ 5 ∨ sumsB proof = false then -1 else proofGo key 0 (leafS key value) proof
def proofR (root key value : Int) (proof : List Int) : Bool := decide (0 ≤ root) && (proofF key value proof == root)
def blkB (b : Bk) : Bool := inB b.before 0 1000002 && (inB b.root 0 1000002 && (inB b.eff 0 1000002 && (inB b.height 0 100 && (inB b.view 0 1000 && actsB b.list))))
def answerB (b : Bk) (a : Ans) : Bool := blkB b && proofR b.root a.key a.value a.proof
theorem leafS_key {k v : Int} (h : ¬ leafS k v < 0) : 0 ≤ k ∧ k ≤ 31 ∧ leafS k v ≤ 1000002 := by
  have h2 := leafS_bd k v
  unfold leafS at h
  split at h
  · rename_i hc
    have := inB_true.1 hc.1
    exact ⟨this.1, this.2, h2.2⟩
  · omega
theorem sums_get {xs : List Int} (h : sumsB xs = true) {k : Nat} (hk : k < xs.length) : 0 ≤ xs[k] ∧ xs[k] ≤ 1000002 := by
  unfold sumsB at h
  simp only [Bool.not_eq_true', List.any_eq_false, Bool.not_eq_true, Bool.not_eq_false'] at h
  exact inB_true.1 (by have := h _ (List.getElem_mem hk); simpa using this)
theorem node_bd (a b : Int) (ha : 0 ≤ a ∧ a ≤ 1000002) (hb : 0 ≤ b ∧ b ≤ 1000002) : 0 ≤ nodeS a b ∧ nodeS a b ≤ 1000002 := by
  have hs : summed [a, b] = true := by
    have h1 : inB a 0 2000000 = true := inB_true.2 (by omega)
    have h2 : inB b 0 2000000 = true := inB_true.2 (by omega)
    simp [summed, h1, h2]
  unfold nodeS
  rw [sumF_yes rfl hs]
  exact sums_bd _ _ (by omega)
theorem summed_two (a b : Int) (ha : 0 ≤ a ∧ a ≤ 1000002) (hb : 0 ≤ b ∧ b ≤ 1000002) : summed [a, b] = true := by
  have h1 : inB a 0 2000000 = true := inB_true.2 (by omega)
  have h2 : inB b 0 2000000 = true := inB_true.2 (by omega)
  simp [summed, h1, h2]
theorem key_and (key lv : Nat) (hh : key < 4294967296) : bits .and .i64 ((key : Int) / 2 ^ lv) 1 = if key.testBit lv = true then 1 else 0 := by
  have e : (key : Int) / 2 ^ lv = ((key / 2 ^ lv : Nat) : Int) := by simp
  have hl : key / 2 ^ lv ≤ key := Nat.div_le_self _ _
  rw [e, show (1 : Int) = ((1 : Nat) : Int) from rfl, i64_and_nat _ _ (by omega) (by omega)]
  have : key / 2 ^ lv &&& 1 = if key.testBit lv = true then 1 else 0 := by
    rw [Nat.and_one_is_mod, Nat.testBit_eq_decide_div_mod_eq]
    simp only [decide_eq_true_eq]
    split <;> omega
  rw [this]
  split <;> rfl
theorem leafSum_spec (k v : Int) (w : World) :
    Calls Tryz.prog 121 #[.int .i64 k, .int .i64 v] w fun e w' => e = .returned (.int .i64 (leafS k v)) ∧ Below w.heap.size w w' := by
  cases hk : inB k 0 31
  · have HV := hide (show leafS k v = -1 by simp [leafS, hk])
    go_enter Tryz.func121, Tryz.ntmps121
    go_wp2_with fail
    refine (l1In_any k _ _ _).mono ?_
    rintro e w' ⟨rfl, rfl⟩
    rw [hk]
    go_wp2
    go_ret
    exact ⟨reti (unhide HV).symm, Below.refl _ _⟩
  · cases hv : inB v 0 1000000
    · have HV := hide (show leafS k v = -1 by simp [leafS, hv])
      go_enter Tryz.func121, Tryz.ntmps121
      go_wp2_with fail
      refine (l1In_any k _ _ _).mono ?_
      rintro e w' ⟨rfl, rfl⟩
      rw [hk]
      go_wp2_with fail
      refine (l1In_any v _ _ _).mono ?_
      rintro e w' ⟨rfl, rfl⟩
      rw [hv]
      go_wp2
      go_ret
      exact ⟨reti (unhide HV).symm, Below.refl _ _⟩
    · have HV := hide (show leafS k v = sumF 1 [k, v] by simp [leafS, hv, hk])
      have HS := hide (show summed [k, v] = true by
        have h1 := inB_true.1 hk
        have h2 := inB_true.1 hv
        have e1 : inB k 0 2000000 = true := inB_true.2 (by omega)
        have e2 : inB v 0 2000000 = true := inB_true.2 (by omega)
        simp [summed, e1, e2])
      go_enter Tryz.func121, Tryz.ntmps121
      go_wp2_with fail
      refine (l1In_any k _ _ _).mono ?_
      rintro e w' ⟨rfl, rfl⟩
      rw [hk]
      go_wp2_with fail
      refine (l1In_any v _ _ _).mono ?_
      rintro e w' ⟨rfl, rfl⟩
      rw [hv]
      go_wp2_with fail
      refine (l1Sum_any 1 (some ⟨w.heap.size, 0, none⟩) 2 [k, v] _ (rd_lit w [.int .i64 k, .int .i64 v] 3) (by simp) rfl (unhide HS)).mono ?_
      rintro e w' ⟨rfl, rfl⟩
      go_wp2
      go_ret
      exact ⟨reti (unhide HV).symm, (Below.refl _ _).alloc (Nat.le_refl _) _⟩
theorem l3Node_any (a b : Int) (w : World) (h : summed [a, b] = true) :
    Calls Tryz.prog 122 #[.int .i64 a, .int .i64 b] w fun e w' => e = .returned (.int .i64 (nodeS a b)) ∧ Below w.heap.size w w' := by
  have HS := hide h
  clear h
  go_enter Tryz.func122, Tryz.ntmps122
  go_wp2_with fail
  refine (l1Sum_any 2 (some ⟨w.heap.size, 0, none⟩) 2 [a, b] _ (rd_lit w [.int .i64 a, .int .i64 b] 3) (by simp) rfl (unhide HS)).mono ?_
  rintro e w' ⟨rfl, rfl⟩
  go_wp2
  go_ret
  exact ⟨rfl, (Below.refl _ _).alloc (Nat.le_refl _) _⟩
set_option maxHeartbeats 1000000 in
theorem blockValid_impl (x : Bk) (A : Option Addr) (c : Nat) (w : World) (h : Rd w A (x.list.flatMap encA)) (hb : x.list.length ≤ 4611686018427387904) :
    Calls Tryz.prog 116 #[.agg #[.int .i64 x.before, .int .i64 x.height, .int .i64 x.view, .slice A x.list.length c, .int .i64 x.root, .int .i64 x.eff]] w fun e w' => e = .returned (.bool (blkB x)) ∧ Below w.heap.size w w' := by
  have HB := hide (show blkB x = (inB x.before 0 1000002 && (inB x.root 0 1000002 && (inB x.eff 0 1000002 && (inB x.height 0 100 && (inB x.view 0 1000 && actsB x.list))))) from rfl)
  have hb1 : Below w.heap.size w (w.alloc (.cells #[.int .i64 x.before, .int .i64 x.height, .int .i64 x.view, .slice A x.list.length c, .int .i64 x.root, .int .i64 x.eff] 69)) := (Below.refl _ _).alloc (Nat.le_refl _) _
  have hr := h.new hb1
  cases e1 : inB x.before 0 1000002
  all_goals cases e2 : inB x.root 0 1000002
  all_goals cases e3 : inB x.eff 0 1000002
  all_goals cases e4 : inB x.height 0 100
  all_goals cases e5 : inB x.view 0 1000
  all_goals
    go_enter Tryz.func116, Tryz.ntmps116
    go_wp2_with (first | (go_at_call 140; refine (isSum_any _  _).mono ?_; rintro e w' ⟨rfl, rfl⟩) | (go_at_call 80; refine (in_any _ _ _ _).mono ?_; rintro e w' ⟨rfl, rfl⟩) | (go_at_call 141; refine (isView_any _  _).mono ?_; rintro e w' ⟨rfl, rfl⟩))
    first
      | (go_ret; exact ⟨retb (by rw [unhide HB, e1, e2, e3, e4, e5]; rfl), hb1⟩)
      | (refine (actionsValid_impl A c x.list _ hr hb).mono ?_
         rintro e w2 ⟨rfl, b2⟩
         go_wp2
         go_ret
         exact ⟨retb (by rw [unhide HB, e1, e2, e3, e4, e5]; rfl), bthen hb1 b2⟩)
set_option maxHeartbeats 1000000 in
theorem blockValid_spec (x : Bk) (A : Option Addr) (c : Nat) (w : World) (h : Rd w A (x.list.flatMap encA)) (hb : x.list.length ≤ 4611686018427387904) :
    Calls Tryz.prog 71 #[.agg #[.int .i64 x.before, .int .i64 x.height, .int .i64 x.view, .slice A x.list.length c, .int .i64 x.root, .int .i64 x.eff]] w fun e w' => e = .returned (.bool (blkB x)) ∧ Below w.heap.size w w' := by
  have HB := hide (show blkB x = (inB x.before 0 1000002 && (inB x.root 0 1000002 && (inB x.eff 0 1000002 && (inB x.height 0 100 && (inB x.view 0 1000 && actsB x.list))))) from rfl)
  have hb1 : Below w.heap.size w (w.alloc (.cells #[.int .i64 x.before, .int .i64 x.height, .int .i64 x.view, .slice A x.list.length c, .int .i64 x.root, .int .i64 x.eff] 69)) := (Below.refl _ _).alloc (Nat.le_refl _) _
  have hr := h.new hb1
  cases e1 : inB x.before 0 1000002
  all_goals cases e2 : inB x.root 0 1000002
  all_goals cases e3 : inB x.eff 0 1000002
  all_goals cases e4 : inB x.height 0 100
  all_goals cases e5 : inB x.view 0 1000
  all_goals
    go_enter Tryz.func71, Tryz.ntmps71
    go_wp2_with (first | (go_at_call 52; refine (l1In_any _ _ _ _).mono ?_; rintro e w' ⟨rfl, rfl⟩) | (go_at_call 52; refine (l1In_any _ _ _ _).mono ?_; rintro e w' ⟨rfl, rfl⟩) | (go_at_call 52; refine (l1In_any _ _ _ _).mono ?_; rintro e w' ⟨rfl, rfl⟩))
    first
      | (go_ret; exact ⟨retb (by rw [unhide HB, e1, e2, e3, e4, e5]; rfl), hb1⟩)
      | (refine (actionsValid_spec A c x.list _ hr hb).mono ?_
         rintro e w2 ⟨rfl, b2⟩
         go_wp2
         go_ret
         exact ⟨retb (by rw [unhide HB, e1, e2, e3, e4, e5]; rfl), bthen hb1 b2⟩)
end Go.Proofs.YtmpdopjailomlaaGreat
