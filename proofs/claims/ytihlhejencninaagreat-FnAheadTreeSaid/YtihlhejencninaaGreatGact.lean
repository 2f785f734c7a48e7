/- Action: slices of a struct of 4 integers in memory; the laws' helpers over them. Actions: ActionValid of impl and spec. slices.IndexFunc, ContainsFunc at []int; CountersValid. Sums of numbers. Slices of actions: IndexFunc, ContainsFunc, ActionsValid, sameActions. sameStore of the laws. -/
import Derived.Test.YtihlhejencninaaGreatGint
import Derived.StillTailTactics
import Derived.Laws.StructEq
namespace Go.Proofs.YtihlhejencninaaGreat
open Go.RowKit
set_option linter.unusedVariables false
set_option linter.unusedSimpArgs false

structure Act where
 kind : Int
 src : Int
 dst : Int
 amt : Int
deriving DecidableEq
def encA (e : Act) : List Value := [.int .i64 e.kind, .int .i64 e.src, .int .i64 e.dst, .int .i64 e.amt]
theorem Rd.act {w : World} {A : Option Addr} {es : List Act} (h : Rd w A (es.flatMap encA)) {k : Nat} (hk : k < es.length) :
   ∃ b off, A = some ⟨b, off, none⟩ ∧ b < w.heap.size ∧ w.cell? ⟨b, off + k * 4, none⟩ = some (.int .i64 es[k].kind) ∧ w.cell? ⟨b, off + k * 4 + 1, none⟩ = some (.int .i64 es[k].src) ∧ w.cell? ⟨b, off + k * 4 + 2, none⟩ = some (.int .i64 es[k].dst) ∧ w.cell? ⟨b, off + k * 4 + 3, none⟩ = some (.int .i64 es[k].amt) := by
 obtain ⟨b, off, e, hb, hc⟩ := h.flat encA 4 (fun _ => rfl) (by omega) hk
 exact ⟨b, off, e, hb, hc 0 _ rfl, hc 1 _ rfl, hc 2 _ rfl, hc 3 _ rfl⟩
theorem info_act : (Tryz.prog.info? 56).map (fun i => (i.zero, i.size, i.bytes)) = some (some (.agg #[.int .i64 0, .int .i64 0, .int .i64 0, .int .i64 0]), 4, 32) := by kernel_rfl
end Go.Proofs.YtihlhejencninaaGreat
namespace Go.Proofs.YtihlhejencninaaGreat
open Go.RowKit
set_option linter.unusedVariables false
set_option linter.unusedSimpArgs false

def actK (a : Act) : Bool := if a.kind == 1 then a.dst == 0 else if a.kind == 6 then a.dst == 0 else if a.kind == 3 then a.amt == 0 else if a.kind == 4 then a.amt == 0 else if a.kind == 5 then a.amt == 0 else a.kind == 2
/-- a valid action -/
def actB (a : Act) : Bool := inB a.src 0 31 && (inB a.dst 0 31 && (inB a.amt 0 1000000 && actK a))
theorem actionValid_impl (x : Act) (w : World) :
   Calls Tryz.prog 63 #[.agg #[.int .i64 x.kind, .int .i64 x.src, .int .i64 x.dst, .int .i64 x.amt]] w fun e w' => e = .returned (.bool (actB x)) ∧ Below w.heap.size w w' := by
 cases h1 : inB x.src 0 31
 · have H := hide (show actB x = false by simp [actB, h1])
   go_enter Tryz.func63, Tryz.ntmps63
   go_wp2_with (go_at_call 110; refine (isKey_any _ _).mono ?_; rintro e w' ⟨rfl, rfl⟩)
   go_ret
   exact ⟨retb (unhide H).symm, (Below.refl _ _).alloc (Nat.le_refl _) _⟩
 · cases h2 : inB x.dst 0 31
   · have H := hide (show actB x = false by simp [actB, h2])
     go_enter Tryz.func63, Tryz.ntmps63
     go_wp2_with (go_at_call 110; refine (isKey_any _ _).mono ?_; rintro e w' ⟨rfl, rfl⟩)
     go_ret
     exact ⟨retb (unhide H).symm, (Below.refl _ _).alloc (Nat.le_refl _) _⟩
   · cases h3 : inB x.amt 0 1000000
     · have H := hide (show actB x = false by simp [actB, h3])
       go_enter Tryz.func63, Tryz.ntmps63
       go_wp2_with (first | (go_at_call 110; refine (isKey_any _ _).mono ?_; rintro e w' ⟨rfl, rfl⟩) | (go_at_call 111; refine (isValue_any _ _).mono ?_; rintro e w' ⟨rfl, rfl⟩))
       go_ret
       exact ⟨retb (unhide H).symm, (Below.refl _ _).alloc (Nat.le_refl _) _⟩
     · have H := hide (show actB x = actK x by simp [actB, h1, h2, h3])
       cases k1 : (x.kind == 1)
       · cases k6 : (x.kind == 6)
         · cases k3 : (x.kind == 3)
           · cases k4 : (x.kind == 4)
             · cases k5 : (x.kind == 5)
               · have H2 := hide (show actK x = (x.kind == 2) by simp [actK, k1, k6, k3, k4, k5])
                 cases k2 : (x.kind == 2)
                 all_goals
                   go_enter Tryz.func63, Tryz.ntmps63
                   go_wp2_with (first | (go_at_call 110; refine (isKey_any _ _).mono ?_; rintro e w' ⟨rfl, rfl⟩) | (go_at_call 111; refine (isValue_any _ _).mono ?_; rintro e w' ⟨rfl, rfl⟩))
                   go_ret
                   exact ⟨retb (by rw [unhide H, unhide H2, k2]), (Below.refl _ _).alloc (Nat.le_refl _) _⟩
               · have H2 := hide (show actK x = (x.amt == 0) by simp [actK, k1, k6, k3, k4, k5])
                 go_enter Tryz.func63, Tryz.ntmps63
                 have k2 : (x.kind == 2) = false := by rw [beq_iff_eq] at k5; rw [k5]; rfl
                 go_wp2_with (first | (go_at_call 110; refine (isKey_any _ _).mono ?_; rintro e w' ⟨rfl, rfl⟩) | (go_at_call 111; refine (isValue_any _ _).mono ?_; rintro e w' ⟨rfl, rfl⟩))
                 go_ret
                 exact ⟨retb (by rw [unhide H, unhide H2]), (Below.refl _ _).alloc (Nat.le_refl _) _⟩
             · have H2 := hide (show actK x = (x.amt == 0) by simp [actK, k1, k6, k3, k4])
               have k2 : (x.kind == 2) = false := by rw [beq_iff_eq] at k4; rw [k4]; rfl
               go_enter Tryz.func63, Tryz.ntmps63
               go_wp2_with (first | (go_at_call 110; refine (isKey_any _ _).mono ?_; rintro e w' ⟨rfl, rfl⟩) | (go_at_call 111; refine (isValue_any _ _).mono ?_; rintro e w' ⟨rfl, rfl⟩))
               go_ret
               exact ⟨retb (by rw [unhide H, unhide H2]), (Below.refl _ _).alloc (Nat.le_refl _) _⟩
           · have H2 := hide (show actK x = (x.amt == 0) by simp [actK, k1, k6, k3])
             have k2 : (x.kind == 2) = false := by rw [beq_iff_eq] at k3; rw [k3]; rfl
             go_enter Tryz.func63, Tryz.ntmps63
             go_wp2_with (first | (go_at_call 110; refine (isKey_any _ _).mono ?_; rintro e w' ⟨rfl, rfl⟩) | (go_at_call 111; refine (isValue_any _ _).mono ?_; rintro e w' ⟨rfl, rfl⟩))
             go_ret
             exact ⟨retb (by rw [unhide H, unhide H2]), (Below.refl _ _).alloc (Nat.le_refl _) _⟩
         · have H2 := hide (show actK x = (x.dst == 0) by simp [actK, k1, k6])
           go_enter Tryz.func63, Tryz.ntmps63
           go_wp2_with (first | (go_at_call 110; refine (isKey_any _ _).mono ?_; rintro e w' ⟨rfl, rfl⟩) | (go_at_call 111; refine (isValue_any _ _).mono ?_; rintro e w' ⟨rfl, rfl⟩))
           go_ret
           exact ⟨retb (by rw [unhide H, unhide H2]), (Below.refl _ _).alloc (Nat.le_refl _) _⟩
       · have H2 := hide (show actK x = (x.dst == 0) by simp [actK, k1])
         go_enter Tryz.func63, Tryz.ntmps63
         go_wp2_with (first | (go_at_call 110; refine (isKey_any _ _).mono ?_; rintro e w' ⟨rfl, rfl⟩) | (go_at_call 111; refine (isValue_any _ _).mono ?_; rintro e w' ⟨rfl, rfl⟩))
         go_ret
         exact ⟨retb (by rw [unhide H, unhide H2]), (Below.refl _ _).alloc (Nat.le_refl _) _⟩
theorem actionValid_spec (x : Act) (w : World) :
   Calls Tryz.prog 115 #[.agg #[.int .i64 x.kind, .int .i64 x.src, .int .i64 x.dst, .int .i64 x.amt]] w fun e w' => e = .returned (.bool (actB x)) ∧ Below w.heap.size w w' := by
 cases h1 : inB x.src 0 31
 · have H := hide (show actB x = false by simp [actB, h1])
   go_enter Tryz.func115, Tryz.ntmps115
   go_wp2_with (go_at_call 93; refine (l1In_any _ _ _ _).mono ?_; rintro e w' ⟨rfl, rfl⟩)
   go_ret
   exact ⟨retb (unhide H).symm, (Below.refl _ _).alloc (Nat.le_refl _) _⟩
 · cases h2 : inB x.dst 0 31
   · have H := hide (show actB x = false by simp [actB, h2])
     go_enter Tryz.func115, Tryz.ntmps115
     go_wp2_with (go_at_call 93; refine (l1In_any _ _ _ _).mono ?_; rintro e w' ⟨rfl, rfl⟩)
     go_ret
     exact ⟨retb (unhide H).symm, (Below.refl _ _).alloc (Nat.le_refl _) _⟩
   · cases h3 : inB x.amt 0 1000000
     · have H := hide (show actB x = false by simp [actB, h3])
       go_enter Tryz.func115, Tryz.ntmps115
       go_wp2_with (first | (go_at_call 93; refine (l1In_any _ _ _ _).mono ?_; rintro e w' ⟨rfl, rfl⟩) | (go_at_call 93; refine (l1In_any _ _ _ _).mono ?_; rintro e w' ⟨rfl, rfl⟩))
       go_ret
       exact ⟨retb (unhide H).symm, (Below.refl _ _).alloc (Nat.le_refl _) _⟩
     · have H := hide (show actB x = actK x by simp [actB, h1, h2, h3])
       cases k1 : (x.kind == 1)
       · cases k6 : (x.kind == 6)
         · cases k3 : (x.kind == 3)
           · cases k4 : (x.kind == 4)
             · cases k5 : (x.kind == 5)
               · have H2 := hide (show actK x = (x.kind == 2) by simp [actK, k1, k6, k3, k4, k5])
                 cases k2 : (x.kind == 2)
                 all_goals
                   go_enter Tryz.func115, Tryz.ntmps115
                   go_wp2_with (first | (go_at_call 93; refine (l1In_any _ _ _ _).mono ?_; rintro e w' ⟨rfl, rfl⟩) | (go_at_call 93; refine (l1In_any _ _ _ _).mono ?_; rintro e w' ⟨rfl, rfl⟩))
                   go_ret
                   exact ⟨retb (by rw [unhide H, unhide H2, k2]), (Below.refl _ _).alloc (Nat.le_refl _) _⟩
               · have H2 := hide (show actK x = (x.amt == 0) by simp [actK, k1, k6, k3, k4, k5])
                 go_enter Tryz.func115, Tryz.ntmps115
                 have k2 : (x.kind == 2) = false := by rw [beq_iff_eq] at k5; rw [k5]; rfl
                 go_wp2_with (first | (go_at_call 93; refine (l1In_any _ _ _ _).mono ?_; rintro e w' ⟨rfl, rfl⟩) | (go_at_call 93; refine (l1In_any _ _ _ _).mono ?_; rintro e w' ⟨rfl, rfl⟩))
                 go_ret
                 exact ⟨retb (by rw [unhide H, unhide H2]), (Below.refl _ _).alloc (Nat.le_refl _) _⟩
             · have H2 := hide (show actK x = (x.amt == 0) by simp [actK, k1, k6, k3, k4])
               have k2 : (x.kind == 2) = false := by rw [beq_iff_eq] at k4; rw [k4]; rfl
               go_enter Tryz.func115, Tryz.ntmps115
               go_wp2_with (first | (go_at_call 93; refine (l1In_any _ _ _ _).mono ?_; rintro e w' ⟨rfl, rfl⟩) | (go_at_call 93; refine (l1In_any _ _ _ _).mono ?_; rintro e w' ⟨rfl, rfl⟩))
               go_ret
               exact ⟨retb (by rw [unhide H, unhide H2]), (Below.refl _ _).alloc (Nat.le_refl _) _⟩
           · have H2 := hide (show actK x = (x.amt == 0) by simp [actK, k1, k6, k3])
             have k2 : (x.kind == 2) = false := by rw [beq_iff_eq] at k3; rw [k3]; rfl
             go_enter Tryz.func115, Tryz.ntmps115
             go_wp2_with (first | (go_at_call 93; refine (l1In_any _ _ _ _).mono ?_; rintro e w' ⟨rfl, rfl⟩) | (go_at_call 93; refine (l1In_any _ _ _ _).mono ?_; rintro e w' ⟨rfl, rfl⟩))
             go_ret
             exact ⟨retb (by rw [unhide H, unhide H2]), (Below.refl _ _).alloc (Nat.le_refl _) _⟩
         · have H2 := hide (show actK x = (x.dst == 0) by simp [actK, k1, k6])
           go_enter Tryz.func115, Tryz.ntmps115
           go_wp2_with (first | (go_at_call 93; refine (l1In_any _ _ _ _).mono ?_; rintro e w' ⟨rfl, rfl⟩) | (go_at_call 93; refine (l1In_any _ _ _ _).mono ?_; rintro e w' ⟨rfl, rfl⟩))
           go_ret
           exact ⟨retb (by rw [unhide H, unhide H2]), (Below.refl _ _).alloc (Nat.le_refl _) _⟩
       · have H2 := hide (show actK x = (x.dst == 0) by simp [actK, k1])
         go_enter Tryz.func115, Tryz.ntmps115
         go_wp2_with (first | (go_at_call 93; refine (l1In_any _ _ _ _).mono ?_; rintro e w' ⟨rfl, rfl⟩) | (go_at_call 93; refine (l1In_any _ _ _ _).mono ?_; rintro e w' ⟨rfl, rfl⟩))
         go_ret
         exact ⟨retb (by rw [unhide H, unhide H2]), (Below.refl _ _).alloc (Nat.le_refl _) _⟩
end Go.Proofs.YtihlhejencninaaGreat
namespace Go.Proofs.YtihlhejencninaaGreat
open Go.RowKit
set_option linter.unusedVariables false
set_option linter.unusedSimpArgs false

/-- where the first one is that p takes; -1 for none -/
def idxOf {α : Type} (p : α → Bool) (xs : List α) : Int := match xs.findIdx? p with | some i => (i : Int) | none => -1
theorem idxOf_none {α : Type} {p : α → Bool} {xs : List α} (h : ∀ j (hj : j < xs.length), p xs[j] = false) : idxOf p xs = -1 := by
 have : xs.findIdx? p = none := by
   rw [List.findIdx?_eq_none_iff]
   intro x hx
   obtain ⟨j, hj, rfl⟩ := List.getElem_of_mem hx
   exact h j hj
 simp [idxOf, this]
theorem idxOf_some {α : Type} {p : α → Bool} {xs : List α} {k : Nat} (hk : k < xs.length) (hp : p xs[k] = true) (h : ∀ j (hj : j < xs.length), j < k → p xs[j] = false) : idxOf p xs = k := by
 have : xs.findIdx? p = some k := by
   rw [List.findIdx?_eq_some_iff_getElem]
   exact ⟨hk, hp, fun j hj => by simpa using h j (by omega) hj⟩
 simp [idxOf, this]
theorem idxOf_any {α : Type} (p : α → Bool) (xs : List α) : decide (0 ≤ idxOf p xs) = xs.any p := by
 unfold idxOf
 rcases h : xs.findIdx? p with _ | i
 · rw [List.findIdx?_eq_none_iff] at h
   symm
   rw [show xs.any p = false from by simpa using h]
   rfl
 · obtain ⟨hi, hp, _⟩ := List.findIdx?_eq_some_iff_getElem.1 h
   have : xs.any p = true := List.any_eq_true.2 ⟨_, List.getElem_mem hi, hp⟩
   rw [this]
   simp
theorem indexFuncI_any (A : Option Addr) (c F : Nat) (p : Int → Bool) (hF : ∀ args w, (callFunc F args).run Tryz.prog w = .ok (.enter F args) w) (hp : ∀ x W, Calls Tryz.prog F #[.int .i64 x] W fun e W' => e = .returned (.bool (p x)) ∧ W = W') (xs : List Int) (w : World) (h : Rd w A (xs.map (.int .i64))) (hb : xs.length ≤ 4611686018427387904) :
   Calls Tryz.prog 154 #[.slice A xs.length c, .func (.func F) #[] #[]] w fun e w' => e = .returned (.int .i64 (idxOf p xs)) ∧ w = w' := by
 have HP := hide hp
 clear hp
 go_enter Tryz.func154, Tryz.ntmps154
 go_wp2
 go_loop [5, 8] (fun _ i => ∃ k : Nat, k ≤ xs.length ∧ i = .int .i64 k ∧ ∀ j (h1 : j < xs.length), j < k → p xs[j] = false) (fun _ i => xs.length - (intOf i).toNat)
 case atStart => exact ⟨0, Nat.zero_le _, rfl, fun j _ h => absurd h (by omega)⟩
 case round =>
   obtain ⟨k, hk, rfl, hn⟩ := hrel
   have HN := hide hn
   clear hn
   by_cases hlt : k < xs.length
   · obtain ⟨b, off, rfl, hbb, hc⟩ := h.int hlt
     generalize hxk : xs[k] = xk at *
     have HX := hide hxk
     clear hxk
     cases hpx : p xk
     · have HPX := hide hpx
       clear hpx
       go_wp2_with fail
       refine (unhide HP _ _).mono ?_
       rintro e w' ⟨rfl, rfl⟩
       rw [unhide HPX]
       go_wp2
       go_round
       case rel =>
         refine ⟨k + 1, by omega, by go_num, fun j h1 h2 => ?_⟩
         rcases Nat.lt_or_ge j k with h3 | h3
         · exact unhide HN j h1 h3
         · have : j = k := by omega
           subst this
           rw [unhide HX]
           exact unhide HPX
       case measure => simp [intOf]; omega
     · have HPX := hide hpx
       clear hpx
       go_wp2_with fail
       refine (unhide HP _ _).mono ?_
       rintro e w' ⟨rfl, rfl⟩
       rw [unhide HPX]
       go_wp2
       go_ret
       exact ⟨reti (idxOf_some hlt (by rw [unhide HX]; exact unhide HPX) (unhide HN)).symm, rfl⟩
   · go_wp2
     go_ret
     exact ⟨reti (idxOf_none fun j hj => unhide HN j hj (by omega)).symm, rfl⟩
theorem containsFuncI_any (A : Option Addr) (c F : Nat) (p : Int → Bool) (hF : ∀ args w, (callFunc F args).run Tryz.prog w = .ok (.enter F args) w) (hp : ∀ x W, Calls Tryz.prog F #[.int .i64 x] W fun e W' => e = .returned (.bool (p x)) ∧ W = W') (xs : List Int) (w : World) (h : Rd w A (xs.map (.int .i64))) (hb : xs.length ≤ 4611686018427387904) :
   Calls Tryz.prog 106 #[.slice A xs.length c, .func (.func F) #[] #[]] w fun e w' => e = .returned (.bool (xs.any p)) ∧ w = w' := by
 have HP := hide hp
 clear hp
 have HI := hide (idxOf_any p xs)
 go_enter Tryz.func106, Tryz.ntmps106
 go_wp2_with fail
 refine (indexFuncI_any A c F p hF (unhide HP) xs w h hb).mono ?_
 rintro e w' ⟨rfl, rfl⟩
 go_wp2
 go_ret
 exact ⟨retb (unhide HI), rfl⟩

end Go.Proofs.YtihlhejencninaaGreat
namespace Go.Proofs.YtihlhejencninaaGreat
open Go.RowKit
set_option linter.unusedVariables false
set_option linter.unusedSimpArgs false

def sumStep (s n : Int) : Int := (31 * s + n + 7) % 1000003
theorem sumStep_bd (s n : Int) : 0 ≤ sumStep s n ∧ sumStep s n ≤ 1000002 := by unfold sumStep; omega
def summed (xs : List Int) : Bool := !xs.any fun n => !inB n 0 2000000
def sumF (tag : Int) (xs : List Int) : Int := if inB tag 0 9 && summed xs then xs.foldl sumStep (17 + tag) else -1
theorem sumF_no {tag : Int} {xs : List Int} (h : inB tag 0 9 = false ∨ summed xs = false) : sumF tag xs = -1 := by
 unfold sumF; rw [if_neg]; rcases h with h | h <;> simp [h]
theorem sumF_yes {tag : Int} {xs : List Int} (h : inB tag 0 9 = true) (h' : summed xs = true) : sumF tag xs = xs.foldl sumStep (17 + tag) := by
 unfold sumF; rw [if_pos (by simp [h, h'])]
theorem summed_get {xs : List Int} (h : summed xs = true) {k : Nat} (hk : k < xs.length) : 0 ≤ xs[k] ∧ xs[k] ≤ 2000000 := by
 unfold summed at h
 simp only [Bool.not_eq_true', List.any_eq_false, Bool.not_eq_true, Bool.not_eq_false'] at h
 exact inB_true.1 (by have := h _ (List.getElem_mem hk); simpa using this)
theorem sums_bd (xs : List Int) (s : Int) (h : 0 ≤ s ∧ s ≤ 1000002) : 0 ≤ xs.foldl sumStep s ∧ xs.foldl sumStep s ≤ 1000002 := by
 induction xs generalizing s with
 | nil => exact h
 | cons x xs ih => exact ih _ (sumStep_bd s x)
theorem sumF_bd (tag : Int) (xs : List Int) : -1 ≤ sumF tag xs ∧ sumF tag xs ≤ 1000002 := by
 unfold sumF
 split
 · rename_i h
   simp only [Bool.and_eq_true] at h
   have := inB_true.1 h.1
   have := sums_bd xs (17 + tag) (by omega)
   omega
 · omega

theorem more_any (s n : Int) (w : World) (h1 : 0 ≤ s) (h2 : s ≤ 1000002) (h3 : 0 ≤ n) (h4 : n ≤ 2000000) :
   Calls Tryz.prog 109 #[.int .i64 s, .int .i64 n] w fun e w' => e = .returned (.int .i64 (sumStep s n)) ∧ w = w' := by
 go_enter Tryz.func109, Tryz.ntmps109
 go_wp2
 go_ret
 exact ⟨rfl, rfl⟩
theorem sumClosure (x : Int) (W : World) : Calls Tryz.prog 107 #[.int .i64 x] W fun e W' => e = .returned (.bool (!inB x 0 2000000)) ∧ W = W' := by
 go_enter Tryz.func107, Tryz.ntmps107
 go_wp2_with (go_at_call 108; refine (isSummed_any _ _).mono ?_; rintro e w' ⟨rfl, rfl⟩)
 all_goals go_ret
 all_goals exact ⟨rfl, rfl⟩
theorem sum_impl (tag : Int) (A : Option Addr) (c : Nat) (xs : List Int) (w : World) (h : Rd w A (xs.map (.int .i64))) (hb : xs.length ≤ 4611686018427387904) :
   Calls Tryz.prog 60 #[.int .i64 tag, .slice A xs.length c] w fun e w' => e = .returned (.int .i64 (sumF tag xs)) ∧ w = w' := by
 cases ht : inB tag 0 9
 · go_enter Tryz.func60, Tryz.ntmps60
   go_wp2_with (go_at_call 98; refine (in_any _ _ _ _).mono ?_; rintro e w' ⟨rfl, rfl⟩)
   go_ret
   exact ⟨reti (sumF_no (.inl ht)).symm, rfl⟩
 · have htb := inB_true.1 ht
   cases hs : summed xs
   · have HS := hide (show (xs.any fun n => !inB n 0 2000000) = true by simpa [summed] using hs)
     have HR := hide (sumF_no (tag := tag) (.inr hs))
     clear hs
     go_enter Tryz.func60, Tryz.ntmps60
     go_wp2_with (first | (go_at_call 98; refine (in_any _ _ _ _).mono ?_; rintro e w' ⟨rfl, rfl⟩) | (go_at_call 106; refine (containsFuncI_any A c 107 _ Tryz.call107 sumClosure xs w h hb).mono ?_; rintro e w' ⟨rfl, rfl⟩; rw [unhide HS]))
     go_ret
     exact ⟨reti (unhide HR).symm, rfl⟩
   · have HS := hide (show (xs.any fun n => !inB n 0 2000000) = false by simpa [summed] using hs)
     have HR := hide (sumF_yes ht hs)
     have HG := hide hs
     clear hs
     go_enter Tryz.func60, Tryz.ntmps60
     go_wp2_with (first | (go_at_call 98; refine (in_any _ _ _ _).mono ?_; rintro e w' ⟨rfl, rfl⟩) | (go_at_call 106; refine (containsFuncI_any A c 107 _ Tryz.call107 sumClosure xs w h hb).mono ?_; rintro e w' ⟨rfl, rfl⟩; rw [unhide HS]))
     go_loop [5, 7, 19] (fun s _ i => ∃ (k : Nat) (z : Int), k ≤ xs.length ∧ i = .int .i64 k ∧ s = .int .i64 z ∧ 0 ≤ z ∧ z ≤ 1000002 ∧ xs.foldl sumStep (17 + tag) = (xs.drop k).foldl sumStep z) (fun _ _ i => xs.length - (intOf i).toNat)
     case atStart => exact ⟨0, 17 + tag, Nat.zero_le _, rfl, rfl, by omega, by omega, rfl⟩
     case round =>
       obtain ⟨k, z, hk, rfl, rfl, hz1, hz2, hz⟩ := hrel
       by_cases hlt : k < xs.length
       · obtain ⟨b, off, rfl, hbb, hc⟩ := h.int hlt
         obtain ⟨x1, x2⟩ := summed_get (unhide HG) hlt
         rw [drop_get xs k hlt, List.foldl_cons] at hz
         generalize hxk : xs[k] = xk at *
         clear hxk
         have hst := sumStep_bd z xk
         have HZ := hide hz
         clear hz
         go_wp2_with (go_at_call 109; refine (more_any _ _ _ (by omega) (by omega) (by omega) (by omega)).mono ?_; rintro e w' ⟨rfl, rfl⟩)
         go_round
         case rel => exact ⟨k + 1, _, by omega, by go_num, rfl, hst.1, hst.2, unhide HZ⟩
         case measure => simp [intOf]; omega
       · have hz' : xs.foldl sumStep (17 + tag) = z := by rw [hz, List.drop_of_length_le (by omega)]; rfl
         clear hz
         have HZ := hide hz'
         clear hz'
         go_wp2
         go_ret
         exact ⟨reti ((unhide HR).trans (unhide HZ)).symm, rfl⟩
theorem l1Sum_any (tag : Int) (A : Option Addr) (c : Nat) (xs : List Int) (w : World) (h : Rd w A (xs.map (.int .i64))) (hb : xs.length ≤ 4611686018427387904) (ht : inB tag 0 9 = true) (hs : summed xs = true) :
   Calls Tryz.prog 151 #[.int .i64 tag, .slice A xs.length c] w fun e w' => e = .returned (.int .i64 (sumF tag xs)) ∧ w = w' := by
 have HR := hide (sumF_yes ht hs)
 have HG := hide hs
 have htb := inB_true.1 ht
 clear hs ht
 go_enter Tryz.func151, Tryz.ntmps151
 go_wp2
 go_loop [5, 6] (fun s i => ∃ (k : Nat) (z : Int), k ≤ xs.length ∧ i = .int .i64 k ∧ s = .int .i64 z ∧ 0 ≤ z ∧ z ≤ 1000002 ∧ xs.foldl sumStep (17 + tag) = (xs.drop k).foldl sumStep z) (fun _ i => xs.length - (intOf i).toNat)
 case atStart => exact ⟨0, 17 + tag, Nat.zero_le _, rfl, rfl, by omega, by omega, rfl⟩
 case round =>
   obtain ⟨k, z, hk, rfl, rfl, hz1, hz2, hz⟩ := hrel
   by_cases hlt : k < xs.length
   · obtain ⟨b, off, rfl, hbb, hc⟩ := h.int hlt
     obtain ⟨x1, x2⟩ := summed_get (unhide HG) hlt
     rw [drop_get xs k hlt, List.foldl_cons] at hz
     generalize hxk : xs[k] = xk at *
     clear hxk
     have hst := sumStep_bd z xk
     have HZ := hide hz
     clear hz
     go_wp2
     go_round
     case rel => exact ⟨k + 1, _, by omega, by go_num, rfl, hst.1, hst.2, unhide HZ⟩
     case measure => simp [intOf]; omega
   · have hz' : xs.foldl sumStep (17 + tag) = z := by rw [hz, List.drop_of_length_le (by omega)]; rfl
     clear hz
     have HZ := hide hz'
     clear hz'
     go_wp2
     go_ret
     exact ⟨reti ((unhide HR).trans (unhide HZ)).symm, rfl⟩
theorem alive_any (w : World) : Calls Tryz.prog 22 #[] w fun e w' => e = .returned (.bool true) ∧ Below w.heap.size w w' := by
 go_enter Tryz.func22, Tryz.ntmps22
 go_wp2_with (go_at_call 60; refine (sum_impl 0 _ _ [] _ (Rd.nil _ _) (by simp)).mono ?_; rintro e w' ⟨rfl, rfl⟩; rw [show sumF 0 [] = 17 from rfl])
 go_ret
 exact ⟨rfl, (Below.refl _ _).alloc (Nat.le_refl _) _⟩
end Go.Proofs.YtihlhejencninaaGreat
namespace Go.Proofs.YtihlhejencninaaGreat
open Go.RowKit
set_option linter.unusedVariables false
set_option linter.unusedSimpArgs false

theorem indexFuncA_any (A : Option Addr) (c F : Nat) (p : Act → Bool) (hF : ∀ args w, (callFunc F args).run Tryz.prog w = .ok (.enter F args) w) (hp : ∀ (x : Act) W, Calls Tryz.prog F #[.agg #[.int .i64 x.kind, .int .i64 x.src, .int .i64 x.dst, .int .i64 x.amt]] W fun e W' => e = .returned (.bool (p x)) ∧ Below W.heap.size W W') (xs : List Act) (w : World) (h : Rd w A (xs.flatMap encA)) (hb : xs.length ≤ 4611686018427387904) :
   Calls Tryz.prog 162 #[.slice A xs.length c, .func (.func F) #[] #[]] w fun e w' => e = .returned (.int .i64 (idxOf p xs)) ∧ Below w.heap.size w w' := by
 have HP := hide hp
 clear hp
 go_enter Tryz.func162, Tryz.ntmps162
 go_wp2
 go_loopw [8] (fun i wr => ∃ k : Nat, k ≤ xs.length ∧ i = .int .i64 k ∧ (∀ j (h1 : j < xs.length), j < k → p xs[j] = false) ∧ Below w.heap.size w wr) (fun i _ => xs.length - (intOf i).toNat)
 case atStart => exact ⟨0, Nat.zero_le _, rfl, fun j _ h => absurd h (by omega), Below.refl _ _⟩
 case round =>
   obtain ⟨k, hk, rfl, hn, hB⟩ := hrel
   have HN := hide hn
   clear hn
   by_cases hlt : k < xs.length
   · obtain ⟨b, off, rfl, hbb, c0, c1, c2, c3⟩ := (h.new hB).act hlt
     generalize hxk : xs[k] = xk at *
     have HX := hide hxk
     clear hxk
     have i1 : (k : Int) < (xs.length : Int) := by omega
     cases hpx : p xk
     · have HPX := hide hpx
       clear hpx
       go_wp2_with fail
       refine (unhide HP xk _).mono ?_
       rintro e w1 ⟨rfl, b1⟩
       rw [unhide HPX]
       have hB1 := below_then hB b1 hB.size
       go_wp2
       go_roundw
       case rel =>
         refine ⟨k + 1, by omega, by go_num, fun j h1 h2 => ?_, hB1⟩
         rcases Nat.lt_or_ge j k with h3 | h3
         · exact unhide HN j h1 h3
         · have : j = k := by omega
           subst this
           rw [unhide HX]
           exact unhide HPX
       case measure => simp [intOf]; omega
     · have HPX := hide hpx
       clear hpx
       go_wp2_with fail
       refine (unhide HP xk _).mono ?_
       rintro e w1 ⟨rfl, b1⟩
       rw [unhide HPX]
       have hB1 := below_then hB b1 hB.size
       go_wp2
       go_ret
       exact ⟨reti (idxOf_some hlt (by rw [unhide HX]; exact unhide HPX) (unhide HN)).symm, hB1⟩
   · go_wp2
     go_ret
     exact ⟨reti (idxOf_none fun j hj => unhide HN j hj (by omega)).symm, hB⟩
theorem containsFuncA_any (A : Option Addr) (c F : Nat) (p : Act → Bool) (hF : ∀ args w, (callFunc F args).run Tryz.prog w = .ok (.enter F args) w) (hp : ∀ (x : Act) W, Calls Tryz.prog F #[.agg #[.int .i64 x.kind, .int .i64 x.src, .int .i64 x.dst, .int .i64 x.amt]] W fun e W' => e = .returned (.bool (p x)) ∧ Below W.heap.size W W') (xs : List Act) (w : World) (h : Rd w A (xs.flatMap encA)) (hb : xs.length ≤ 4611686018427387904) :
   Calls Tryz.prog 122 #[.slice A xs.length c, .func (.func F) #[] #[]] w fun e w' => e = .returned (.bool (xs.any p)) ∧ Below w.heap.size w w' := by
 have HP := hide hp
 clear hp
 have HI := hide (idxOf_any p xs)
 go_enter Tryz.func122, Tryz.ntmps122
 go_wp2_with fail
 refine (indexFuncA_any A c F p hF (unhide HP) xs w h hb).mono ?_
 rintro e w1 ⟨rfl, b1⟩
 go_wp2
 go_ret
 exact ⟨retb (unhide HI), b1⟩
/-- valid actions -/
def actsB (xs : List Act) : Bool := decide (xs.length ≤ 10) && xs.all actB
theorem actsB_yes {xs : List Act} (h : actsB xs = true) : xs.length ≤ 10 ∧ ∀ k (hk : k < xs.length), actB xs[k] = true := by
 simp only [actsB, Bool.and_eq_true, decide_eq_true_eq, List.all_eq_true] at h
 exact ⟨h.1, fun k hk => h.2 _ (List.getElem_mem hk)⟩
theorem all_any (xs : List Act) : xs.all actB = !xs.any fun x => !actB x := by
 induction xs with
 | nil => rfl
 | cons x xs ih => simp [ih, Bool.not_or]
theorem actionsClosure (x : Act) (W : World) : Calls Tryz.prog 123 #[.agg #[.int .i64 x.kind, .int .i64 x.src, .int .i64 x.dst, .int .i64 x.amt]] W fun e W' => e = .returned (.bool (!actB x)) ∧ Below W.heap.size W W' := by
 go_enter Tryz.func123, Tryz.ntmps123
 go_wp2_with fail
 refine (actionValid_impl x _).mono ?_
 rintro e w1 ⟨rfl, b1⟩
 go_wp2
 go_ret
 exact ⟨rfl, ((Below.refl _ _).alloc (Nat.le_refl _) _).trans (b1.mono (by simp))⟩
theorem actionsValid_impl (A : Option Addr) (c : Nat) (xs : List Act) (w : World) (h : Rd w A (xs.flatMap encA)) (hb : xs.length ≤ 4611686018427387904) :
   Calls Tryz.prog 71 #[.slice A xs.length c] w fun e w' => e = .returned (.bool (actsB xs)) ∧ Below w.heap.size w w' := by
 by_cases hl : xs.length ≤ 10
 · have hd : decide ((xs.length : Int) ≤ 10) = true := by simp; omega
   have HC := hide (show actsB xs = !xs.any fun x => !actB x by rw [← all_any]; simp [actsB, hl])
   have hl2 : (xs.length : Int) ≤ 10 := by omega
   clear hl
   go_enter Tryz.func71, Tryz.ntmps71
   go_wp2_with fail
   refine (containsFuncA_any A c 123 _ Tryz.call123 actionsClosure xs w h hb).mono ?_
   rintro e w1 ⟨rfl, b1⟩
   go_wp2
   go_ret
   exact ⟨retb (unhide HC).symm, b1⟩
 · have hd : decide ((xs.length : Int) ≤ 10) = false := by simp; omega
   have hl2 : ¬ (xs.length : Int) ≤ 10 := by omega
   have HC := hide (show actsB xs = false by simp [actsB, hl])
   clear hl
   go_enter Tryz.func71, Tryz.ntmps71
   go_wp2
   go_ret
   exact ⟨retb (unhide HC).symm, Below.refl _ _⟩
theorem actionsValid_spec (A : Option Addr) (c : Nat) (xs : List Act) (w : World) (h : Rd w A (xs.flatMap encA)) (hb : xs.length ≤ 4611686018427387904) :
   Calls Tryz.prog 65 #[.slice A xs.length c] w fun e w' => e = .returned (.bool (actsB xs)) ∧ Below w.heap.size w w' := by
 go_enter Tryz.func65, Tryz.ntmps65
 go_wp2
 go_loopw [3] (fun i wr => ∃ k : Nat, k ≤ xs.length ∧ i = .int .i64 k ∧ (∀ j (h1 : j < xs.length), j < k → actB xs[j] = true) ∧ Below w.heap.size w wr) (fun i _ => xs.length - (intOf i).toNat)
 case atStart => exact ⟨0, Nat.zero_le _, rfl, fun j _ h => absurd h (by omega), Below.refl _ _⟩
 case round =>
   obtain ⟨k, hk, rfl, hn, hB⟩ := hrel
   have HN := hide hn
   clear hn
   by_cases hlt : k < xs.length
   · obtain ⟨b, off, rfl, hbb, c0, c1, c2, c3⟩ := (h.new hB).act hlt
     generalize hxk : xs[k] = x at *
     have HX := hide hxk
     clear hxk
     have i1 : (k : Int) < (xs.length : Int) := by omega
     cases hA : actB x
     · have HA := hide hA
       have HC := hide (show actsB xs = false by
         have h1 : xs.all actB = false := by rw [List.all_eq_false]; exact ⟨_, List.getElem_mem hlt, by rw [unhide HX, hA]; simp⟩
         simp [actsB, h1])
       clear hA
       go_wp2_with fail
       refine (actionValid_spec x _).mono ?_
       rintro e w1 ⟨rfl, b1⟩
       rw [unhide HA]
       have hB1 := below_then hB b1 hB.size
       go_wp2
       go_ret
       exact ⟨retb (unhide HC).symm, hB1⟩
     · have HA := hide hA
       clear hA
       go_wp2_with fail
       refine (actionValid_spec x _).mono ?_
       rintro e w1 ⟨rfl, b1⟩
       rw [unhide HA]
       have hB1 := below_then hB b1 hB.size
       go_wp2
       go_roundw
       case rel =>
         refine ⟨k + 1, by omega, by go_num, fun j h1 h2 => ?_, hB1⟩
         rcases Nat.lt_or_ge j k with h3 | h3
         · exact unhide HN j h1 h3
         · have : j = k := by omega
           subst this
           rw [unhide HX]
           exact unhide HA
       case measure => simp [intOf]; omega
   · have HC := hide (show actsB xs = decide ((xs.length : Int) ≤ 10) by
       have h1 : xs.all actB = true := by
         rw [List.all_eq_true]
         intro x hx
         obtain ⟨j, hj, rfl⟩ := List.getElem_of_mem hx
         exact unhide HN j hj (by omega)
       simp only [actsB, h1, Bool.and_true]
       by_cases h4 : xs.length ≤ 10 <;> simp [h4] <;> omega)
     go_wp2
     go_ret
     exact ⟨retb (unhide HC).symm, hB⟩
end Go.Proofs.YtihlhejencninaaGreat
namespace Go.Proofs.YtihlhejencninaaGreat
open Go.RowKit
set_option linter.unusedVariables false
set_option linter.unusedSimpArgs false

theorem hm_ent : Tryz.prog.eqGuardType Tryz.prog.depth 79 = false := by kernel_rfl
theorem hs_ent : Tryz.prog.stoodInHeld 79 = false := by kernel_rfl
theorem hS_ent : Tryz.prog.underlying 79 = some (.struct (Tryz.prog.fieldsOf 79)) := by kernel_rfl
theorem eqIn_ent (a b : Ent) (w : World) : (Op.equalIn 10000 79 (.agg #[.int .i64 a.k, .int .i64 a.v]) (.agg #[.int .i64 b.k, .int .i64 b.v])).run Tryz.prog w = .ok (decide (a = b)) w := by
 have h3 : Tryz.prog.underlying 3 = some (.int .i64) := Tryz.underlying3
 rw [show (10000 : Nat) = 9998 + 2 from rfl, run_equalIn_agg w _ _ _ _ hS_ent hs_ent]
 simp only [Program.fieldsOf, Tryz.underlying79]
 obtain ⟨a1, a2⟩ := a
 obtain ⟨b1, b2⟩ := b
 simp [go_sem, h3]
 by_cases h1 : a1 = b1 <;> by_cases h2 : a2 = b2 <;> simp [h1, h2]
end Go.Proofs.YtihlhejencninaaGreat
