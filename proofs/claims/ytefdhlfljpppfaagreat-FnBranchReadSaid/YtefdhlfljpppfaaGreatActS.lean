/- Slices of actions: IndexFunc, ContainsFunc, ActionsValid, sameActions. -/
import Derived.Test.YtefdhlfljpppfaaGreatAct
import Derived.Test.YtefdhlfljpppfaaGreatFuncI
import Derived.Laws.StructEq
namespace Go.Proofs.YtefdhlfljpppfaaGreat
open Go.RowKit
set_option linter.unusedVariables false
set_option linter.unusedSimpArgs false

theorem indexFuncA_any (A : Option Addr) (c F : Nat) (p : Act → Bool) (hF : ∀ args w, (callFunc F args).run Tryz.prog w = .ok (.enter F args) w) (hp : ∀ (x : Act) W, Calls Tryz.prog F #[.agg #[.int .i64 x.kind, .int .i64 x.src, .int .i64 x.dst, .int .i64 x.amt]] W fun e W' => e = .returned (.bool (p x)) ∧ Below W.heap.size W W') (xs : List Act) (w : World) (h : Rd w A (xs.flatMap encA)) (hb : xs.length ≤ 4611686018427387904) :
    Calls Tryz.prog 136 #[.slice A xs.length c, .func (.func F) #[] #[]] w fun e w' => e = .returned (.int .i64 (idxOf p xs)) ∧ Below w.heap.size w w' := by
  have HP := hide hp
  clear hp
  go_enter Tryz.func136, Tryz.ntmps136
  go_wp2
  go_loopw [8] (fun i wr => ∃ k : Nat, k ≤ xs.length ∧ i = .int .i64 k ∧ (∀ j (h1 : j < xs.length), j < k → p xs[j] = false) ∧ Below w.heap.size w wr) (fun i _ => xs.length - (intOf i).toNat)
  case atStart => exact ⟨0, Nat.zero_le _, rfl, fun j _ h => absurd h (by omega), Below.refl _ _⟩
  case round =>
    obtain ⟨k, hk, rfl, hn, hB⟩ := hrel
    have HN := hide hn
    clear hn
    by_cases hlt : k < xs.length
    · obtain ⟨b, off, rfl, hbb, c0, c1, c2, c3⟩ := (h.new hB).act hlt
      generalize hxk : xs[k] = xk at *
      have HX := hide hxk
      clear hxk
      have i1 : (k : Int) < (xs.length : Int) := by omega
      cases hpx : p xk
      · have HPX := hide hpx
        clear hpx
        go_wp2_with fail
        refine (unhide HP xk _).mono ?_
        rintro e w1 ⟨rfl, b1⟩
        rw [unhide HPX]
        have hB1 := below_then hB b1 hB.size
        go_wp2
        go_roundw
        case rel =>
          refine ⟨k + 1, by omega, by go_num, fun j h1 h2 => ?_, hB1⟩
          rcases Nat.lt_or_ge j k with h3 | h3
          · exact unhide HN j h1 h3
          · have : j = k := by omega
            subst this
            rw [unhide HX]
            exact unhide HPX
        case measure => simp [intOf]; omega
      · have HPX := hide hpx
        clear hpx
        go_wp2_with fail
        refine (unhide HP xk _).mono ?_
        rintro e w1 ⟨rfl, b1⟩
        rw [unhide HPX]
        have hB1 := below_then hB b1 hB.size
        go_wp2
        go_ret
        exact ⟨reti (idxOf_some hlt (by rw [unhide HX]; exact unhide HPX) (unhide HN)).symm, hB1⟩
    · go_wp2
      go_ret
      exact ⟨reti (idxOf_none fun j hj => unhide HN j hj (by omega)).symm, hB⟩
theorem containsFuncA_any (A : Option Addr) (c F : Nat) (p : Act → Bool) (hF : ∀ args w, (callFunc F args).run Tryz.prog w = .ok (.enter F args) w) (hp : ∀ (x : Act) W, Calls Tryz.prog F #[.agg #[.int .i64 x.kind, .int .i64 x.src, .int .i64 x.dst, .int .i64 x.amt]] W fun e W' => e = .returned (.bool (p x)) ∧ Below W.heap.size W W') (xs : List Act) (w : World) (h : Rd w A (xs.flatMap encA)) (hb : xs.length ≤ 4611686018427387904) :
    Calls Tryz.prog 121 #[.slice A xs.length c, .func (.func F) #[] #[]] w fun e w' => e = .returned (.bool (xs.any p)) ∧ Below w.heap.size w w' := by
  have HP := hide hp
  clear hp
  have HI := hide (idxOf_any p xs)
  go_enter Tryz.func121, Tryz.ntmps121
  go_wp2_with fail
  refine (indexFuncA_any A c F p hF (unhide HP) xs w h hb).mono ?_
  rintro e w1 ⟨rfl, b1⟩
  go_wp2
  go_ret
  exact ⟨retb (unhide HI), b1⟩
/-- valid actions -/
def actsB (xs : List Act) : Bool := decide (xs.length ≤ 10) && xs.all actB
theorem actsB_yes {xs : List Act} (h : actsB xs = true) : xs.length ≤ 10 ∧ ∀ k (hk : k < xs.length), actB xs[k] = true := by
  simp only [actsB, Bool.and_eq_true, decide_eq_true_eq, List.all_eq_true] at h
  exact ⟨h.1, fun k hk => h.2 _ (List.getElem_mem hk)⟩
theorem all_any (xs : List Act) : xs.all actB = !xs.any fun x => !actB x := by
  induction xs with
  | nil => rfl
  | cons x xs ih => simp [ih, Bool.not_or]
theorem actionsClosure (x : Act) (W : World) : Calls Tryz.prog 122 #[.agg #[.int .i64 x.kind, .int .i64 x.src, .int .i64 x.dst, .int .i64 x.amt]] W fun e W' => e = .returned (.bool (!actB x)) ∧ Below W.heap.size W W' := by
  go_enter Tryz.func122, Tryz.ntmps122
  go_wp2_with fail
  refine (actionValid_impl x _).mono ?_
  rintro e w1 ⟨rfl, b1⟩
  go_wp2
  go_ret
  exact ⟨rfl, ((Below.refl _ _).alloc (Nat.le_refl _) _).trans (b1.mono (by simp))⟩
theorem actionsValid_impl (A : Option Addr) (c : Nat) (xs : List Act) (w : World) (h : Rd w A (xs.flatMap encA)) (hb : xs.length ≤ 4611686018427387904) :
    Calls Tryz.prog 91 #[.slice A xs.length c] w fun e w' => e = .returned (.bool (actsB xs)) ∧ Below w.heap.size w w' := by
  by_cases hl : xs.length ≤ 10
  · have hd : decide ((xs.length : Int) ≤ 10) = true := by simp; omega
    have HC := hide (show actsB xs = !xs.any fun x => !actB x by rw [← all_any]; simp [actsB, hl])
    have hl2 : (xs.length : Int) ≤ 10 := by omega
    clear hl
    go_enter Tryz.func91, Tryz.ntmps91
    go_wp2_with fail
    refine (containsFuncA_any A c 122 _ Tryz.call122 actionsClosure xs w h hb).mono ?_
    rintro e w1 ⟨rfl, b1⟩
    go_wp2
    go_ret
    exact ⟨retb (unhide HC).symm, b1⟩
  · have hd : decide ((xs.length : Int) ≤ 10) = false := by simp; omega
    have hl2 : ¬ (xs.length : Int) ≤ 10 := by omega
    have HC := hide (show actsB xs = false by simp [actsB, hl])
    clear hl
    go_enter Tryz.func91, Tryz.ntmps91
    go_wp2
    go_ret
    exact ⟨retb (unhide HC).symm, Below.refl _ _⟩
theorem actionsValid_spec (A : Option Addr) (c : Nat) (xs : List Act) (w : World) (h : Rd w A (xs.flatMap encA)) (hb : xs.length ≤ 4611686018427387904) :
    Calls Tryz.prog 108 #[.slice A xs.length c] w fun e w' => e = .returned (.bool (actsB xs)) ∧ Below w.heap.size w w' := by
  go_enter Tryz.func108, Tryz.ntmps108
  go_wp2
  go_loopw [3] (fun i wr => ∃ k : Nat, k ≤ xs.length ∧ i = .int .i64 k ∧ (∀ j (h1 : j < xs.length), j < k → actB xs[j] = true) ∧ Below w.heap.size w wr) (fun i _ => xs.length - (intOf i).toNat)
  case atStart => exact ⟨0, Nat.zero_le _, rfl, fun j _ h => absurd h (by omega), Below.refl _ _⟩
  case round =>
    obtain ⟨k, hk, rfl, hn, hB⟩ := hrel
    have HN := hide hn
    clear hn
    by_cases hlt : k < xs.length
    · obtain ⟨b, off, rfl, hbb, c0, c1, c2, c3⟩ := (h.new hB).act hlt
      generalize hxk : xs[k] = x at *
      have HX := hide hxk
      clear hxk
      have i1 : (k : Int) < (xs.length : Int) := by omega
      cases hA : actB x
      · have HA := hide hA
        have HC := hide (show actsB xs = false by
          have h1 : xs.all actB = false := by rw [List.all_eq_false]; exact ⟨_, List.getElem_mem hlt, by rw [unhide HX, hA]; simp⟩
          simp [actsB, h1])
        clear hA
        go_wp2_with fail
        refine (actionValid_spec x _).mono ?_
        rintro e w1 ⟨rfl, b1⟩
        rw [unhide HA]
        have hB1 := below_then hB b1 hB.size
        go_wp2
        go_ret
        exact ⟨retb (unhide HC).symm, hB1⟩
      · have HA := hide hA
        clear hA
        go_wp2_with fail
        refine (actionValid_spec x _).mono ?_
        rintro e w1 ⟨rfl, b1⟩
        rw [unhide HA]
        have hB1 := below_then hB b1 hB.size
        go_wp2
        go_roundw
        case rel =>
          refine ⟨k + 1, by omega, by go_num, fun j h1 h2 => ?_, hB1⟩
          rcases Nat.lt_or_ge j k with h3 | h3
          · exact unhide HN j h1 h3
          · have : j = k := by omega
            subst this
            rw [unhide HX]
            exact unhide HA
        case measure => simp [intOf]; omega
    · have HC := hide (show actsB xs = decide ((xs.length : Int) ≤ 10) by
        have h1 : xs.all actB = true := by
          rw [List.all_eq_true]
          intro x hx
          obtain ⟨j, hj, rfl⟩ := List.getElem_of_mem hx
          exact unhide HN j hj (by omega)
        simp only [actsB, h1, Bool.and_true]
        by_cases h4 : xs.length ≤ 10 <;> simp [h4] <;> omega)
      go_wp2
      go_ret
      exact ⟨retb (unhide HC).symm, hB⟩
end Go.Proofs.YtefdhlfljpppfaaGreat
