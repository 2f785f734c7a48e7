/- Slices of actions: IndexFunc, ContainsFunc, ActionsValid, sameActions. -/
import Derived.Test.YtcgheamckfodaaaAct
import Derived.Test.YtcgheamckfodaaaFuncI
import Derived.Laws.StructEq
namespace Go.Proofs.Ytcgheamckfodaaa
open Go.RowKit
set_option linter.unusedVariables false
set_option linter.unusedSimpArgs false

theorem indexFuncA_any (A : Option Addr) (c F : Nat) (p : Act → Bool) (hF : ∀ args w, (callFunc F args).run Try.prog w = .ok (.enter F args) w) (hp : ∀ (x : Act) W, Calls Try.prog F #[.agg #[.int .i64 x.kind, .int .i64 x.src, .int .i64 x.dst, .int .i64 x.amt]] W fun e W' => e = .returned (.bool (p x)) ∧ Below W.heap.size W W') (xs : List Act) (w : World) (h : Rd w A (xs.flatMap encA)) (hb : xs.length ≤ 4611686018427387904) :
    Calls Try.prog 55 #[.slice A xs.length c, .func (.func F) #[] #[]] w fun e w' => e = .returned (.int .i64 (idxOf p xs)) ∧ Below w.heap.size w w' := by
  have HP := hide hp
  clear hp
  go_enter Try.func55, Try.ntmps55
  go_wp2
  go_loopw [8] (fun i wr => ∃ k : Nat, k ≤ xs.length ∧ i = .int .i64 k ∧ (∀ j (h1 : j < xs.length), j < k → p xs[j] = false) ∧ Below w.heap.size w wr) (fun i _ => xs.length - (intOf i).toNat)
  case atStart => exact ⟨0, Nat.zero_le _, rfl, fun j _ h => absurd h (by omega), Below.refl _ _⟩
  case round =>
    obtain ⟨k, hk, rfl, hn, hB⟩ := hrel
    have HN := hide hn
    clear hn
    by_cases hlt : k < xs.length
    · obtain ⟨b, off, rfl, hbb, c0, c1, c2, c3⟩ := (h.new hB).act hlt
      generalize hxk : xs[k] = xk at *
      have HX := hide hxk
      clear hxk
      have i1 : (k : Int) < (xs.length : Int) := by omega
      cases hpx : p xk
      · have HPX := hide hpx
        clear hpx
        go_wp2_with fail
        refine (unhide HP xk _).mono ?_
        rintro e w1 ⟨rfl, b1⟩
        rw [unhide HPX]
        have hB1 := below_then hB b1 hB.size
        go_wp2
        go_roundw
        case rel =>
          refine ⟨k + 1, by omega, by go_num, fun j h1 h2 => ?_, hB1⟩
          rcases Nat.lt_or_ge j k with h3 | h3
          · exact unhide HN j h1 h3
          · have : j = k := by omega
            subst this
            rw [unhide HX]
            exact unhide HPX
        case measure => simp [intOf]; omega
      · have HPX := hide hpx
        clear hpx
        go_wp2_with fail
        refine (unhide HP xk _).mono ?_
        rintro e w1 ⟨rfl, b1⟩
        rw [unhide HPX]
        have hB1 := below_then hB b1 hB.size
        go_wp2
        go_ret
        exact ⟨reti (idxOf_some hlt (by rw [unhide HX]; exact unhide HPX) (unhide HN)).symm, hB1⟩
    · go_wp2
      go_ret
      exact ⟨reti (idxOf_none fun j hj => unhide HN j hj (by omega)).symm, hB⟩
theorem containsFuncA_any (A : Option Addr) (c F : Nat) (p : Act → Bool) (hF : ∀ args w, (callFunc F args).run Try.prog w = .ok (.enter F args) w) (hp : ∀ (x : Act) W, Calls Try.prog F #[.agg #[.int .i64 x.kind, .int .i64 x.src, .int .i64 x.dst, .int .i64 x.amt]] W fun e W' => e = .returned (.bool (p x)) ∧ Below W.heap.size W W') (xs : List Act) (w : World) (h : Rd w A (xs.flatMap encA)) (hb : xs.length ≤ 4611686018427387904) :
    Calls Try.prog 44 #[.slice A xs.length c, .func (.func F) #[] #[]] w fun e w' => e = .returned (.bool (xs.any p)) ∧ Below w.heap.size w w' := by
  have HP := hide hp
  clear hp
  have HI := hide (idxOf_any p xs)
  go_enter Try.func44, Try.ntmps44
  go_wp2_with fail
  refine (indexFuncA_any A c F p hF (unhide HP) xs w h hb).mono ?_
  rintro e w1 ⟨rfl, b1⟩
  go_wp2
  go_ret
  exact ⟨retb (unhide HI), b1⟩
/-- valid actions -/
def actsB (xs : List Act) : Bool := decide (xs.length ≤ 10) && xs.all actB
theorem actsB_yes {xs : List Act} (h : actsB xs = true) : xs.length ≤ 10 ∧ ∀ k (hk : k < xs.length), actB xs[k] = true := by
  simp only [actsB, Bool.and_eq_true, decide_eq_true_eq, List.all_eq_true] at h
  exact ⟨h.1, fun k hk => h.2 _ (List.getElem_mem hk)⟩
theorem all_any (xs : List Act) : xs.all actB = !xs.any fun x => !actB x := by
  induction xs with
  | nil => rfl
  | cons x xs ih => simp [ih, Bool.not_or]
theorem actionsClosure (x : Act) (W : World) : Calls Try.prog 45 #[.agg #[.int .i64 x.kind, .int .i64 x.src, .int .i64 x.dst, .int .i64 x.amt]] W fun e W' => e = .returned (.bool (!actB x)) ∧ Below W.heap.size W W' := by
  go_enter Try.func45, Try.ntmps45
  go_wp2_with fail
  refine (actionValid_impl x _).mono ?_
  rintro e w1 ⟨rfl, b1⟩
  go_wp2
  go_ret
  exact ⟨rfl, ((Below.refl _ _).alloc (Nat.le_refl _) _).trans (b1.mono (by simp))⟩
theorem actionsValid_impl (A : Option Addr) (c : Nat) (xs : List Act) (w : World) (h : Rd w A (xs.flatMap encA)) (hb : xs.length ≤ 4611686018427387904) :
    Calls Try.prog 31 #[.slice A xs.length c] w fun e w' => e = .returned (.bool (actsB xs)) ∧ Below w.heap.size w w' := by
  by_cases hl : xs.length ≤ 10
  · have hd : decide ((xs.length : Int) ≤ 10) = true := by simp; omega
    have HC := hide (show actsB xs = !xs.any fun x => !actB x by rw [← all_any]; simp [actsB, hl])
    have hl2 : (xs.length : Int) ≤ 10 := by omega
    clear hl
    go_enter Try.func31, Try.ntmps31
    go_wp2_with fail
    refine (containsFuncA_any A c 45 _ Try.call45 actionsClosure xs w h hb).mono ?_
    rintro e w1 ⟨rfl, b1⟩
    go_wp2
    go_ret
    exact ⟨retb (unhide HC).symm, b1⟩
  · have hd : decide ((xs.length : Int) ≤ 10) = false := by simp; omega
    have hl2 : ¬ (xs.length : Int) ≤ 10 := by omega
    have HC := hide (show actsB xs = false by simp [actsB, hl])
    clear hl
    go_enter Try.func31, Try.ntmps31
    go_wp2
    go_ret
    exact ⟨retb (unhide HC).symm, Below.refl _ _⟩
theorem hm_act : Try.prog.eqGuardType Try.prog.depth 43 = false := by kernel_rfl
theorem hs_act : Try.prog.stoodInHeld 43 = false := by kernel_rfl
theorem hS_act : Try.prog.underlying 43 = some (.struct (Try.prog.fieldsOf 43)) := by kernel_rfl
theorem eqIn_act (a b : Act) (w : World) : (Op.equalIn 10000 43 (.agg #[.int .i64 a.kind, .int .i64 a.src, .int .i64 a.dst, .int .i64 a.amt]) (.agg #[.int .i64 b.kind, .int .i64 b.src, .int .i64 b.dst, .int .i64 b.amt])).run Try.prog w = .ok (decide (a = b)) w := by
  have h3 : Try.prog.underlying 3 = some (.int .i64) := Try.underlying3
  rw [show (10000 : Nat) = 9998 + 2 from rfl, run_equalIn_agg w _ _ _ _ hS_act hs_act]
  simp only [Program.fieldsOf, Try.underlying43]
  obtain ⟨a1, a2, a3, a4⟩ := a
  obtain ⟨b1, b2, b3, b4⟩ := b
  simp [go_sem, h3]
  by_cases h1 : a1 = b1 <;> by_cases h2 : a2 = b2 <;> by_cases h3 : a3 = b3 <;> by_cases h4 : a4 = b4 <;> simp [h1, h2, h3, h4]
theorem sameActions_any (A B : Option Addr) (c d : Nat) (xs ys : List Act) (w : World) (hx : Rd w A (xs.flatMap encA)) (hy : Rd w B (ys.flatMap encA)) (hbx : xs.length ≤ 4611686018427387904) :
    Calls Try.prog 30 #[.slice A xs.length c, .slice B ys.length d] w fun e w' => e = .returned (.bool (decide (xs = ys))) ∧ ∃ m, w.drewN m = w' := by
  by_cases hl : xs.length = ys.length
  · have hd : ((xs.length : Int) != (ys.length : Int)) = false := by simp [hl]
    have HL := hide hl
    have hl1 : xs.length ≤ ys.length := by omega
    have hl2 : ys.length ≤ xs.length := by omega
    clear hl
    go_enter Try.func30, Try.ntmps30
    go_wp2
    go_loopw [5] (fun i wr => ∃ k : Nat, k ≤ xs.length ∧ i = .int .i64 k ∧ (∀ j (h1 : j < xs.length) (h2 : j < ys.length), j < k → xs[j] = ys[j]) ∧ ∃ m, w.drewN m = wr) (fun i _ => xs.length - (intOf i).toNat)
    case atStart => exact ⟨0, Nat.zero_le _, rfl, fun j _ _ h => absurd h (by omega), 0, rfl⟩
    case round =>
      obtain ⟨k, hk, rfl, hsame, m, rfl⟩ := hrel
      have HS := hide hsame
      clear hsame
      by_cases hlt : k < xs.length
      · have hlt2 : k < ys.length := by omega
        obtain ⟨b, off, rfl, hbb, c0, c1, c2, c3⟩ := hx.act hlt
        obtain ⟨b', off', rfl, hbb', d0, d1, d2, d3⟩ := hy.act hlt2
        generalize hxk : xs[k] = xk at *
        generalize hyk : ys[k] = yk at *
        have HX := hide hxk
        have HY := hide hyk
        clear hxk hyk
        have i1 : (k : Int) < (xs.length : Int) := by omega
        have i2 : (k : Int) < (ys.length : Int) := by omega
        have e0 := eqIn_act xk yk
        have e1 := hm_act
        by_cases he : xk = yk
        · have e2 : decide (xk = yk) = true := by simpa using he
          have HE := hide he
          clear he
          rw [e2] at e0
          clear e2
          go_wp2
          go_quiet (fail)
          go_wp2
          go_roundw
          case rel =>
            refine ⟨k + 1, by omega, by go_num, fun j h1 h2 h3 => ?_, m + nq, rfl⟩
            rcases Nat.lt_or_ge j k with h4 | h4
            · exact unhide HS j h1 h2 h4
            · have : j = k := by omega
              subst this
              rw [unhide HX, unhide HY]
              exact unhide HE
          case measure => simp [intOf]; omega
        · have e2 : decide (xk = yk) = false := by simpa using he
          have HR := hide (show decide (xs = ys) = false by
            rw [decide_eq_false_iff_not]
            intro hh
            apply he
            subst hh
            rw [← unhide HX, ← unhide HY])
          clear he
          rw [e2] at e0
          clear e2
          go_wp2
          go_quiet (fail)
          go_wp2
          go_ret
          exact ⟨retb (unhide HR).symm, _, (World.drewN_drewN _ _ _).symm⟩
      · have HR := hide (show decide (xs = ys) = true by
          rw [decide_eq_true_eq]
          exact List.ext_getElem (unhide HL) fun j h1 h2 => unhide HS j h1 h2 (by omega))
        go_wp2
        go_ret
        exact ⟨retb (unhide HR).symm, m, rfl⟩
  · have hd : ((xs.length : Int) != (ys.length : Int)) = true := by simp; omega
    have HR := hide (show decide (xs = ys) = false by rw [decide_eq_false_iff_not]; intro hh; exact hl (by rw [hh]))
    clear hl
    go_enter Try.func30, Try.ntmps30
    go_wp2
    go_ret
    exact ⟨retb (unhide HR).symm, 0, rfl⟩
end Go.Proofs.Ytcgheamckfodaaa
