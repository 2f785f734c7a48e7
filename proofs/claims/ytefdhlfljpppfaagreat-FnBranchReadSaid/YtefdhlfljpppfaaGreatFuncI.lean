/- slices.IndexFunc, ContainsFunc at []int; CountersValid. -/
import Derived.Test.YtefdhlfljpppfaaGreatIntS
namespace Go.Proofs.YtefdhlfljpppfaaGreat
open Go.RowKit
set_option linter.unusedVariables false
set_option linter.unusedSimpArgs false

/-- where the first one is that p takes; -1 for none -/
def idxOf {α : Type} (p : α → Bool) (xs : List α) : Int := match xs.findIdx? p with | some i => (i : Int) | none => -1
theorem idxOf_none {α : Type} {p : α → Bool} {xs : List α} (h : ∀ j (hj : j < xs.length), p xs[j] = false) : idxOf p xs = -1 := by
  have : xs.findIdx? p = none := by
    rw [List.findIdx?_eq_none_iff]
    intro x hx
    obtain ⟨j, hj, rfl⟩ := List.getElem_of_mem hx
    exact h j hj
  simp [idxOf, this]
theorem idxOf_some {α : Type} {p : α → Bool} {xs : List α} {k : Nat} (hk : k < xs.length) (hp : p xs[k] = true) (h : ∀ j (hj : j < xs.length), j < k → p xs[j] = false) : idxOf p xs = k := by
  have : xs.findIdx? p = some k := by
    rw [List.findIdx?_eq_some_iff_getElem]
    exact ⟨hk, hp, fun j hj => by simpa using h j (by omega) hj⟩
  simp [idxOf, this]
theorem idxOf_any {α : Type} (p : α → Bool) (xs : List α) : decide (0 ≤ idxOf p xs) = xs.any p := by
  unfold idxOf
  rcases h : xs.findIdx? p with _ | i
  · rw [List.findIdx?_eq_none_iff] at h
    symm
    rw [show xs.any p = false from by simpa using h]
    rfl
  · obtain ⟨hi, hp, _⟩ := List.findIdx?_eq_some_iff_getElem.1 h
    have : xs.any p = true := List.any_eq_true.2 ⟨_, List.getElem_mem hi, hp⟩
    rw [this]
    simp
theorem idxOf_bd {α : Type} (p : α → Bool) (xs : List α) : -1 ≤ idxOf p xs ∧ idxOf p xs < xs.length := by
  unfold idxOf
  rcases h : xs.findIdx? p with _ | i
  · simp; omega
  · obtain ⟨hi, _⟩ := List.findIdx?_eq_some_iff_getElem.1 h
    simp; omega

theorem indexFuncI_any (A : Option Addr) (c F : Nat) (p : Int → Bool) (hF : ∀ args w, (callFunc F args).run Tryz.prog w = .ok (.enter F args) w) (hp : ∀ x W, Calls Tryz.prog F #[.int .i64 x] W fun e W' => e = .returned (.bool (p x)) ∧ W = W') (xs : List Int) (w : World) (h : Rd w A (xs.map (.int .i64))) (hb : xs.length ≤ 4611686018427387904) :
    Calls Tryz.prog 116 #[.slice A xs.length c, .func (.func F) #[] #[]] w fun e w' => e = .returned (.int .i64 (idxOf p xs)) ∧ w = w' := by
  have HP := hide hp
  clear hp
  go_enter Tryz.func116, Tryz.ntmps116
  go_wp2
  go_loop [5, 8] (fun _ i => ∃ k : Nat, k ≤ xs.length ∧ i = .int .i64 k ∧ ∀ j (h1 : j < xs.length), j < k → p xs[j] = false) (fun _ i => xs.length - (intOf i).toNat)
  case atStart => exact ⟨0, Nat.zero_le _, rfl, fun j _ h => absurd h (by omega)⟩
  case round =>
    obtain ⟨k, hk, rfl, hn⟩ := hrel
    have HN := hide hn
    clear hn
    by_cases hlt : k < xs.length
    · obtain ⟨b, off, rfl, hbb, hc⟩ := h.int hlt
      generalize hxk : xs[k] = xk at *
      have HX := hide hxk
      clear hxk
      cases hpx : p xk
      · have HPX := hide hpx
        clear hpx
        go_wp2_with fail
        refine (unhide HP _ _).mono ?_
        rintro e w' ⟨rfl, rfl⟩
        rw [unhide HPX]
        go_wp2
        go_round
        case rel =>
          refine ⟨k + 1, by omega, by go_num, fun j h1 h2 => ?_⟩
          rcases Nat.lt_or_ge j k with h3 | h3
          · exact unhide HN j h1 h3
          · have : j = k := by omega
            subst this
            rw [unhide HX]
            exact unhide HPX
        case measure => simp [intOf]; omega
      · have HPX := hide hpx
        clear hpx
        go_wp2_with fail
        refine (unhide HP _ _).mono ?_
        rintro e w' ⟨rfl, rfl⟩
        rw [unhide HPX]
        go_wp2
        go_ret
        exact ⟨reti (idxOf_some hlt (by rw [unhide HX]; exact unhide HPX) (unhide HN)).symm, rfl⟩
    · go_wp2
      go_ret
      exact ⟨reti (idxOf_none fun j hj => unhide HN j hj (by omega)).symm, rfl⟩
theorem containsFuncI_any (A : Option Addr) (c F : Nat) (p : Int → Bool) (hF : ∀ args w, (callFunc F args).run Tryz.prog w = .ok (.enter F args) w) (hp : ∀ x W, Calls Tryz.prog F #[.int .i64 x] W fun e W' => e = .returned (.bool (p x)) ∧ W = W') (xs : List Int) (w : World) (h : Rd w A (xs.map (.int .i64))) (hb : xs.length ≤ 4611686018427387904) :
    Calls Tryz.prog 80 #[.slice A xs.length c, .func (.func F) #[] #[]] w fun e w' => e = .returned (.bool (xs.any p)) ∧ w = w' := by
  have HP := hide hp
  clear hp
  have HI := hide (idxOf_any p xs)
  go_enter Tryz.func80, Tryz.ntmps80
  go_wp2_with fail
  refine (indexFuncI_any A c F p hF (unhide HP) xs w h hb).mono ?_
  rintro e w' ⟨rfl, rfl⟩
  go_wp2
  go_ret
  exact ⟨retb (unhide HI), rfl⟩

/-- four counters, each in 0..1000000 -/
def countersB (xs : List Int) : Bool := decide (xs.length = 4) && !xs.any fun n => !inB n 0 1000000
end Go.Proofs.YtefdhlfljpppfaaGreat
