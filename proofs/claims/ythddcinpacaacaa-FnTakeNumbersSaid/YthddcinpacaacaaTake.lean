/- Counters: slices.Clone, take, TakeNumber. -/
import Derived.Test.YthddcinpacaacaaFuncI
import Derived.Test.YthddcinpacaacaaClone
import Derived.Test.YthddcinpacaacaaFlatNumbered
import Derived.Test.YthddcinpacaacaaViewsEl
import Derived.WalkSpells
import Derived.StillTailTactics
namespace Go.Proofs.Ythddcinpacaacaa
open Go.RowKit
set_option linter.unusedVariables false
set_option linter.unusedSimpArgs false


def takeOk (xs : List Int) (n : Nbd) : Bool := inB n.who 0 3 && (xs.getD n.who.toNat 0 == n.num && n.num != 1000000)
def takeL (xs : List Int) (n : Nbd) : List Int := if takeOk xs n then xs.set n.who.toNat (n.num + 1) else xs
theorem takeL_len (xs : List Int) (n : Nbd) : (takeL xs n).length = xs.length := by unfold takeL; split <;> simp
theorem take_any (A : Option Addr) (c base : Nat) (xs : List Int) (n : Nbd) (w : World) (hown : w.ownsRow base 3 1 (.slice A xs.length c) xs.length (xs.map (.int .i64))) (h4 : xs.length = 4) (hv : ∀ x ∈ xs, 0 ≤ x ∧ x ≤ 1000000) :
    Calls Try.prog 31 #[.slice A xs.length c, .agg #[.int .i64 n.who, .int .i64 n.num]] w fun e w' => e = .returned (.bool (takeOk xs n)) ∧ w'.ownsRow base 3 1 (.slice A xs.length c) xs.length ((takeL xs n).map (.int .i64)) ∧ Chg (fun g => A = some ⟨g, 0, none⟩) w w' := by
  obtain ⟨g, rfl, hg1, hg2⟩ := own_addr hown (by omega)
  have H4 := hide h4
  have hl4 : 4 ≤ xs.length := by omega
  clear h4
  cases hm : inB n.who 0 3
  · have HO := hide (show takeOk xs n = false by simp [takeOk, hm])
    have HL := hide (show takeL xs n = xs by unfold takeL; rw [unhide HO]; rfl)
    go_enter Try.func31, Try.ntmps31
    go_wp2
    go_quiet ((go_at_call 41; first | exact quiet_left (isMember_any _ _) | exact quiet_add_left (isMember_any _ _)))
    go_wp2
    go_ret
    rw [unhide HO, unhide HL]
    exact ⟨rfl, own_alloc hown _, ((Chg.refl _ _).alloc _).drewN _⟩
  · obtain ⟨m1, m2⟩ := inB_true.1 hm
    obtain ⟨i, hi⟩ := Int.eq_ofNat_of_zero_le m1
    have hi3 : i < xs.length := by omega
    have hc := own_cell hown i (by simpa using hi3)
    rw [List.getElem_map] at hc
    have HG := hide (show xs.getD n.who.toNat 0 = xs[i] by rw [hi]; simp [hi3])
    obtain ⟨x0, x1⟩ := hv _ (List.getElem_mem hi3)
    clear hv
    obtain ⟨x, hx⟩ : ∃ x, x = xs[i] := ⟨_, rfl⟩
    rw [← hx] at hc HG x0 x1
    clear hx
    obtain ⟨who, num⟩ := n
    simp only at hi HG hm m1 m2
    subst hi
    have i1 : (i : Int) < (xs.length : Int) := by omega
    by_cases h1 : x = num
    · have g1 : (x != num) = false := by simp [h1]
      by_cases h2 : num = 1000000
      · have g2 : (num == 1000000) = true := by simp [h2]
        have HO := hide (show takeOk xs ⟨i, num⟩ = false by simp [takeOk, h2])
        have HL := hide (show takeL xs ⟨i, num⟩ = xs by unfold takeL; rw [unhide HO]; rfl)
        clear h1 h2
        go_enter Try.func31, Try.ntmps31
        go_wp2
        go_quiet ((go_at_call 41; first | exact quiet_left (isMember_any _ _) | exact quiet_add_left (isMember_any _ _)))
        go_wp2
        go_ret
        rw [unhide HO, unhide HL]
        exact ⟨rfl, own_alloc hown _, ((Chg.refl _ _).alloc _).drewN _⟩
      · have g2 : (num == 1000000) = false := by simp [h2]
        subst h1
        have HO := hide (show takeOk xs ⟨i, x⟩ = true by simp only [takeOk, hm, Bool.true_and]; rw [unhide HG]; simpa using h2)
        have HL := hide (show takeL xs ⟨i, x⟩ = xs.set i (x + 1) by unfold takeL; rw [unhide HO]; rfl)
        have hset := own_set (own_alloc hown (.cells #[.int .i64 (i : Int), .int .i64 x] 28)) i (.int .i64 (x + 1))
        rw [← List.map_set] at hset
        have hfr : w.frozen? ⟨g, i, none⟩ = false := own_frozen hown _
        clear h2
        go_enter Try.func31, Try.ntmps31
        go_wp2
        go_quiet ((go_at_call 41; first | exact quiet_left (isMember_any _ _) | exact quiet_add_left (isMember_any _ _)))
        go_wp2
        go_ret
        rw [unhide HO, unhide HL]
        exact ⟨rfl, hset, (((Chg.refl (fun g1 => some (⟨g, 0, none⟩ : Addr) = some ⟨g1, 0, none⟩) w).alloc _).drewN _).setCell (.inl rfl) _⟩
    · have g1 : (x != num) = true := by simp [h1]
      have HO := hide (show takeOk xs ⟨i, num⟩ = false by simp only [takeOk, hm, Bool.true_and]; rw [unhide HG]; simp [h1])
      have HL := hide (show takeL xs ⟨i, num⟩ = xs by unfold takeL; rw [unhide HO]; rfl)
      clear h1
      go_enter Try.func31, Try.ntmps31
      go_wp2
      go_quiet ((go_at_call 41; first | exact quiet_left (isMember_any _ _) | exact quiet_add_left (isMember_any _ _)))
      go_wp2
      go_ret
      rw [unhide HO, unhide HL]
      exact ⟨rfl, own_alloc hown _, ((Chg.refl _ _).alloc _).drewN _⟩
end Go.Proofs.Ythddcinpacaacaa
