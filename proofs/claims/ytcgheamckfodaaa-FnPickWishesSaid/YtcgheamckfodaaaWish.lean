/- Wishes: WishesValid of impl and spec. -/
import Derived.Test.YtcgheamckfodaaaFlatWish
import Derived.Test.YtcgheamckfodaaaAct
namespace Go.Proofs.Ytcgheamckfodaaa
open Go.RowKit
set_option linter.unusedVariables false
set_option linter.unusedSimpArgs false

def wshAct (x : Wsh) : Act := ⟨x.kind, x.src, x.dst, x.amt⟩
def wishB (x : Wsh) : Bool := actB (wshAct x) && (inB x.fee 0 1000 && inB x.who 0 3)
def wishesB (xs : List Wsh) : Bool := xs.all wishB && decide (xs.length ≤ 12)
theorem wishes_no {xs : List Wsh} {k : Nat} (hk : k < xs.length) (h : wishB xs[k] = false) : wishesB xs = false := by
  have : xs.all wishB = false := by rw [List.all_eq_false]; exact ⟨_, List.getElem_mem hk, by simp [h]⟩
  simp [wishesB, this]
theorem wishes_all {xs : List Wsh} (h : ∀ j (h1 : j < xs.length), wishB xs[j] = true) : wishesB xs = decide ((xs.length : Int) ≤ 12) := by
  have : xs.all wishB = true := by
    rw [List.all_eq_true]
    intro x hx
    obtain ⟨j, hj, rfl⟩ := List.getElem_of_mem hx
    exact h j hj
  simp only [wishesB, this, Bool.true_and]
  by_cases h4 : xs.length ≤ 12 <;> simp [h4] <;> omega
set_option maxRecDepth 100000 in
theorem wishesValid_impl (A : Option Addr) (c : Nat) (xs : List Wsh) (w : World) (h : Rd w A (xs.flatMap encW)) (hb : xs.length ≤ 4611686018427387904) :
    Calls Try.prog 12 #[.slice A xs.length c] w fun e w' => e = .returned (.bool (wishesB xs)) ∧ Below w.heap.size w w' := by
  go_enter Try.func12, Try.ntmps12
  go_wp2
  go_loopw [7] (fun i wr => ∃ k : Nat, k ≤ xs.length ∧ i = .int .i64 k ∧ (∀ j (h1 : j < xs.length), j < k → wishB xs[j] = true) ∧ Below w.heap.size w wr) (fun i _ => xs.length - (intOf i).toNat)
  case atStart => exact ⟨0, Nat.zero_le _, rfl, fun j _ h => absurd h (by omega), Below.refl _ _⟩
  case round =>
    obtain ⟨k, hk, rfl, hn, hB⟩ := hrel
    have HN := hide hn
    clear hn
    by_cases hlt : k < xs.length
    · obtain ⟨b, off, rfl, hbb, c0, c1, c2, c3, c4, c5⟩ := (h.new hB).wsh hlt
      have HNO := hide (fun hf => wishes_no hlt hf)
      generalize hxk : xs[k] = x at *
      have HX := hide hxk
      clear hxk
      have i1 : (k : Int) < (xs.length : Int) := by omega
      cases hA : actB (wshAct x)
      · have HA := hide hA
        have HF := hide (unhide HNO (by simp [wishB, hA]))
        clear hA
        go_wp2_with fail
        refine (actionValid_impl (wshAct x) _).mono ?_
        rintro e w1 ⟨rfl, b1⟩
        rw [unhide HA]
        have hB1 : Below w.heap.size w w1 := below_then (hB.alloc hB.size _) b1 (by have := hB.size; simp; omega)
        go_wp2
        go_ret
        exact ⟨retb (unhide HF).symm, hB1⟩
      · have HA := hide hA
        cases hI : inB x.fee 0 1000
        · have HI := hide hI
          have HF := hide (unhide HNO (by simp [wishB, hI]))
          clear hA hI
          go_wp2_with fail
          refine (actionValid_impl (wshAct x) _).mono ?_
          rintro e w1 ⟨rfl, b1⟩
          rw [unhide HA]
          have hB1 : Below w.heap.size w w1 := below_then (hB.alloc hB.size _) b1 (by have := hB.size; simp; omega)
          have q4 : w1.cell? ⟨wr.heap.size, 4, none⟩ = some (.int .i64 x.fee) := ((Blk.new wr 45 #[.int .i64 x.kind, .int .i64 x.src, .int .i64 x.dst, .int .i64 x.amt, .int .i64 x.fee, .int .i64 x.who]).new_ b1).cell 4
          have q5 : w1.cell? ⟨wr.heap.size, 5, none⟩ = some (.int .i64 x.who) := ((Blk.new wr 45 #[.int .i64 x.kind, .int .i64 x.src, .int .i64 x.dst, .int .i64 x.amt, .int .i64 x.fee, .int .i64 x.who]).new_ b1).cell 5
          go_wp2_with fail
          refine (in_any x.fee 0 1000 _).mono ?_
          rintro e w' ⟨rfl, rfl⟩
          rw [unhide HI]
          go_wp2
          go_ret
          exact ⟨retb (unhide HF).symm, hB1⟩
        · have HI := hide hI
          cases hM : inB x.who 0 3
          · have HM := hide hM
            have HF := hide (unhide HNO (by simp [wishB, hM]))
            clear hA hI hM
            go_wp2_with fail
            refine (actionValid_impl (wshAct x) _).mono ?_
            rintro e w1 ⟨rfl, b1⟩
            rw [unhide HA]
            have hB1 : Below w.heap.size w w1 := below_then (hB.alloc hB.size _) b1 (by have := hB.size; simp; omega)
            have q4 : w1.cell? ⟨wr.heap.size, 4, none⟩ = some (.int .i64 x.fee) := ((Blk.new wr 45 #[.int .i64 x.kind, .int .i64 x.src, .int .i64 x.dst, .int .i64 x.amt, .int .i64 x.fee, .int .i64 x.who]).new_ b1).cell 4
            have q5 : w1.cell? ⟨wr.heap.size, 5, none⟩ = some (.int .i64 x.who) := ((Blk.new wr 45 #[.int .i64 x.kind, .int .i64 x.src, .int .i64 x.dst, .int .i64 x.amt, .int .i64 x.fee, .int .i64 x.who]).new_ b1).cell 5
            go_wp2_with fail
            refine (in_any x.fee 0 1000 _).mono ?_
            rintro e w' ⟨rfl, rfl⟩
            rw [unhide HI]
            go_wp2_with fail
            refine (isMember_any x.who _).mono ?_
            rintro e w' ⟨rfl, rfl⟩
            rw [unhide HM]
            go_wp2
            go_ret
            exact ⟨retb (unhide HF).symm, hB1⟩
          · have HM := hide hM
            have HY := hide (show wishB x = true by simp [wishB, hA, hI, hM])
            clear hA hI hM
            go_wp2_with fail
            refine (actionValid_impl (wshAct x) _).mono ?_
            rintro e w1 ⟨rfl, b1⟩
            rw [unhide HA]
            have hB1 : Below w.heap.size w w1 := below_then (hB.alloc hB.size _) b1 (by have := hB.size; simp; omega)
            have q4 : w1.cell? ⟨wr.heap.size, 4, none⟩ = some (.int .i64 x.fee) := ((Blk.new wr 45 #[.int .i64 x.kind, .int .i64 x.src, .int .i64 x.dst, .int .i64 x.amt, .int .i64 x.fee, .int .i64 x.who]).new_ b1).cell 4
            have q5 : w1.cell? ⟨wr.heap.size, 5, none⟩ = some (.int .i64 x.who) := ((Blk.new wr 45 #[.int .i64 x.kind, .int .i64 x.src, .int .i64 x.dst, .int .i64 x.amt, .int .i64 x.fee, .int .i64 x.who]).new_ b1).cell 5
            go_wp2_with fail
            refine (in_any x.fee 0 1000 _).mono ?_
            rintro e w' ⟨rfl, rfl⟩
            rw [unhide HI]
            go_wp2_with fail
            refine (isMember_any x.who _).mono ?_
            rintro e w' ⟨rfl, rfl⟩
            rw [unhide HM]
            go_wp2
            go_roundw
            case rel =>
              refine ⟨k + 1, by omega, by go_num, fun j h1 h2 => ?_, hB1⟩
              rcases Nat.lt_or_ge j k with h3 | h3
              · exact unhide HN j h1 h3
              · have : j = k := by omega
                subst this
                rw [unhide HX]
                exact unhide HY
            case measure => simp [intOf]; omega
    · have HC := hide (wishes_all (xs := xs) (fun j h1 => unhide HN j h1 (by omega)))
      go_wp2
      go_ret
      exact ⟨retb (unhide HC).symm, hB⟩
set_option maxRecDepth 100000 in
theorem wishesValid_spec (A : Option Addr) (c : Nat) (xs : List Wsh) (w : World) (h : Rd w A (xs.flatMap encW)) (hb : xs.length ≤ 4611686018427387904) :
    Calls Try.prog 10 #[.slice A xs.length c] w fun e w' => e = .returned (.bool (wishesB xs)) ∧ Below w.heap.size w w' := by
  go_enter Try.func10, Try.ntmps10
  go_wp2
  go_loopw [3] (fun i wr => ∃ k : Nat, k ≤ xs.length ∧ i = .int .i64 k ∧ (∀ j (h1 : j < xs.length), j < k → wishB xs[j] = true) ∧ Below w.heap.size w wr) (fun i _ => xs.length - (intOf i).toNat)
  case atStart => exact ⟨0, Nat.zero_le _, rfl, fun j _ h => absurd h (by omega), Below.refl _ _⟩
  case round =>
    obtain ⟨k, hk, rfl, hn, hB⟩ := hrel
    have HN := hide hn
    clear hn
    by_cases hlt : k < xs.length
    · obtain ⟨b, off, rfl, hbb, c0, c1, c2, c3, c4, c5⟩ := (h.new hB).wsh hlt
      have HNO := hide (fun hf => wishes_no hlt hf)
      generalize hxk : xs[k] = x at *
      have HX := hide hxk
      clear hxk
      have i1 : (k : Int) < (xs.length : Int) := by omega
      cases hA : actB (wshAct x)
      · have HA := hide hA
        have HF := hide (unhide HNO (by simp [wishB, hA]))
        clear hA
        go_wp2_with fail
        refine (actionValid_spec (wshAct x) _).mono ?_
        rintro e w1 ⟨rfl, b1⟩
        rw [unhide HA]
        have hB1 : Below w.heap.size w w1 := below_then hB b1 hB.size
        go_wp2
        go_ret
        exact ⟨retb (unhide HF).symm, hB1⟩
      · have HA := hide hA
        cases hI : inB x.fee 0 1000
        · have HI := hide hI
          have HF := hide (unhide HNO (by simp [wishB, hI]))
          clear hA hI
          go_wp2_with fail
          refine (actionValid_spec (wshAct x) _).mono ?_
          rintro e w1 ⟨rfl, b1⟩
          rw [unhide HA]
          have hB1 : Below w.heap.size w w1 := below_then hB b1 hB.size
          have q4 : w1.cell? ⟨b, off + k * 6 + 4, none⟩ = some (.int .i64 x.fee) := (b1.cell (p := ⟨b, off + k * 6 + 4, none⟩) hbb).trans c4
          have q5 : w1.cell? ⟨b, off + k * 6 + 5, none⟩ = some (.int .i64 x.who) := (b1.cell (p := ⟨b, off + k * 6 + 5, none⟩) hbb).trans c5
          go_wp2_with fail
          refine (l1In_any x.fee 0 1000 _).mono ?_
          rintro e w' ⟨rfl, rfl⟩
          rw [unhide HI]
          go_wp2
          go_ret
          exact ⟨retb (unhide HF).symm, hB1⟩
        · have HI := hide hI
          cases hM : inB x.who 0 3
          · have HM := hide hM
            have HF := hide (unhide HNO (by simp [wishB, hM]))
            clear hA hI hM
            go_wp2_with fail
            refine (actionValid_spec (wshAct x) _).mono ?_
            rintro e w1 ⟨rfl, b1⟩
            rw [unhide HA]
            have hB1 : Below w.heap.size w w1 := below_then hB b1 hB.size
            have q4 : w1.cell? ⟨b, off + k * 6 + 4, none⟩ = some (.int .i64 x.fee) := (b1.cell (p := ⟨b, off + k * 6 + 4, none⟩) hbb).trans c4
            have q5 : w1.cell? ⟨b, off + k * 6 + 5, none⟩ = some (.int .i64 x.who) := (b1.cell (p := ⟨b, off + k * 6 + 5, none⟩) hbb).trans c5
            go_wp2_with fail
            refine (l1In_any x.fee 0 1000 _).mono ?_
            rintro e w' ⟨rfl, rfl⟩
            rw [unhide HI]
            go_wp2_with fail
            refine (l1In_any x.who 0 3 _).mono ?_
            rintro e w' ⟨rfl, rfl⟩
            rw [unhide HM]
            go_wp2
            go_ret
            exact ⟨retb (unhide HF).symm, hB1⟩
          · have HM := hide hM
            have HY := hide (show wishB x = true by simp [wishB, hA, hI, hM])
            clear hA hI hM
            go_wp2_with fail
            refine (actionValid_spec (wshAct x) _).mono ?_
            rintro e w1 ⟨rfl, b1⟩
            rw [unhide HA]
            have hB1 : Below w.heap.size w w1 := below_then hB b1 hB.size
            have q4 : w1.cell? ⟨b, off + k * 6 + 4, none⟩ = some (.int .i64 x.fee) := (b1.cell (p := ⟨b, off + k * 6 + 4, none⟩) hbb).trans c4
            have q5 : w1.cell? ⟨b, off + k * 6 + 5, none⟩ = some (.int .i64 x.who) := (b1.cell (p := ⟨b, off + k * 6 + 5, none⟩) hbb).trans c5
            go_wp2_with fail
            refine (l1In_any x.fee 0 1000 _).mono ?_
            rintro e w' ⟨rfl, rfl⟩
            rw [unhide HI]
            go_wp2_with fail
            refine (l1In_any x.who 0 3 _).mono ?_
            rintro e w' ⟨rfl, rfl⟩
            rw [unhide HM]
            go_wp2
            go_roundw
            case rel =>
              refine ⟨k + 1, by omega, by go_num, fun j h1 h2 => ?_, hB1⟩
              rcases Nat.lt_or_ge j k with h3 | h3
              · exact unhide HN j h1 h3
              · have : j = k := by omega
                subst this
                rw [unhide HX]
                exact unhide HY
            case measure => simp [intOf]; omega
    · have HC := hide (wishes_all (xs := xs) (fun j h1 => unhide HN j h1 (by omega)))
      go_wp2
      go_ret
      exact ⟨retb (unhide HC).symm, hB⟩
end Go.Proofs.Ytcgheamckfodaaa
