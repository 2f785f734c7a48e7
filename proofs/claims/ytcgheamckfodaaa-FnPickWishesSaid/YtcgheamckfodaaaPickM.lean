/- Picking wishes: the plain law. No program is in sight here, but for the word Wsh. -/
import Derived.Test.YtcgheamckfodaaaWish
namespace Go.Proofs.Ytcgheamckfodaaa
open Go.RowKit
set_option linter.unusedVariables false
set_option linter.unusedSimpArgs false

def whoAt (xs : List Wsh) (k : Nat) : Nat := ((xs[k]?.map Wsh.who).getD 0).toNat
def feeAt (xs : List Wsh) (k : Nat) : Int := (xs[k]?.map Wsh.fee).getD 0
def pkBetter (xs : List Wsh) (k : Nat) : Option Nat → Bool
  | none => true
  | some b => decide (feeAt xs b < feeAt xs k)
def pkStep (xs : List Wsh) (done : List Bool) (k : Nat) (s : List Bool × Option Nat) : List Bool × Option Nat :=
  if done.getD k false = true ∨ s.1.getD (whoAt xs k) false = true then s else (s.1.set (whoAt xs k) true, if pkBetter xs k s.2 then some k else s.2)
def pkGo (xs : List Wsh) (done : List Bool) : Nat → List Bool × Option Nat
  | 0 => ([false, false, false, false], none)
  | k + 1 => pkStep xs done k (pkGo xs done k)
def bI : Option Nat → Int
  | none => -1
  | some b => b
theorem pk_len (xs : List Wsh) (done : List Bool) (k : Nat) : (pkGo xs done k).1.length = 4 := by
  induction k with
  | zero => rfl
  | succ k ih =>
    rw [pkGo, pkStep]
    split
    · exact ih
    · rw [List.length_set]; exact ih
theorem getD_set' (l : List Bool) (i j : Nat) (h : i < l.length) : (l.set i true).getD j false = true ↔ j = i ∨ l.getD j false = true := by
  by_cases hij : i = j
  · subst hij
    simp [List.getD_eq_getElem?_getD, h]
  · rw [List.getD_eq_getElem?_getD, List.getElem?_set_ne hij, ← List.getD_eq_getElem?_getD]
    constructor
    · exact .inr
    · rintro (h1 | h1)
      · exact absurd h1.symm hij
      · exact h1
structure PkInv (xs : List Wsh) (done : List Bool) (k : Nat) (s : List Bool × Option Nat) : Prop where
  some_ : ∀ b, s.2 = some b → b < k ∧ done.getD b false = false ∧ ∀ j, j < b → done.getD j false = false → whoAt xs j ≠ whoAt xs b
  none_ : s.2 = none → ∀ j, j < k → done.getD j false = true
  met : ∀ q, s.1.getD q false = true ↔ ∃ j, j < k ∧ done.getD j false = false ∧ whoAt xs j = q
theorem pk_inv (xs : List Wsh) (done : List Bool) (hw : ∀ k, k < xs.length → whoAt xs k < 4) : ∀ k, k ≤ xs.length → PkInv xs done k (pkGo xs done k)
  | 0, _ => by
    refine ⟨fun b h => (by cases h), fun _ j h => by omega, fun q => ⟨fun h => ?_, fun ⟨j, h, _⟩ => by omega⟩⟩
    have : ([false, false, false, false] : List Bool).getD q false = false := by
      rcases q with _ | _ | _ | _ | q <;> rfl
    rw [pkGo, this] at h
    cases h
  | k + 1, hk => by
    have ih := pk_inv xs done hw k (by omega)
    have hl := pk_len xs done k
    have hwk := hw k (by omega)
    rw [pkGo]
    generalize pkGo xs done k = s at *
    obtain ⟨met, best⟩ := s
    simp only at hl
    unfold pkStep
    by_cases hd : done.getD k false = true
    · rw [if_pos (.inl hd)]
      refine ⟨fun b hb => ?_, fun hb j hj => ?_, fun q => ?_⟩
      · obtain ⟨h1, h2, h3⟩ := ih.some_ b hb
        exact ⟨by omega, h2, h3⟩
      · by_cases hjk : j = k
        · rw [hjk]; exact hd
        · exact ih.none_ hb j (by omega)
      · rw [ih.met]
        constructor
        · rintro ⟨j, h1, h2⟩; exact ⟨j, by omega, h2⟩
        · rintro ⟨j, h1, h2, h3⟩
          by_cases hjk : j = k
          · rw [hjk, hd] at h2; cases h2
          · exact ⟨j, by omega, h2, h3⟩
    · have hd' : done.getD k false = false := by simpa using hd
      by_cases hm : met.getD (whoAt xs k) false = true
      · rw [if_pos (.inr hm)]
        obtain ⟨j0, h1, h2, h3⟩ := (ih.met _).1 hm
        refine ⟨fun b hb => ?_, fun hb j hj => ?_, fun q => ?_⟩
        · obtain ⟨h1, h2, h3⟩ := ih.some_ b hb
          exact ⟨by omega, h2, h3⟩
        · have := ih.none_ hb j0 h1
          rw [h2] at this
          cases this
        · rw [ih.met]
          constructor
          · rintro ⟨j, h1, h2⟩; exact ⟨j, by omega, h2⟩
          · rintro ⟨j, h4, h5, h6⟩
            by_cases hjk : j = k
            · subst hjk; exact ⟨j0, h1, h2, h3.trans h6⟩
            · exact ⟨j, by omega, h5, h6⟩
      · rw [if_neg (by intro h; rcases h with h | h; exact hd h; exact hm h)]
        have hno : ∀ j, j < k → done.getD j false = false → whoAt xs j ≠ whoAt xs k := fun j h1 h2 h3 => hm ((ih.met _).2 ⟨j, h1, h2, h3⟩)
        refine ⟨fun b hb => ?_, fun hb j hj => ?_, fun q => ?_⟩
        · simp only at hb
          split at hb
          · injection hb with hb
            subst hb
            exact ⟨by omega, hd', hno⟩
          · obtain ⟨h1, h2, h3⟩ := ih.some_ b hb
            exact ⟨by omega, h2, h3⟩
        · simp only at hb
          split at hb
          · cases hb
          · rename_i hne
            rw [hb] at hne
            exact absurd rfl hne
        · simp only
          rw [getD_set' _ _ _ (by omega)]
          constructor
          · rintro (h | h)
            · exact ⟨k, by omega, hd', h.symm⟩
            · obtain ⟨j, h1, h2⟩ := (ih.met q).1 h
              exact ⟨j, by omega, h2⟩
          · rintro ⟨j, h4, h5, h6⟩
            by_cases hjk : j = k
            · subst hjk; exact .inl h6.symm
            · exact .inr ((ih.met q).2 ⟨j, by omega, h5, h6⟩)

def pkN (xs : List Wsh) : Nat → List Bool × List Nat
  | 0 => (List.replicate xs.length false, [])
  | j + 1 => match (pkGo xs (pkN xs j).1 xs.length).2 with
    | none => pkN xs j
    | some b => ((pkN xs j).1.set b true, (pkN xs j).2 ++ [b])
structure PkAll (xs : List Wsh) (j : Nat) (s : List Bool × List Nat) : Prop where
  dlen : s.1.length = xs.length
  plen : s.2.length = j
  cnt : s.1.count true = j
  mem : ∀ i, s.1.getD i false = true ↔ i ∈ s.2
  lt : ∀ i ∈ s.2, i < xs.length
theorem pk_best (xs : List Wsh) (done : List Bool) (hw : ∀ k, k < xs.length → whoAt xs k < 4) (hl : done.length = xs.length) (hc : done.count true < xs.length) :
    ∃ b, (pkGo xs done xs.length).2 = some b ∧ b < xs.length ∧ done.getD b false = false ∧ ∀ j, j < b → done.getD j false = false → whoAt xs j ≠ whoAt xs b := by
  have hi := pk_inv xs done hw xs.length (Nat.le_refl _)
  cases hb : (pkGo xs done xs.length).2 with
  | some b => exact ⟨b, rfl, hi.some_ b hb⟩
  | none =>
    have h1 := hi.none_ hb
    have : done.count true = done.length := by
      rw [List.count_eq_length]
      intro x hx
      obtain ⟨i, hi, rfl⟩ := List.getElem_of_mem hx
      have := h1 i (by omega)
      rw [List.getD_eq_getElem?_getD, List.getElem?_eq_getElem hi] at this
      exact this.symm
    omega
theorem count_set (l : List Bool) (b : Nat) (h : l.getD b false = false) (hb : b < l.length) : (l.set b true).count true = l.count true + 1 := by
  induction l generalizing b with
  | nil => simp at hb
  | cons x l ih =>
    cases b with
    | zero =>
      have : x = false := by simpa using h
      subst this
      simp
    | succ b =>
      have := ih b (by simpa using h) (by simpa using hb)
      rw [List.set_cons_succ, List.count_cons, List.count_cons, this]
      omega
theorem pk_all (xs : List Wsh) (hw : ∀ k, k < xs.length → whoAt xs k < 4) : ∀ j, j ≤ xs.length → PkAll xs j (pkN xs j)
  | 0, _ => by
    refine ⟨by simp [pkN], rfl, by simp [pkN, List.count_replicate], fun i => ?_, fun i h => (by cases h)⟩
    simp only [pkN, List.not_mem_nil, iff_false, List.getD_eq_getElem?_getD, List.getElem?_replicate]
    split <;> simp
  | j + 1, hj => by
    have ih := pk_all xs hw j (by omega)
    rw [pkN]
    obtain ⟨b, hb, h1, h2, h3⟩ := pk_best xs (pkN xs j).1 hw ih.dlen (by rw [ih.cnt]; omega)
    rw [hb]
    generalize pkN xs j = s at *
    obtain ⟨d, ps⟩ := s
    have e1 := ih.dlen
    have e2 := ih.plen
    have e3 := ih.cnt
    simp only at e1 e2 e3 h2 h3
    refine ⟨by simpa using e1, by simp; omega, ?_, fun i => ?_, fun i hi => ?_⟩
    · simp only
      rw [count_set d b h2 (by omega), e3]
    · simp only
      rw [getD_set' _ _ _ (by omega), ih.mem, List.mem_append]
      constructor
      · rintro (h | h)
        · exact .inr (by simp [h])
        · exact .inl h
      · rintro (h | h)
        · exact .inr h
        · exact .inl (by simpa using h)
    · simp only at hi
      rcases List.mem_append.1 hi with h | h
      · exact ih.lt i h
      · have : i = b := by simpa using h
        omega
/-- the picked wishes -/
def pickL (xs : List Wsh) (many : Int) : List Nat := if wishesB xs = true ∧ inB many 0 10 = true then (pkN xs (min many.toNat xs.length)).2 else []
theorem wishes_who {xs : List Wsh} (h : wishesB xs = true) : ∀ k (hk : k < xs.length), (0 ≤ xs[k].who ∧ xs[k].who ≤ 3) ∧ (0 ≤ xs[k].fee ∧ xs[k].fee ≤ 1000) ∧ actB (wshAct xs[k]) = true := by
  intro k hk
  simp only [wishesB, Bool.and_eq_true, List.all_eq_true] at h
  have h1 := h.1 xs[k] (List.getElem_mem hk)
  simp only [wishB, Bool.and_eq_true, inB_true] at h1
  exact ⟨h1.2.2, h1.2.1, h1.1⟩
theorem wishes_len {xs : List Wsh} (h : wishesB xs = true) : xs.length ≤ 12 := by
  simp only [wishesB, Bool.and_eq_true, decide_eq_true_eq] at h
  exact h.2
theorem wishes_at {xs : List Wsh} (h : wishesB xs = true) : ∀ k, k < xs.length → whoAt xs k < 4 := by
  intro k hk
  have := (wishes_who h k hk).1
  simp only [whoAt, List.getElem?_eq_getElem hk, Option.map_some, Option.getD_some]
  omega
theorem pickL_all {xs : List Wsh} (h : wishesB xs = true) (j : Nat) (hj : j ≤ xs.length) : PkAll xs j (pkN xs j) := pk_all xs (wishes_at h) j hj
theorem pickL_len (xs : List Wsh) (many : Int) : (pickL xs many).length ≤ 10 := by
  unfold pickL
  split
  · rename_i h
    have h2 := inB_true.1 h.2
    rw [(pickL_all h.1 _ (Nat.min_le_right _ _)).plen]
    omega
  · simp
end Go.Proofs.Ytcgheamckfodaaa
