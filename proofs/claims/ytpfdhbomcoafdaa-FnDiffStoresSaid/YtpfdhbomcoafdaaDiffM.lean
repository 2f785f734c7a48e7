/- Differences: the plain law. -/
import Derived.Test.YtpfdhbomcoafdaaJoin
namespace Go.Proofs.Ytpfdhbomcoafdaa
open Go.RowKit
set_option linter.unusedVariables false
set_option linter.unusedSimpArgs false

theorem evOk_snoc {l z : Int} {es : List Ent} {e : Ent} (h : evOk l z es = true) (h1 : z < e.k) (hx : ∀ x ∈ es, x.k < e.k) (h2 : e.k ≤ 31) (h3 : l ≤ e.v) (h4 : e.v ≤ 1000000) : evOk l z (es ++ [e]) = true := by
  induction es generalizing z with
  | nil => exact evOk_mk h1 h2 h3 h4 rfl
  | cons x es ih =>
    obtain ⟨g1, g2, g3, g4, g5⟩ := evOk_cons h
    exact evOk_mk g1 g2 g3 g4 (ih g5 (hx x (by simp)) (fun y hy => hx y (by simp [hy])))
theorem find_snoc (es : List Ent) (e : Ent) (k : Int) : findL (es ++ [e]) k = match findL es k with | some u => some u | none => if e.k = k then some e.v else none := by
  induction es with
  | nil => rfl
  | cons x es ih =>
    show findL (x :: (es ++ [e])) k = _
    rw [findL, findL]
    split
    · rfl
    · exact ih
theorem find_bd {l z : Int} {es : List Ent} (h : evOk l z es = true) {k y : Int} (hf : findL es k = some y) : l ≤ y ∧ y ≤ 1000000 := by
  induction es generalizing z with
  | nil => cases hf
  | cons e es ih =>
    obtain ⟨h1, h2, h3, h4, h5⟩ := evOk_cons h
    rw [findL] at hf
    split at hf
    · injection hf with hf; subst hf; exact ⟨h3, h4⟩
    · exact ih h5 hf
/-- entries for the keys below n, each by f -/
def keysN (f : Int → Option Int) : Nat → List Ent
  | 0 => []
  | n + 1 => keysN f n ++ (match f (n : Int) with | some y => [⟨(n : Int), y⟩] | none => [])
theorem keysN_ok (f : Int → Option Int) (l : Int) (hf : ∀ k y, f k = some y → l ≤ y ∧ y ≤ 1000000) (n : Nat) (hn : n ≤ 32) : evOk l (-1) (keysN f n) = true ∧ (∀ e ∈ keysN f n, e.k < n) ∧ ∀ k : Int, 0 ≤ k → findL (keysN f n) k = if k < n then f k else none := by
  induction n with
  | zero => exact ⟨rfl, fun e he => (by cases he), fun k hk => by rw [if_neg (by omega)]; rfl⟩
  | succ n ih =>
    obtain ⟨i1, i2, i3⟩ := ih (by omega)
    rw [keysN]
    cases hy : f (n : Int) with
    | none =>
      simp only [List.append_nil]
      refine ⟨i1, fun e he => by have := i2 e he; omega, fun k hk => ?_⟩
      rw [i3 k hk]
      by_cases h1 : k = (n : Int)
      · subst h1
        rw [if_neg (by omega), if_pos (by omega), hy]
      · by_cases h2 : k < n
        · rw [if_pos h2, if_pos (by omega)]
        · rw [if_neg h2, if_neg (by omega)]
    | some y =>
      obtain ⟨y1, y2⟩ := hf _ _ hy
      refine ⟨evOk_snoc i1 (by simp only; omega) (fun x hx => i2 x hx) (by simp only; omega) y1 y2, fun e he => ?_, fun k hk => ?_⟩
      · rcases List.mem_append.1 he with h | h
        · have := i2 e h; omega
        · have : e = ⟨(n : Int), y⟩ := by simpa using h
          rw [this]; simp only; omega
      · rw [find_snoc, i3 k hk]
        by_cases h1 : k = (n : Int)
        · subst h1
          have c2 : (n : Int) < ((n + 1 : Nat) : Int) := by omega
          have c3 : ¬ (n : Int) < (n : Int) := by omega
          simp only [c2, c3, if_true, if_false, hy]
        · have c3 : ¬ (n : Int) = k := fun e => h1 e.symm
          by_cases h2 : k < (n : Int)
          · have c2 : k < ((n + 1 : Nat) : Int) := by omega
            simp only [h2, c2, if_true]
            cases f k <;> simp [c3]
          · have c2 : ¬ k < ((n + 1 : Nat) : Int) := by omega
            simp only [h2, c2, if_false, c3]
theorem joinN_keys (a b : List Ent) (n : Nat) : joinN a b n = keysN (fun k => match findL b k with | some y => some y | none => findL a k) n := by
  induction n with
  | zero => rfl
  | succ n ih =>
    rw [joinN, keysN, ih]
    cases findL b (n : Int) <;> cases findL a (n : Int) <;> rfl
theorem join_ok {a b : List Ent} (ha : diffB a = true) (hb : diffB b = true) : diffB (joinL a b) = true ∧ ∀ k : Int, 0 ≤ k → k ≤ 31 → findL (joinL a b) k = match findL b k with | some y => some y | none => findL a k := by
  have h1 : joinL a b = joinN a b 32 := by unfold joinL; rw [if_pos ⟨ha, hb⟩]
  rw [h1, joinN_keys]
  have hf : ∀ k y, (fun k => match findL b k with | some y => some y | none => findL a k) k = some y → (0 : Int) ≤ y ∧ y ≤ 1000000 := by
    intro k y h
    simp only at h
    cases hb2 : findL b k with
    | some u => rw [hb2] at h; injection h with h; subst h; exact find_bd (show evOk 0 (-1) b = true from hb) hb2
    | none => rw [hb2] at h; exact find_bd (show evOk 0 (-1) a = true from ha) h
  obtain ⟨i1, i2, i3⟩ := keysN_ok _ 0 hf 32 (by omega)
  refine ⟨i1, fun k h0 hk => ?_⟩
  rw [i3 k h0, if_pos (by omega)]
theorem applyL_yes {s d : List Ent} (hs : storeB s = true) (hd : diffB d = true) : storeB (applyL s d) = true ∧ valsL (applyL s d) = setAll (valsL s) d := by
  have h1 : applyL s d = putAll s d := by unfold applyL; rw [if_pos ⟨hs, hd⟩]
  rw [h1]
  exact putAll_ok hs (show evOk 0 (-1) d = true from hd) (by omega) (by omega)
theorem store_inj {s t : List Ent} (hs : storeB s = true) (ht : storeB t = true) (h : valsL s = valsL t) : s = t := by
  rw [← store_vals hs, ← store_vals ht, h]
theorem setAll_at {d : List Ent} (hd : diffB d = true) {v : List Int} (hv : v.length = 32) (k : Nat) (hk : k < 32) : (setAll v d).getD k 0 = (findL d (k : Int)).getD (v.getD k 0) := setAll_get (show evOk 0 (-1) d = true from hd) (by omega) v k (by omega)
theorem list_ext32 {v u : List Int} (hv : v.length = 32) (hu : u.length = 32) (h : ∀ k, k < 32 → v.getD k 0 = u.getD k 0) : v = u := by
  refine List.ext_getElem (hv.trans hu.symm) fun k h1 h2 => ?_
  have := h k (by omega)
  rw [List.getD_eq_getElem?_getD, List.getD_eq_getElem?_getD, List.getElem?_eq_getElem h1, List.getElem?_eq_getElem h2] at this
  simpa using this
theorem apply_twice {s d : List Ent} (hs : storeB s = true) (hd : diffB d = true) : applyL (applyL s d) d = applyL s d := by
  obtain ⟨h1, h2⟩ := applyL_yes hs hd
  obtain ⟨h3, h4⟩ := applyL_yes h1 hd
  refine store_inj h3 h1 ?_
  rw [h4, h2]
  have hl : (setAll (valsL s) d).length = 32 := (setAll_len _ _).trans (valsL_len s)
  refine list_ext32 ((setAll_len _ _).trans hl) hl fun k hk => ?_
  rw [setAll_at hd hl k hk, setAll_at hd (valsL_len s) k hk]
  cases findL d (k : Int) <;> rfl
theorem apply_join {s a b : List Ent} (hs : storeB s = true) (ha : diffB a = true) (hb : diffB b = true) : applyL s (joinL a b) = applyL (applyL s a) b := by
  obtain ⟨j1, j2⟩ := join_ok ha hb
  obtain ⟨h1, h2⟩ := applyL_yes hs j1
  obtain ⟨h3, h4⟩ := applyL_yes hs ha
  obtain ⟨h5, h6⟩ := applyL_yes h3 hb
  refine store_inj h1 h5 ?_
  rw [h2, h6, h4]
  have hl : (setAll (valsL s) a).length = 32 := (setAll_len _ _).trans (valsL_len s)
  refine list_ext32 ((setAll_len _ _).trans (valsL_len s)) ((setAll_len _ _).trans hl) fun k hk => ?_
  rw [setAll_at j1 (valsL_len s) k hk, setAll_at hb hl k hk, setAll_at ha (valsL_len s) k hk, j2 _ (by omega) (by omega)]
  cases findL b (k : Int) <;> rfl
theorem apply_at {s d : List Ent} (hs : storeB s = true) (hd : diffB d = true) (k : Nat) (hk : k < 32) : atL (applyL s d) (k : Int) = (findL d (k : Int)).getD (atL s (k : Int)) := by
  obtain ⟨h1, h2⟩ := applyL_yes hs hd
  rw [← store_get h1 k hk, h2, setAll_at hd (valsL_len s) k hk, store_get hs k hk]
theorem diffL_keys {a b : List Ent} (ha : storeB a = true) (hb : storeB b = true) : diffL a b = keysN (fun k => if atL a k != atL b k then some (atL b k) else none) 32 := by
  have h1 : changedL a b = chgN a b 32 := by simp [changedL, ha, hb]
  unfold diffL
  rw [h1]
  have key : ∀ n, (chgN a b n).map (fun k => (⟨k, atL b k⟩ : Ent)) = keysN (fun k => if atL a k != atL b k then some (atL b k) else none) n := by
    intro n
    induction n with
    | zero => rfl
    | succ n ih =>
      rw [chgN_succ, List.map_append, ih, keysN]
      congr 1
      split <;> simp_all
  exact key 32
theorem atL_bd {s : List Ent} (h : storeB s = true) (k : Int) : 0 ≤ atL s k ∧ atL s k ≤ 1000000 := by
  rw [atL_find]
  cases hf : findL s k with
  | none => simp
  | some y =>
    have := find_bd (show evOk 1 (-1) s = true from h) hf
    simp only [Option.getD_some]
    omega
theorem diff_ok {a b : List Ent} (ha : storeB a = true) (hb : storeB b = true) : diffB (diffL a b) = true ∧ applyL a (diffL a b) = b := by
  have hk := diffL_keys ha hb
  have hf : ∀ k y, (fun k => if atL a k != atL b k then some (atL b k) else none) k = some y → (0 : Int) ≤ y ∧ y ≤ 1000000 := by
    intro k y h
    simp only at h
    split at h
    · injection h with h; subst h; exact atL_bd hb k
    · cases h
  obtain ⟨i1, i2, i3⟩ := keysN_ok _ 0 hf 32 (by omega)
  rw [← hk] at i1 i3
  refine ⟨i1, ?_⟩
  obtain ⟨h1, h2⟩ := applyL_yes ha (show diffB (diffL a b) = true from i1)
  refine store_inj h1 hb ?_
  rw [h2]
  refine list_ext32 ((setAll_len _ _).trans (valsL_len a)) (valsL_len b) fun k hk => ?_
  rw [setAll_at (show diffB (diffL a b) = true from i1) (valsL_len a) k hk, store_get ha k hk, store_get hb k hk, i3 _ (by omega), if_pos (by omega)]
  by_cases h : atL a (k : Int) = atL b (k : Int)
  · simp [h]
  · simp [h]
theorem diff_self (a : List Ent) : diffL a a = [] := by
  have h : changedL a a = [] := by
    unfold changedL
    split
    · unfold chgN
      simp
    · rfl
  simp [diffL, h]
end Go.Proofs.Ytpfdhbomcoafdaa
