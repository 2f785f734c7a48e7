/- Stores and values: the plain law. -/
import Derived.Test.YtefdhlfljpppfaaGreatPut
namespace Go.Proofs.YtefdhlfljpppfaaGreat
open Go.RowKit
set_option linter.unusedVariables false
set_option linter.unusedSimpArgs false

def setV (v : List Int) (e : Ent) : List Int := v.set e.k.toNat e.v
def setAll (v : List Int) (es : List Ent) : List Int := es.foldl setV v
def zeroV : List Int := List.replicate 32 0
def valsL (es : List Ent) : List Int := setAll zeroV es
def stGo (v : List Int) : Nat → List Ent
  | 0 => []
  | n + 1 => stGo v n ++ (if 0 < v.getD n 0 then [⟨(n : Int), v.getD n 0⟩] else [])
def storeL (v : List Int) : List Ent := stGo v 32
def findL : List Ent → Int → Option Int
  | [], _ => none
  | e :: es, key => if e.k = key then some e.v else findL es key
/-- everything that entries write, one after the other -/
def putAll (s : List Ent) (es : List Ent) : List Ent := es.foldl (fun s e => putL s e.k e.v) s

theorem setAll_len (v : List Int) (es : List Ent) : (setAll v es).length = v.length := by
  induction es generalizing v with
  | nil => rfl
  | cons e es ih => exact (ih _).trans (by simp [setV])
theorem valsL_len (es : List Ent) : (valsL es).length = 32 := (setAll_len _ _).trans (by simp [zeroV])
theorem setAll_snoc (v : List Int) (es : List Ent) (e : Ent) : setAll v (es ++ [e]) = setV (setAll v es) e := by simp [setAll]
theorem setAll_append (v : List Int) (es fs : List Ent) : setAll v (es ++ fs) = setAll (setAll v es) fs := by simp [setAll]
theorem atL_find (es : List Ent) (key : Int) : atL es key = (findL es key).getD 0 := by
  induction es with
  | nil => rfl
  | cons e es ih =>
    simp only [atL, findL]
    split
    · rfl
    · exact ih
theorem evOk_cons {l z : Int} {e : Ent} {es : List Ent} (h : evOk l z (e :: es) = true) : z < e.k ∧ e.k ≤ 31 ∧ l ≤ e.v ∧ e.v ≤ 1000000 ∧ evOk l e.k es = true := by
  simp only [evOk, Bool.and_eq_true, inB_true] at h
  obtain ⟨⟨⟨a, b⟩, c, d⟩, e⟩ := h
  exact ⟨by omega, b, c, d, e⟩
theorem evOk_mk {l z : Int} {e : Ent} {es : List Ent} (h1 : z < e.k) (h2 : e.k ≤ 31) (h3 : l ≤ e.v) (h4 : e.v ≤ 1000000) (h5 : evOk l e.k es = true) : evOk l z (e :: es) = true := by
  simp only [evOk, Bool.and_eq_true, inB_true]
  exact ⟨⟨by omega, by omega⟩, h5⟩
theorem evOk_mono {l z z' : Int} {es : List Ent} (h : evOk l z' es = true) (hz : z ≤ z') : evOk l z es = true := by
  cases es with
  | nil => rfl
  | cons e es =>
    obtain ⟨h1, h2, h3, h4, h5⟩ := evOk_cons h
    exact evOk_mk (by omega) h2 h3 h4 h5
theorem evOk_least {l l' z : Int} {es : List Ent} (h : evOk l z es = true) (hl : l' ≤ l) : evOk l' z es = true := by
  induction es generalizing z with
  | nil => rfl
  | cons e es ih =>
    obtain ⟨h1, h2, h3, h4, h5⟩ := evOk_cons h
    exact evOk_mk h1 h2 (by omega) h4 (ih h5)
theorem find_low {l z : Int} {es : List Ent} (h : evOk l z es = true) {key : Int} (hk : key ≤ z) : findL es key = none := by
  induction es generalizing z with
  | nil => rfl
  | cons e es ih =>
    obtain ⟨h1, h2, h3, h4, h5⟩ := evOk_cons h
    rw [findL, if_neg (by omega)]
    exact ih h5 (by omega)
theorem evOk_all {l z : Int} {es : List Ent} (h : evOk l z es = true) : ∀ e ∈ es, z < e.k ∧ e.k ≤ 31 ∧ l ≤ e.v ∧ e.v ≤ 1000000 := by
  induction es generalizing z with
  | nil => intro e he; cases he
  | cons x es ih =>
    obtain ⟨h1, h2, h3, h4, h5⟩ := evOk_cons h
    intro e he
    rcases List.mem_cons.1 he with rfl | he
    · exact ⟨h1, h2, h3, h4⟩
    · obtain ⟨g1, g2, g3, g4⟩ := ih h5 e he
      exact ⟨by omega, g2, g3, g4⟩
theorem setV_get (v : List Int) (e : Ent) (k : Nat) (hk : k < v.length) (h0 : 0 ≤ e.k) : (setV v e).getD k 0 = if e.k = (k : Int) then e.v else v.getD k 0 := by
  unfold setV
  rw [List.getD_eq_getElem?_getD, List.getD_eq_getElem?_getD]
  by_cases h : e.k = (k : Int)
  · rw [if_pos h, h]
    simp [hk]
  · rw [if_neg h, List.getElem?_set_ne (by omega)]
theorem setAll_get {l z : Int} {es : List Ent} (h : evOk l z es = true) (hz : -1 ≤ z) (v : List Int) (k : Nat) (hk : k < v.length) : (setAll v es).getD k 0 = (findL es (k : Int)).getD (v.getD k 0) := by
  induction es generalizing z v with
  | nil => rfl
  | cons e es ih =>
    obtain ⟨h1, h2, h3, h4, h5⟩ := evOk_cons h
    show (setAll (setV v e) es).getD k 0 = _
    rw [ih h5 (by omega) (setV v e) (by simpa [setV] using hk), setV_get v e k hk (by omega), findL]
    by_cases hek : e.k = (k : Int)
    · rw [if_pos hek, if_pos hek, find_low h5 (by omega)]
      rfl
    · rw [if_neg hek, if_neg hek]
theorem zeroV_get (k : Nat) : zeroV.getD k 0 = 0 := by
  rw [List.getD_eq_getElem?_getD, zeroV, List.getElem?_replicate]
  split <;> rfl
theorem vals_get {l z : Int} {es : List Ent} (h : evOk l z es = true) (hz : -1 ≤ z) (k : Nat) (hk : k < 32) : (valsL es).getD k 0 = atL es (k : Int) := by
  rw [valsL, setAll_get h hz zeroV k (by simpa [zeroV] using hk), zeroV_get, atL_find]
theorem store_ext {z : Int} {a b : List Ent} (ha : evOk 1 z a = true) (hb : evOk 1 z b = true) (h : ∀ k, z < k → k ≤ 31 → atL a k = atL b k) : a = b := by
  induction a generalizing z b with
  | nil =>
    cases b with
    | nil => rfl
    | cons f bs =>
      obtain ⟨h1, h2, h3, h4, h5⟩ := evOk_cons hb
      have := h f.k h1 h2
      rw [atL, atL, if_pos rfl] at this
      omega
  | cons e us ih =>
    obtain ⟨h1, h2, h3, h4, h5⟩ := evOk_cons ha
    cases b with
    | nil =>
      have := h e.k h1 h2
      rw [atL, atL, if_pos rfl] at this
      omega
    | cons f bs =>
      obtain ⟨g1, g2, g3, g4, g5⟩ := evOk_cons hb
      have he := h e.k h1 h2
      have hf := h f.k g1 g2
      have hk : e.k = f.k := by
        rcases Int.lt_trichotomy e.k f.k with hlt | heq | hgt
        · rw [atL_find, atL_find, findL, if_pos rfl, findL, if_neg (by omega), find_low g5 (by omega)] at he
          simp at he
          omega
        · exact heq
        · rw [atL_find, atL_find, findL, if_neg (by omega), find_low h5 (by omega), findL, if_pos rfl] at hf
          simp at hf
          omega
      have hv : e.v = f.v := by
        rw [atL, atL, if_pos rfl, if_pos hk.symm] at he
        exact he
      have hef : e = f := by cases e; cases f; simp_all
      subst hef
      rw [ih h5 g5 fun k hk1 hk2 => ?_]
      have := h k (by omega) hk2
      rw [atL, atL, if_neg (by omega), if_neg (by omega)] at this
      exact this
theorem putGo_true (key value : Int) (es : List Ent) : putGo key value true es = es.filter fun e => e.k != key := by
  induction es with
  | nil => rfl
  | cons e es ih =>
    rw [putGo, Bool.true_or, ih]
    by_cases h : e.k = key <;> simp [h]
theorem evOk_filter {l z : Int} {es : List Ent} (p : Ent → Bool) (h : evOk l z es = true) : evOk l z (es.filter p) = true := by
  induction es generalizing z with
  | nil => rfl
  | cons e es ih =>
    obtain ⟨h1, h2, h3, h4, h5⟩ := evOk_cons h
    rw [List.filter_cons]
    split
    · exact evOk_mk h1 h2 h3 h4 (ih h5)
    · exact evOk_mono (ih h5) (by omega)
theorem find_filter (key k : Int) (es : List Ent) : findL (es.filter fun e => e.k != key) k = if k = key then none else findL es k := by
  induction es with
  | nil => simp [findL]
  | cons e es ih =>
    rw [List.filter_cons]
    by_cases h : e.k = key
    · rw [if_neg (by simp [h]), ih]
      by_cases hk : k = key
      · simp [hk]
      · rw [if_neg hk, if_neg hk, findL, if_neg (by omega)]
    · rw [if_pos (by simp [h]), findL, ih, findL]
      by_cases hk : k = key
      · subst hk
        rw [if_neg h, if_pos rfl, if_pos rfl]
      · rw [if_neg hk, if_neg hk]
theorem putGo_false {l z key value : Int} {es : List Ent} (h : evOk l z es = true) (hz : z < key) (hk : key ≤ 31) (hv : l ≤ value) (hv2 : value ≤ 1000000) :
    evOk l z (putGo key value false es) = true ∧ ∀ k, findL (putGo key value false es) k = if k = key then some value else findL es k := by
  induction es generalizing z with
  | nil =>
    rw [putGo, if_neg (by simp)]
    refine ⟨evOk_mk hz hk hv hv2 rfl, fun k => ?_⟩
    by_cases hkk : k = key
    · simp [findL, hkk]
    · have : ¬ key = k := fun e => hkk e.symm
      simp [findL, hkk, this]
  | cons e es ih =>
    obtain ⟨h1, h2, h3, h4, h5⟩ := evOk_cons h
    rw [putGo]
    by_cases hke : key ≤ e.k
    · simp only [hke, and_self, if_true, decide_true, Bool.or_true, putGo_true]
      by_cases hek : e.k = key
      · rw [if_pos hek]
        refine ⟨evOk_mk hz hk hv hv2 (evOk_mono (evOk_filter _ h5) (by omega)), fun k => ?_⟩
        show findL (⟨key, value⟩ :: (es.filter fun e => e.k != key)) k = _
        rw [findL, find_filter, findL]
        by_cases hkk : k = key
        · simp [hkk]
        · rw [if_neg (by simp only; omega), if_neg hkk, if_neg hkk, if_neg (by omega)]
      · rw [if_neg hek]
        refine ⟨evOk_mk hz hk hv hv2 (evOk_mk (by simp only; omega) h2 h3 h4 (evOk_filter _ h5)), fun k => ?_⟩
        show findL (⟨key, value⟩ :: e :: (es.filter fun e => e.k != key)) k = _
        rw [findL, findL, find_filter, findL]
        by_cases hkk : k = key
        · simp [hkk]
        · rw [if_neg (by simp only; omega), if_neg hkk, if_neg hkk]
    · have hke' : decide (key ≤ e.k) = false := by simpa using hke
      simp only [hke, and_false, if_false, hke', Bool.or_false, List.nil_append]
      rw [if_neg (by omega)]
      obtain ⟨i1, i2⟩ := ih h5 (by omega)
      refine ⟨evOk_mk h1 h2 h3 h4 i1, fun k => ?_⟩
      show findL (e :: putGo key value false es) k = _
      rw [findL, i2, findL]
      by_cases hkk : k = key
      · subst hkk
        rw [if_neg (by omega), if_pos rfl, if_pos rfl]
      · rw [if_neg hkk, if_neg hkk]
theorem putL_ok {s : List Ent} {key value : Int} (h : storeB s = true) (h1 : 0 ≤ key) (h2 : key ≤ 31) (h3 : 0 ≤ value) (h4 : value ≤ 1000000) :
    storeB (putL s key value) = true ∧ ∀ k, atL (putL s key value) k = if k = key then value else atL s k := by
  unfold putL
  by_cases hv : value = 0
  · subst hv
    rw [show ((0 : Int) == 0) = true from rfl, putGo_true]
    refine ⟨evOk_filter _ h, fun k => ?_⟩
    rw [atL_find, find_filter, atL_find]
    by_cases hk : k = key
    · simp [hk]
    · rw [if_neg hk, if_neg hk]
  · rw [show (value == 0) = false by simpa using hv]
    obtain ⟨i1, i2⟩ := putGo_false (key := key) (value := value) h (by omega) h2 (by omega) h4
    refine ⟨i1, fun k => ?_⟩
    rw [atL_find, i2, atL_find]
    by_cases hk : k = key
    · simp [hk]
    · rw [if_neg hk, if_neg hk]
theorem stGo_ok (v : List Int) (hv : ∀ k, 0 ≤ v.getD k 0 ∧ v.getD k 0 ≤ 1000000) (n : Nat) (hn : n ≤ 32) : (∀ z : Int, (n : Int) ≤ z + 1 ∨ True → evOk 1 (-1) (stGo v n) = true) ∧ ∀ k, findL (stGo v n) k = if 0 ≤ k ∧ k < n ∧ 0 < v.getD k.toNat 0 then some (v.getD k.toNat 0) else none := by
  have key : ∀ n, n ≤ 32 → evOk 1 (-1) (stGo v n) = true ∧ (∀ e ∈ stGo v n, e.k < n) ∧ ∀ k, findL (stGo v n) k = if 0 ≤ k ∧ k < n ∧ 0 < v.getD k.toNat 0 then some (v.getD k.toNat 0) else none := by
    have app : ∀ (es : List Ent) (z : Int) (e : Ent), evOk 1 z es = true → z < e.k → (∀ x ∈ es, x.k < e.k) → e.k ≤ 31 → 1 ≤ e.v → e.v ≤ 1000000 → evOk 1 z (es ++ [e]) = true := by
      intro es
      induction es with
      | nil => intro z e _ h1 _ h2 h3 h4; exact evOk_mk h1 h2 h3 h4 rfl
      | cons x es ih =>
        intro z e h h1 hx h2 h3 h4
        obtain ⟨g1, g2, g3, g4, g5⟩ := evOk_cons h
        exact evOk_mk g1 g2 g3 g4 (ih x.k e g5 (hx x (by simp)) (fun y hy => hx y (by simp [hy])) h2 h3 h4)
    have fap : ∀ (es : List Ent) (e : Ent) (k : Int), findL (es ++ [e]) k = match findL es k with | some u => some u | none => if e.k = k then some e.v else none := by
      intro es e k
      induction es with
      | nil => rfl
      | cons x es ih =>
        show findL (x :: (es ++ [e])) k = _
        rw [findL, findL]
        split
        · rfl
        · exact ih
    intro n
    induction n with
    | zero =>
      intro _
      refine ⟨rfl, fun e he => (by cases he), fun k => ?_⟩
      rw [if_neg (by omega)]
      rfl
    | succ n ih =>
      intro hn
      obtain ⟨i1, i2, i3⟩ := ih (by omega)
      rw [stGo]
      by_cases hp : 0 < v.getD n 0
      · rw [if_pos hp]
        refine ⟨app _ _ _ i1 (by simp only; omega) (fun x hx => i2 x hx) (by simp only; omega) (by simp only; omega) (hv n).2, fun e he => ?_, fun k => ?_⟩
        · rcases List.mem_append.1 he with he | he
          · have := i2 e he; omega
          · have : e = ⟨(n : Int), v.getD n 0⟩ := by simpa using he
            rw [this]; simp only; omega
        · rw [fap, i3]
          by_cases hk : k = (n : Int)
          · subst hk
            have c1 : ¬ (0 ≤ (n : Int) ∧ (n : Int) < (n : Int) ∧ 0 < v.getD (n : Int).toNat 0) := by omega
            have c2 : 0 ≤ (n : Int) ∧ (n : Int) < ((n + 1 : Nat) : Int) ∧ 0 < v.getD (n : Int).toNat 0 := ⟨by omega, by omega, by simpa using hp⟩
            rw [if_neg c1, if_pos c2]
            simp
          · by_cases hc : 0 ≤ k ∧ k < n ∧ 0 < v.getD k.toNat 0
            · have c2 : 0 ≤ k ∧ k < ((n + 1 : Nat) : Int) ∧ 0 < v.getD k.toNat 0 := ⟨hc.1, by omega, hc.2.2⟩
              rw [if_pos hc, if_pos c2]
            · have c2 : ¬ (0 ≤ k ∧ k < ((n + 1 : Nat) : Int) ∧ 0 < v.getD k.toNat 0) := fun h => hc ⟨h.1, by omega, h.2.2⟩
              have c3 : ¬ (n : Int) = k := fun h => hk h.symm
              rw [if_neg hc, if_neg c2]
              simp only [c3, if_false]
      · rw [if_neg hp, List.append_nil]
        refine ⟨i1, fun e he => by have := i2 e he; omega, fun k => ?_⟩
        rw [i3]
        by_cases hc : 0 ≤ k ∧ k < n ∧ 0 < v.getD k.toNat 0
        · rw [if_pos hc, if_pos ⟨hc.1, by omega, hc.2.2⟩]
        · rw [if_neg hc, if_neg]
          rintro ⟨h1, h2, h3⟩
          by_cases hk : k = (n : Int)
          · subst hk; exact hp (by simpa using h3)
          · exact hc ⟨h1, by omega, h3⟩
  exact ⟨fun _ _ => (key n hn).1, (key n hn).2.2⟩
/-- values as a list of numbers in 0..1000000 -/
def valOk (v : List Int) : Prop := v.length = 32 ∧ ∀ k, 0 ≤ v.getD k 0 ∧ v.getD k 0 ≤ 1000000
theorem storeL_ok {v : List Int} (hv : valOk v) : storeB (storeL v) = true ∧ ∀ k : Nat, k < 32 → atL (storeL v) (k : Int) = v.getD k 0 := by
  obtain ⟨h1, h2⟩ := stGo_ok v hv.2 32 (Nat.le_refl _)
  refine ⟨h1 31 (.inr trivial), fun k hk => ?_⟩
  rw [atL_find]
  show (findL (stGo v 32) k).getD 0 = _
  rw [h2]
  by_cases hc : 0 < v.getD k 0
  · rw [if_pos ⟨by omega, by omega, by simpa using hc⟩]
    simp
  · rw [if_neg (fun h => hc (by simpa using h.2.2))]
    have := (hv.2 k).1
    simp only [Option.getD_none]
    omega
theorem valOk_set {v : List Int} (hv : valOk v) {e : Ent} (h0 : 0 ≤ e.k) (h1 : 0 ≤ e.v) (h2 : e.v ≤ 1000000) : valOk (setV v e) := by
  refine ⟨by simpa [setV] using hv.1, fun k => ?_⟩
  by_cases hk : k < v.length
  · rw [setV_get v e k hk h0]
    split
    · exact ⟨h1, h2⟩
    · exact hv.2 k
  · rw [List.getD_eq_getElem?_getD, List.getElem?_eq_none (by simp [setV]; omega)]
    simp
theorem valOk_zero : valOk zeroV := ⟨by simp [zeroV], fun k => by rw [zeroV_get]; omega⟩
theorem valOk_all {v : List Int} (hv : valOk v) {l z : Int} {es : List Ent} (h : evOk l z es = true) (hl : 0 ≤ l) (hz : -1 ≤ z) : valOk (setAll v es) := by
  induction es generalizing z v with
  | nil => exact hv
  | cons e es ih =>
    obtain ⟨h1, h2, h3, h4, h5⟩ := evOk_cons h
    exact ih (valOk_set hv (by omega) (by omega) h4) h5 (by omega)
theorem valOk_vals {l : Int} {es : List Ent} (h : evOk l (-1) es = true) (hl : 0 ≤ l) : valOk (valsL es) := valOk_all valOk_zero h hl (by omega)
theorem vals_ext {v u : List Int} (hv : valOk v) (hu : valOk u) (h : ∀ k, k < 32 → v.getD k 0 = u.getD k 0) : v = u := by
  refine List.ext_getElem (hv.1.trans hu.1.symm) fun k h1 h2 => ?_
  have := h k (by have := hv.1; omega)
  rw [List.getD_eq_getElem?_getD, List.getD_eq_getElem?_getD, List.getElem?_eq_getElem h1, List.getElem?_eq_getElem h2] at this
  simpa using this
theorem storeB_def (es : List Ent) : storeB es = evOk 1 (-1) es := rfl
/-- a store is what its values are as a store -/
theorem store_vals {s : List Ent} (h : storeB s = true) : storeL (valsL s) = s := by
  rw [storeB_def] at h
  obtain ⟨h1, h2⟩ := storeL_ok (valOk_vals h (by omega))
  rw [storeB_def] at h1
  generalize hv : valsL s = v at *
  generalize storeL v = t at *
  refine store_ext h1 h fun k hk1 hk2 => ?_
  obtain ⟨j, hj⟩ := Int.eq_ofNat_of_zero_le (show 0 ≤ k by omega)
  subst hj
  have e1 := h2 j (by omega)
  have e2 := vals_get h (by omega) j (by omega)
  rw [hv] at e2
  exact e1.trans e2
theorem vals_store {v : List Int} (hv : valOk v) : valsL (storeL v) = v := by
  obtain ⟨h1, h2⟩ := storeL_ok hv
  rw [storeB_def] at h1
  generalize storeL v = t at *
  refine vals_ext (valOk_vals h1 (by omega)) hv fun k hk => ?_
  rw [vals_get h1 (by omega) k hk, h2 k hk]
theorem vals_put {s : List Ent} {key value : Int} (h : storeB s = true) (h1 : 0 ≤ key) (h2 : key ≤ 31) (h3 : 0 ≤ value) (h4 : value ≤ 1000000) : valsL (putL s key value) = setV (valsL s) ⟨key, value⟩ := by
  obtain ⟨g1, g2⟩ := putL_ok h h1 h2 h3 h4
  refine vals_ext (valOk_vals g1 (by omega)) (valOk_set (valOk_vals h (by omega)) h1 h3 h4) fun k hk => ?_
  rw [vals_get g1 (by omega) k hk, g2, setV_get _ _ k (by rw [valsL_len]; exact hk) h1, vals_get h (by omega) k hk]
  by_cases hkk : key = (k : Int)
  · simp [hkk]
  · rw [if_neg (fun e => hkk e.symm), if_neg hkk]
theorem putAll_ok {l z : Int} {s es : List Ent} (hs : storeB s = true) (h : evOk l z es = true) (hl : 0 ≤ l) (hz : -1 ≤ z) : storeB (putAll s es) = true ∧ valsL (putAll s es) = setAll (valsL s) es := by
  induction es generalizing z s with
  | nil => exact ⟨hs, rfl⟩
  | cons e es ih =>
    obtain ⟨h1, h2, h3, h4, h5⟩ := evOk_cons h
    obtain ⟨g1, g2⟩ := ih (putL_ok hs (by omega) h2 (by omega) h4).1 h5 (by omega)
    refine ⟨g1, g2.trans ?_⟩
    rw [vals_put hs (by omega) h2 (by omega) h4]
    rfl
/-- entries written to a store: as values and one after the other -/
theorem write_eq {s es : List Ent} (hs : storeB s = true) (h : diffB es = true) : storeL (setAll (valsL s) es) = putAll s es := by
  obtain ⟨h1, h2⟩ := putAll_ok hs h (by omega) (by omega)
  rw [← h2, store_vals h1]
theorem storeL_len (v : List Int) : (storeL v).length ≤ 32 := by
  have : ∀ n, (stGo v n).length ≤ n := by
    intro n
    induction n with
    | zero => simp [stGo]
    | succ n ih => rw [stGo, List.length_append]; split <;> simp <;> omega
  exact this 32
theorem evOk_len {l z : Int} {es : List Ent} (h : evOk l z es = true) (hz : -1 ≤ z) (hz2 : z ≤ 31) : (es.length : Int) ≤ 31 - z := by
  induction es generalizing z with
  | nil => simp; omega
  | cons e es ih =>
    obtain ⟨h1, h2, h3, h4, h5⟩ := evOk_cons h
    have := ih h5 (by omega) h2
    rw [List.length_cons]
    omega
theorem store_len {es : List Ent} (h : storeB es = true) : es.length ≤ 32 := by have := evOk_len h (by omega) (by omega); omega
theorem diff_len {es : List Ent} (h : diffB es = true) : es.length ≤ 32 := by have := evOk_len h (by omega) (by omega); omega
end Go.Proofs.YtefdhlfljpppfaaGreat
