/- What an action writes: (impl.Action).result. Printed by gen_result.py. -/
import Derived.Test.YtefdhlfljpppfaaRun
namespace Go.Proofs.Ytefdhlfljpppfaa
open Go.RowKit
set_option linter.unusedVariables false
set_option linter.unusedSimpArgs false
attribute [local go_sem ↓] Go.wp_at_zero Go.wp_at_succ

/-- facts that are kept in a region with one map literal -/
def StM (f : Int → Int) (base : Nat) (g : Value → World → Prop) : Prop := ∀ v a b, EM f base a b → g v a → g v b
def mV (u : Value) (v : Value) (_ : World) : Prop := v = u
def mMap (f : Int → Int) (base : Nat) (l : List Int) (v : Value) (w : World) : Prop := v = .map (some base) ∧ MapAt f w base l
def mHas (f : Int → Int) (base : Nat) (l : List Int) (_ : Value) (w : World) : Prop := MapAt f w base l
def mAny (_ : Value) (_ : World) : Prop := True
theorem sm_V (f : Int → Int) (base : Nat) (u : Value) : StM f base (mV u) := fun _ _ _ _ h => h
theorem sm_Map (f : Int → Int) (base : Nat) (l : List Int) : StM f base (mMap f base l) := fun _ _ _ he ⟨h1, h2⟩ => ⟨h1, he.2 l h2⟩
theorem sm_Has (f : Int → Int) (base : Nat) (l : List Int) : StM f base (mHas f base l) := fun _ _ _ he h => he.2 l h
theorem sm_Any (f : Int → Int) (base : Nat) : StM f base mAny := fun _ _ _ _ _ => trivial
def StML (f : Int → Int) (base : Nat) : List (Value → World → Prop) → Prop
  | [] => True
  | g :: l => StM f base g ∧ StML f base l
theorem stml_get {f : Int → Int} {base : Nat} : ∀ {l : List (Value → World → Prop)}, StML f base l → ∀ i, StM f base (l.getD i fun _ _ => True)
  | [], _, i => fun _ _ _ _ _ => trivial
  | g :: l, h, 0 => h.1
  | g :: l, h, i + 1 => by simpa using stml_get h.2 i
def locM (fs : List (Value → World → Prop)) (i : Nat) (v : Value) (w : World) : Prop := (fs.getD i fun _ _ => True) v w
theorem locM_st {f : Int → Int} {base : Nat} {fs : List (Value → World → Prop)} (h : StML f base fs) (n : Nat) (i : Nat) (v : Value) (a b : World) (_ : i < n) (hf : locM fs i v a) (hc : EM f base a b) : locM fs i v b := stml_get h i v a b hc hf
theorem MapAt.sub {f : Int → Int} {w : World} {b : Nat} {ks l : List Int} (h : MapAt f w b ks) (hl : ∀ k ∈ l, k ∈ ks) : MapAt f w b l := by
  obtain ⟨n, D, h0, h1, h2, h3⟩ := h
  exact ⟨n, D, h0, h1, h2, fun k hk => h3 k (hl k hk)⟩
theorem MapAt.both {f : Int → Int} {w : World} {b : Nat} {ks l : List Int} (h : MapAt f w b ks) (g : MapAt f w b l) : MapAt f w b (ks ++ l) := by
  obtain ⟨n, D, h0, h1, h2, h3⟩ := h
  obtain ⟨n2, D2, g0, g1, g2, g3⟩ := g
  have hDD : D2 = D := by
    obtain ⟨es, c, hb, _, _, q3⟩ := g0
    obtain ⟨es', c', hb', _, _, q3'⟩ := h0
    rw [hb] at hb'
    injection hb' with hb'
    injection hb' with e1 e2
    subst e1
    rw [q3, q3']
  subst hDD
  exact ⟨n, D2, h0, h1, h2, fun k hk => by
    rcases List.mem_append.1 hk with hk | hk
    · exact h3 k hk
    · exact g3 k hk⟩
theorem em_insert {f : Int → Int} {base : Nat} {w w' : World} (hb : base ≤ w.heap.size) (hg : w.grownBy w' (some base)) (hl : ∀ l, MapAt f w base l → MapAt f w' base l) : EM f base w w' :=
  ⟨⟨hg.os, hg.tape, hg.output, hg.size, fun k hk => hg.block k (by omega) (fun e => by injection e; omega)⟩, hl⟩
theorem em_made {f : Int → Int} {base : Nat} {w : World} (hb : w.heap.size = base) : EM f base w (w.alloc (.map #[] 0)) :=
  ⟨(Below.refl _ _).alloc (by omega) _, fun l h => absurd h.lt (by omega)⟩
theorem rm_made {base m : Nat} {w : World} (h : RM base (m + 4) w) : w.heap.size = base ∧ RM base m (w.alloc (.map #[] 0)) := by
  obtain ⟨h1, h2⟩ := h
  have hs : w.heap.size = base := by omega
  refine ⟨hs, by simp; omega, ?_⟩
  have hc : mapCnt (w.alloc (.map #[] 0)) base = 0 := by
    unfold mapCnt
    rw [← hs, heap_alloc_new w (.map #[] 0)]
    rfl
  rw [hc]
  simp
  omega
theorem rm_insert {base m : Nat} {w w' : World} (h : RM base (m + 1) w) (hs : w'.heap.size = w.heap.size) (hc : mapCnt w' base ≤ mapCnt w base + 1) : mapCnt w base ≤ 1000 ∧ RM base m w' := by
  obtain ⟨h1, h2⟩ := h
  exact ⟨by omega, by omega, by omega⟩
theorem cnt_made (w : World) : mapCnt (w.alloc (.map #[] 0)) w.heap.size = 0 := by
  unfold mapCnt
  rw [heap_alloc_new w (.map #[] 0)]
  rfl
theorem rm_cnt {base m : Nat} {w : World} (h : RM base m w) : mapCnt w base ≤ 1000 := by
  obtain ⟨h1, h2⟩ := h
  omega
theorem rm_new (w : World) : RM w.heap.size 6 w := by
  refine ⟨Nat.le_refl _, ?_⟩
  have : mapCnt w w.heap.size = 0 := by
    unfold mapCnt
    have : w.heap[w.heap.size]? = none := by simp
    rw [this]
  omega

end Go.Proofs.Ytefdhlfljpppfaa
