/- Small maps of the call's own, from numbers to numbers: what a key has. -/
import Derived.Test.YtefdhlfljpppfaaGreatLoc
import Derived.Test.YtefdhlfljpppfaaGreatRdr
import Derived.Maps.Own
import Derived.Maps.Views
import Derived.Carry
namespace Go.Proofs.YtefdhlfljpppfaaGreat
open Go.RowKit
set_option linter.unusedVariables false
set_option linter.unusedSimpArgs false

theorem kint : Go.Maps.Keyed Tryz.prog 3 := Go.Maps.int_keyed Tryz.underlying3
theorem zero_int (w : World) : (zeroValue 3).run Tryz.prog w = .ok (.int .i64 0) w := by kernel_rfl
def wfi (z : Int) : Prop := -9223372036854775808 ≤ z ∧ z ≤ 9223372036854775807
theorem wfi_lit {z : Int} (h : wfi z) : (Lit.int .i64 z).wf = true := by
  obtain ⟨h1, h2⟩ := h
  simp [Lit.wf, IntKind.min, IntKind.max, IntKind.signed, IntKind.bits]
  omega
theorem key_lit {z : Int} (h : wfi z) : keyOf Tryz.prog 3 (.int .i64 z) = some (.int .i64 z) := by
  have e := wfi_lit h
  simp [keyOf, mapKey, Tryz.underlying3, e]
/-- block b is a map; every key that it has, has what f says; it has the keys ks -/
def MapAt (f : Int → Int) (w : World) (b : Nat) (ks : List Int) : Prop :=
  ∃ (n : Nat) (D : DataW Unit), w.ownsMap Tryz.prog 3 (plainElem Tryz.prog 3) b n D ∧ Go.Maps.IsMap D ∧
    (∀ k, Go.Maps.has D (.int .i64 k) = true → D.atKey (.int .i64 k) (.lit (.int .i64 0)) = .lit (.int .i64 (f k))) ∧ ∀ k ∈ ks, Go.Maps.has D (.int .i64 k) = true
/-- how many entries block b has, as a map -/
def mapCnt (w : World) (b : Nat) : Nat := match w.heap[b]? with | some (.map es _) => es.size | _ => 0
section
variable {f : Int → Int} {w w' : World} {b : Nat} {ks : List Int}
theorem MapAt.keep (h : MapAt f w b ks) (hk : w'.heap[b]? = w.heap[b]?) : MapAt f w' b ks := by
  obtain ⟨n, D, ⟨es, c, h0, h1, h2, h3⟩, hr⟩ := h
  exact ⟨n, D, ⟨es, c, hk.trans h0, h1, h2, h3⟩, hr⟩
theorem MapAt.lt (h : MapAt f w b ks) : b < w.heap.size := by
  obtain ⟨n, D, h0, _⟩ := h
  exact h0.lt
theorem MapAt.new (h : MapAt f w b ks) (hb : Below w.heap.size w w') : MapAt f w' b ks := h.keep (hb.block b h.lt)
theorem MapAt.made (f : Int → Int) (w : World) : MapAt f (w.alloc (.map #[] 0)) w.heap.size [] :=
  ⟨0, .map [], World.ownsMap_made _ _ _ _, Go.Maps.isMap_empty, fun k hk => by simp [Go.Maps.has_eq] at hk, by simp⟩
set_option maxRecDepth 100000 in
/-- what a key has -/
theorem MapAt.look (h : MapAt f w b ks) {k : Int} (hk : k ∈ ks) (hw : wfi k) : (Instr.lookup 135 (.map (some b)) (.int .i64 k) false).run Tryz.prog w = .ok (.int .i64 (f k)) w := by
  obtain ⟨n, D, h0, h1, h2, h3⟩ := h
  obtain ⟨c, hrun, hat, _⟩ := h0.lookup_int kint Tryz.underlying135 Tryz.underlying3 (zero_int w) (key_lit hw)
  rw [h2 k (h3 k hk)] at hat
  injection hat with hat
  injection hat with _ hat
  rw [hrun, hat]
set_option maxRecDepth 100000 in
/-- a key's value is put into a map -/
theorem MapAt.put (h : MapAt f w b ks) {k : Int} (hw : wfi k) (hv : wfi (f k)) (hn : mapCnt w b ≤ 1000) :
    ∃ w', (Instr.mapUpdate 135 (.map (some b)) (.int .i64 k) (.int .i64 (f k))).run Tryz.prog w = .ok () w' ∧ MapAt f w' b (k :: ks) ∧ mapCnt w' b ≤ mapCnt w b + 1 ∧ w.grownBy w' (some b) ∧ w'.heap.size = w.heap.size ∧ ∀ l, MapAt f w b l → MapAt f w' b l := by
  obtain ⟨n, D, h0, h1, h2, h3⟩ := h
  have hcnt : ∃ es c, w.heap[b]? = some (.map es c) ∧ mapCnt w b = es.size := by
    obtain ⟨es, c, hb, _⟩ := h0
    exact ⟨es, c, hb, by simp [mapCnt, hb]⟩
  have h0' : w.ownsMap Tryz.prog 3 (plainElem Tryz.prog 3) b (mapCnt w b) D := by
    obtain ⟨es, c, hb, q1, q2, q3⟩ := h0
    exact ⟨es, c, hb, q1, by simp [mapCnt, hb], q3⟩
  obtain ⟨w', hrun, o1, g1⟩ := h0'.update kint Tryz.underlying135 (by simp only [maxLen]; omega) (key_lit hw) (plainElem_int Tryz.underlying3 (wfi_lit hv))
  have hput : ∀ D0 : DataW Unit, Go.Maps.IsMap D0 → (∀ j, Go.Maps.has D0 (.int .i64 j) = true → D0.atKey (.int .i64 j) (.lit (.int .i64 0)) = .lit (.int .i64 (f j))) →
      Go.Maps.IsMap (D0.put (.int .i64 k) (.lit (.int .i64 (f k)))) ∧ (∀ j, Go.Maps.has (D0.put (.int .i64 k) (.lit (.int .i64 (f k)))) (.int .i64 j) = true → (D0.put (.int .i64 k) (.lit (.int .i64 (f k)))).atKey (.int .i64 j) (.lit (.int .i64 0)) = .lit (.int .i64 (f j))) ∧
      Go.Maps.has (D0.put (.int .i64 k) (.lit (.int .i64 (f k)))) (.int .i64 k) = true ∧ ∀ j, Go.Maps.has D0 (.int .i64 j) = true → Go.Maps.has (D0.put (.int .i64 k) (.lit (.int .i64 (f k)))) (.int .i64 j) = true := by
    intro D0 i1 i2
    refine ⟨i1.put _ _, fun j hj => ?_, Go.Maps.has_put_same i1 (show Go.WideAt.IsKeyLit (.int .i64 k) from trivial) _, fun j hj => ?_⟩
    · by_cases hjk : j = k
      · subst hjk; exact Go.Maps.atKey_put_same i1 (show Go.WideAt.IsKeyLit (.int .i64 j) from trivial) _ _
      · have hne : (Lit.int .i64 j) ≠ .int .i64 k := fun e => hjk (by injection e)
        rw [Go.Maps.has_put_other hne] at hj
        rw [Go.Maps.atKey_put_other hne]
        exact i2 j hj
    · by_cases hjk : j = k
      · subst hjk; exact Go.Maps.has_put_same i1 (show Go.WideAt.IsKeyLit (.int .i64 j) from trivial) _
      · rw [Go.Maps.has_put_other (fun e => hjk (by injection e))]; exact hj
  obtain ⟨p1, p2, p3, p4⟩ := hput D h1 h2
  have hsz : w'.heap.size = w.heap.size := by
    obtain ⟨es, c, hb, F, hs, hD⟩ := h0'
    obtain ⟨es', c', hrun', _⟩ := Maps.fit_store (R' := plainElem Tryz.prog 3) kint Tryz.underlying135 hb F (by simp only [maxLen]; omega) (fun _ _ _ _ hz => hz) (key_lit hw) (plainElem_int Tryz.underlying3 (wfi_lit hv))
    rw [hrun] at hrun'
    injection hrun' with _ hw'
    subst hw'
    simp [Go.ChangeMaps.setBlock]
  refine ⟨w', hrun, ⟨_, _, o1, p1, p2, fun j hj => ?_⟩, ?_, g1, hsz, fun l hl => ?_⟩
  · rcases List.mem_cons.1 hj with rfl | hj
    · exact p3
    · exact p4 j (h3 j hj)
  · obtain ⟨es, c, hb, q1, q2, q3⟩ := o1
    simpa [mapCnt, hb] using q2
  · obtain ⟨n2, D2, l0, l1, l2, l3⟩ := hl
    have hDD : D2 = D := by
      obtain ⟨es, c, hb, _, _, q3⟩ := l0
      obtain ⟨es', c', hb', _, _, q3'⟩ := h0
      rw [hb] at hb'
      injection hb' with hb'
      injection hb' with e1 e2
      subst e1
      rw [q3, q3']
    subst hDD
    exact ⟨_, _, o1, p1, p2, fun j hj => p4 j (l3 j hj)⟩
end
/-- a pair of a map literal, as the walk meets it -/
theorem wpList_insert {ops : Array Oper} {rest : List Oper} {o : Oper} {a : Go.Act} {w : World} {Q : Exit → Go.Act → World → Prop} {f : Int → Int} {b : Nat} {ks : List Int} (hg : o.guard = none) (m x v : Operand) (hop : o.op = Op.insert 135 m x v)
    (k : Int) (hm : a.eval m = .map (some b)) (hx : a.eval x = .int .i64 k) (hv : a.eval v = .int .i64 (f k)) (h : MapAt f w b ks) (hwk : wfi k) (hwv : wfi (f k)) (hn : mapCnt w b ≤ 1000)
    (hK : ∀ w', MapAt f w' b (k :: ks) → mapCnt w' b ≤ mapCnt w b + 1 → w.grownBy w' (some b) → w'.heap.size = w.heap.size → (∀ l, MapAt f w b l → MapAt f w' b l) → wpList Tryz.prog ops Q rest (a.put o.dst undef) w') :
    wpList Tryz.prog ops Q (o :: rest) a w := by
  obtain ⟨w', hrun, r1, r2, r3, r4, r5⟩ := h.put hwk hwv hn
  refine wpList_plain hg fun K' hK' => ?_
  unfold Oper.wp
  simp [execOp, hop, hm, hx, hv, hrun, Result.andThen]
  exact hK' _ _ (hK w' r1 r2 r3 r4 r5)
/-- in a region that draws and holds one map literal, whose block is number 'base' -/
def EM (f : Int → Int) (base : Nat) (a b : World) : Prop := Below base a b ∧ ∀ l, MapAt f a base l → MapAt f b base l
theorem EM.refl (f : Int → Int) (base : Nat) (w : World) : EM f base w w := ⟨Below.refl _ _, fun _ h => h⟩
theorem EM.trans {f : Int → Int} {base : Nat} (a b c : World) (h : EM f base a b) (k : EM f base b c) : EM f base a c := ⟨h.1.trans k.1, fun l hl => k.2 l (h.2 l hl)⟩
def RM (base : Nat) (m : Nat) (w : World) : Prop := base ≤ w.heap.size ∧ 4 * (w.heap.size - base) + mapCnt w base + m ≤ 6
end Go.Proofs.YtefdhlfljpppfaaGreat
