/- Small maps of the call's own, from numbers to numbers: what a key has. What an action does: reads, writes, result, run of the program. What an action writes: (impl.Action).result. Printed by gen_result.py. What an action does: run of the program. Serial runs of the program: runAll, RunSerial, RunAction. Serial runs of the program: RunSerial, RunAction; effects compared; FirstWrong. -/
import Derived.Test.YtihlhejencninaaGreatGloc
import Derived.Test.YtihlhejencninaaGreatGint
import Derived.Maps.Own
import Derived.Maps.Views
import Derived.Carry
import Derived.Test.YtihlhejencninaaGreatGact
import Derived.Test.YtihlhejencninaaGreatGval
import Derived.Test.YtihlhejencninaaGreatGeff
namespace Go.Proofs.YtihlhejencninaaGreat
open Go.RowKit
set_option linter.unusedVariables false
set_option linter.unusedSimpArgs false

theorem kint : Go.Maps.Keyed Tryz.prog 3 := Go.Maps.int_keyed Tryz.underlying3
theorem zero_int (w : World) : (zeroValue 3).run Tryz.prog w = .ok (.int .i64 0) w := by kernel_rfl
def wfi (z : Int) : Prop := -9223372036854775808 ≤ z ∧ z ≤ 9223372036854775807
theorem wfi_lit {z : Int} (h : wfi z) : (Lit.int .i64 z).wf = true := by
 obtain ⟨h1, h2⟩ := h
 simp [Lit.wf, IntKind.min, IntKind.max, IntKind.signed, IntKind.bits]
 omega
theorem key_lit {z : Int} (h : wfi z) : keyOf Tryz.prog 3 (.int .i64 z) = some (.int .i64 z) := by
 have e := wfi_lit h
 simp [keyOf, mapKey, Tryz.underlying3, e]
/-- block b is a map; every key that it has, has what f says; it has the keys ks -/
def MapAt (f : Int → Int) (w : World) (b : Nat) (ks : List Int) : Prop :=
 ∃ (n : Nat) (D : DataW Unit), w.ownsMap Tryz.prog 3 (plainElem Tryz.prog 3) b n D ∧ Go.Maps.IsMap D ∧
   (∀ k, Go.Maps.has D (.int .i64 k) = true → D.atKey (.int .i64 k) (.lit (.int .i64 0)) = .lit (.int .i64 (f k))) ∧ ∀ k ∈ ks, Go.Maps.has D (.int .i64 k) = true
/-- how many entries block b has, as a map -/
def mapCnt (w : World) (b : Nat) : Nat := match w.heap[b]? with | some (.map es _) => es.size | _ => 0
section
variable {f : Int → Int} {w w' : World} {b : Nat} {ks : List Int}
theorem MapAt.keep (h : MapAt f w b ks) (hk : w'.heap[b]? = w.heap[b]?) : MapAt f w' b ks := by
 obtain ⟨n, D, ⟨es, c, h0, h1, h2, h3⟩, hr⟩ := h
 exact ⟨n, D, ⟨es, c, hk.trans h0, h1, h2, h3⟩, hr⟩
theorem MapAt.lt (h : MapAt f w b ks) : b < w.heap.size := by
 obtain ⟨n, D, h0, _⟩ := h
 exact h0.lt
theorem MapAt.made (f : Int → Int) (w : World) : MapAt f (w.alloc (.map #[] 0)) w.heap.size [] :=
 ⟨0, .map [], World.ownsMap_made _ _ _ _, Go.Maps.isMap_empty, fun k hk => by simp [Go.Maps.has_eq] at hk, by simp⟩
set_option maxRecDepth 100000 in
/-- what a key has -/
theorem MapAt.look (h : MapAt f w b ks) {k : Int} (hk : k ∈ ks) (hw : wfi k) : (Instr.lookup 182 (.map (some b)) (.int .i64 k) false).run Tryz.prog w = .ok (.int .i64 (f k)) w := by
 obtain ⟨n, D, h0, h1, h2, h3⟩ := h
 obtain ⟨c, hrun, hat, _⟩ := h0.lookup_int kint Tryz.underlying182 Tryz.underlying3 (zero_int w) (key_lit hw)
 rw [h2 k (h3 k hk)] at hat
 injection hat with hat
 injection hat with _ hat
 rw [hrun, hat]
set_option maxRecDepth 100000 in
/-- a key's value is put into a map -/
theorem MapAt.put (h : MapAt f w b ks) {k : Int} (hw : wfi k) (hv : wfi (f k)) (hn : mapCnt w b ≤ 1000) :
   ∃ w', (Instr.mapUpdate 182 (.map (some b)) (.int .i64 k) (.int .i64 (f k))).run Tryz.prog w = .ok () w' ∧ MapAt f w' b (k :: ks) ∧ mapCnt w' b ≤ mapCnt w b + 1 ∧ w.grownBy w' (some b) ∧ w'.heap.size = w.heap.size ∧ ∀ l, MapAt f w b l → MapAt f w' b l := by
 obtain ⟨n, D, h0, h1, h2, h3⟩ := h
 have hcnt : ∃ es c, w.heap[b]? = some (.map es c) ∧ mapCnt w b = es.size := by
   obtain ⟨es, c, hb, _⟩ := h0
   exact ⟨es, c, hb, by simp [mapCnt, hb]⟩
 have h0' : w.ownsMap Tryz.prog 3 (plainElem Tryz.prog 3) b (mapCnt w b) D := by
   obtain ⟨es, c, hb, q1, q2, q3⟩ := h0
   exact ⟨es, c, hb, q1, by simp [mapCnt, hb], q3⟩
 obtain ⟨w', hrun, o1, g1⟩ := h0'.update kint Tryz.underlying182 (by simp only [maxLen]; omega) (key_lit hw) (plainElem_int Tryz.underlying3 (wfi_lit hv))
 have hput : ∀ D0 : DataW Unit, Go.Maps.IsMap D0 → (∀ j, Go.Maps.has D0 (.int .i64 j) = true → D0.atKey (.int .i64 j) (.lit (.int .i64 0)) = .lit (.int .i64 (f j))) →
     Go.Maps.IsMap (D0.put (.int .i64 k) (.lit (.int .i64 (f k)))) ∧ (∀ j, Go.Maps.has (D0.put (.int .i64 k) (.lit (.int .i64 (f k)))) (.int .i64 j) = true → (D0.put (.int .i64 k) (.lit (.int .i64 (f k)))).atKey (.int .i64 j) (.lit (.int .i64 0)) = .lit (.int .i64 (f j))) ∧
     Go.Maps.has (D0.put (.int .i64 k) (.lit (.int .i64 (f k)))) (.int .i64 k) = true ∧ ∀ j, Go.Maps.has D0 (.int .i64 j) = true → Go.Maps.has (D0.put (.int .i64 k) (.lit (.int .i64 (f k)))) (.int .i64 j) = true := by
   intro D0 i1 i2
   refine ⟨i1.put _ _, fun j hj => ?_, Go.Maps.has_put_same i1 (show Go.WideAt.IsKeyLit (.int .i64 k) from trivial) _, fun j hj => ?_⟩
   · by_cases hjk : j = k
     · subst hjk; exact Go.Maps.atKey_put_same i1 (show Go.WideAt.IsKeyLit (.int .i64 j) from trivial) _ _
     · have hne : (Lit.int .i64 j) ≠ .int .i64 k := fun e => hjk (by injection e)
       rw [Go.Maps.has_put_other hne] at hj
       rw [Go.Maps.atKey_put_other hne]
       exact i2 j hj
   · by_cases hjk : j = k
     · subst hjk; exact Go.Maps.has_put_same i1 (show Go.WideAt.IsKeyLit (.int .i64 j) from trivial) _
     · rw [Go.Maps.has_put_other (fun e => hjk (by injection e))]; exact hj
 obtain ⟨p1, p2, p3, p4⟩ := hput D h1 h2
 have hsz : w'.heap.size = w.heap.size := by
   obtain ⟨es, c, hb, F, hs, hD⟩ := h0'
   obtain ⟨es', c', hrun', _⟩ := Maps.fit_store (R' := plainElem Tryz.prog 3) kint Tryz.underlying182 hb F (by simp only [maxLen]; omega) (fun _ _ _ _ hz => hz) (key_lit hw) (plainElem_int Tryz.underlying3 (wfi_lit hv))
   rw [hrun] at hrun'
   injection hrun' with _ hw'
   subst hw'
   simp [Go.ChangeMaps.setBlock]
 refine ⟨w', hrun, ⟨_, _, o1, p1, p2, fun j hj => ?_⟩, ?_, g1, hsz, fun l hl => ?_⟩
 · rcases List.mem_cons.1 hj with rfl | hj
   · exact p3
   · exact p4 j (h3 j hj)
 · obtain ⟨es, c, hb, q1, q2, q3⟩ := o1
   simpa [mapCnt, hb] using q2
 · obtain ⟨n2, D2, l0, l1, l2, l3⟩ := hl
   have hDD : D2 = D := by
     obtain ⟨es, c, hb, _, _, q3⟩ := l0
     obtain ⟨es', c', hb', _, _, q3'⟩ := h0
     rw [hb] at hb'
     injection hb' with hb'
     injection hb' with e1 e2
     subst e1
     rw [q3, q3']
   subst hDD
   exact ⟨_, _, o1, p1, p2, fun j hj => p4 j (l3 j hj)⟩
end
/-- a pair of a map literal, as the walk meets it -/
theorem wpList_insert {ops : Array Oper} {rest : List Oper} {o : Oper} {a : Go.Act} {w : World} {Q : Exit → Go.Act → World → Prop} {f : Int → Int} {b : Nat} {ks : List Int} (hg : o.guard = none) (m x v : Operand) (hop : o.op = Op.insert 182 m x v)
   (k : Int) (hm : a.eval m = .map (some b)) (hx : a.eval x = .int .i64 k) (hv : a.eval v = .int .i64 (f k)) (h : MapAt f w b ks) (hwk : wfi k) (hwv : wfi (f k)) (hn : mapCnt w b ≤ 1000)
   (hK : ∀ w', MapAt f w' b (k :: ks) → mapCnt w' b ≤ mapCnt w b + 1 → w.grownBy w' (some b) → w'.heap.size = w.heap.size → (∀ l, MapAt f w b l → MapAt f w' b l) → wpList Tryz.prog ops Q rest (a.put o.dst undef) w') :
   wpList Tryz.prog ops Q (o :: rest) a w := by
 obtain ⟨w', hrun, r1, r2, r3, r4, r5⟩ := h.put hwk hwv hn
 refine wpList_plain hg fun K' hK' => ?_
 unfold Oper.wp
 simp [execOp, hop, hm, hx, hv, hrun, Result.andThen]
 exact hK' _ _ (hK w' r1 r2 r3 r4 r5)
/-- in a region that draws and holds one map literal, whose block is number 'base' -/
def EM (f : Int → Int) (base : Nat) (a b : World) : Prop := Below base a b ∧ ∀ l, MapAt f a base l → MapAt f b base l
theorem EM.refl (f : Int → Int) (base : Nat) (w : World) : EM f base w w := ⟨Below.refl _ _, fun _ h => h⟩
theorem EM.trans {f : Int → Int} {base : Nat} (a b c : World) (h : EM f base a b) (k : EM f base b c) : EM f base a c := ⟨h.1.trans k.1, fun l hl => k.2 l (h.2 l hl)⟩
def RM (base : Nat) (m : Nat) (w : World) : Prop := base ≤ w.heap.size ∧ 4 * (w.heap.size - base) + mapCnt w base + m ≤ 6
end Go.Proofs.YtihlhejencninaaGreat
namespace Go.Proofs.YtihlhejencninaaGreat
open Go.RowKit
set_option linter.unusedVariables false
set_option linter.unusedSimpArgs false
attribute [local go_sem ↓] Go.wp_at_zero Go.wp_at_succ

def actReads (a : Act) : List Int := if a.kind = 1 then [] else if a.kind = 3 ∨ a.kind = 6 ∨ a.src = a.dst then [a.src] else [a.src, a.dst]
def actWrites (a : Act) : List Int := if a.kind = 1 ∨ a.kind = 6 then [a.src] else if a.kind = 3 ∨ a.kind = 5 ∨ a.src = a.dst then [a.dst] else [min a.src a.dst, max a.src a.dst]
def actDone (a : Act) (x y : Int) : Bool := if a.kind = 5 then decide (x + y ≤ 1000000) else if a.kind = 2 then decide (a.amt ≤ x) && (decide (a.src = a.dst) || decide (y + a.amt ≤ 1000000)) else true
def wAt (a : Act) (x y : Int) (key : Int) : Int :=
 if a.kind = 1 then a.amt else if a.kind = 6 then max 0 (x - a.amt) else if a.kind = 3 then x else if a.kind = 4 then (if key = a.dst then x else y) else if a.kind = 5 then x + y
 else if a.src = a.dst then x else if key = a.src then x - a.amt else y + a.amt
def atV (v : List Int) (k : Int) : Int := v.getD k.toNat 0
/-- the effect of an action where its keys have x and y -/
def actEff (a : Act) (x y : Int) : Eff :=
 ⟨actDone a x y, (actReads a).map fun k => ⟨k, if k = a.src then x else y⟩, if actDone a x y = true then (actWrites a).map fun k => ⟨k, wAt a x y k⟩ else []⟩
def runV (v : List Int) (a : Act) : Eff := actEff a (atV v a.src) (atV v a.dst)
theorem actB_bd {a : Act} (h : actB a = true) : (0 ≤ a.src ∧ a.src ≤ 31) ∧ (0 ≤ a.dst ∧ a.dst ≤ 31) ∧ (0 ≤ a.amt ∧ a.amt ≤ 1000000) ∧ actK a = true := by
 unfold actB at h
 simp only [Bool.and_eq_true] at h
 exact ⟨inB_true.1 h.1, inB_true.1 h.2.1, inB_true.1 h.2.2.1, h.2.2.2⟩
theorem actK_kind {a : Act} (h : actK a = true) : a.kind = 1 ∨ a.kind = 6 ∨ a.kind = 3 ∨ a.kind = 4 ∨ a.kind = 5 ∨ a.kind = 2 := by
 unfold actK at h
 simp only [beq_iff_eq] at h
 split at h
 · exact .inl ‹_›
 · split at h
   · exact .inr (.inl ‹_›)
   · split at h
     · exact .inr (.inr (.inl ‹_›))
     · split at h
       · exact .inr (.inr (.inr (.inl ‹_›)))
       · split at h
         · exact .inr (.inr (.inr (.inr (.inl ‹_›))))
         · exact .inr (.inr (.inr (.inr (.inr (by simpa using h)))))
theorem actReads_len (a : Act) : (actReads a).length ≤ 2 := by unfold actReads; split; simp; split <;> simp
theorem actWrites_len (a : Act) : (actWrites a).length ≤ 2 := by unfold actWrites; split; simp; split <;> simp
theorem atV_bd {v : List Int} (hv : valOk v) (k : Int) : 0 ≤ atV v k ∧ atV v k ≤ 1000000 := hv.2 _
set_option maxHeartbeats 1000000 in
theorem reads_any (a : Act) (w : World) :
   Calls Tryz.prog 113 #[.agg #[.int .i64 a.kind, .int .i64 a.src, .int .i64 a.dst, .int .i64 a.amt]] w fun e w' => ∃ A c, e = .returned (.slice A (actReads a).length c) ∧ w'.ownsRow w.heap.size 3 1 (.slice A (actReads a).length c) (actReads a).length ((actReads a).map (.int .i64)) ∧ Below w.heap.size w w' := by
 have hb1 : Below w.heap.size w (w.alloc (.cells #[.int .i64 a.kind, .int .i64 a.src, .int .i64 a.dst, .int .i64 a.amt] 56)) := (Below.refl _ _).alloc (Nat.le_refl _) _
 generalize hW : (w.alloc (.cells #[.int .i64 a.kind, .int .i64 a.src, .int .i64 a.dst, .int .i64 a.amt] 56)) = W at hb1
 have ONE := hide (fun (x : Int) (h : actReads a = [x]) => show ∃ A c, Ending.returned (Value.slice (some ⟨W.heap.size, 0, none⟩) 1 1) = .returned (.slice A (actReads a).length c) ∧ (W.alloc (.cells #[.int .i64 x] 3)).ownsRow w.heap.size 3 1 (.slice A (actReads a).length c) (actReads a).length ((actReads a).map (.int .i64)) ∧ Below w.heap.size w (W.alloc (.cells #[.int .i64 x] 3)) from by
   rw [h]
   exact ⟨_, _, rfl, own_made (base := w.heap.size) (e := 3) (size := 1) W #[.int .i64 x] 1 hb1.size (by simp [maxLen]) rfl, hb1.alloc hb1.size _⟩)
 have TWO := hide (fun (x y : Int) (h : actReads a = [x, y]) => show ∃ A c, Ending.returned (Value.slice (some ⟨W.heap.size, 0, none⟩) 2 2) = .returned (.slice A (actReads a).length c) ∧ (W.alloc (.cells #[.int .i64 x, .int .i64 y] 3)).ownsRow w.heap.size 3 1 (.slice A (actReads a).length c) (actReads a).length ((actReads a).map (.int .i64)) ∧ Below w.heap.size w (W.alloc (.cells #[.int .i64 x, .int .i64 y] 3)) from by
   rw [h]
   exact ⟨_, _, rfl, own_made (base := w.heap.size) (e := 3) (size := 1) W #[.int .i64 x, .int .i64 y] 2 hb1.size (by simp [maxLen]) rfl, hb1.alloc hb1.size _⟩)
 have HB := hide hb1
 subst hW
 clear hb1
 by_cases j1 : a.kind = 1
 · have HX := hide (show actReads a = [] by unfold actReads; rw [if_pos j1])
   have k1 : (a.kind == 1) = true := by simpa using j1
   clear j1
   go_enter Tryz.func113, Tryz.ntmps113
   go_wp2
   go_ret
   rw [unhide HX]
   exact ⟨none, 0, rfl, own_nil _ _ _ _, unhide HB⟩
 have k1 : (a.kind == 1) = false := by simpa using j1
 by_cases j3 : a.kind = 3
 · have HX := hide (show actReads a = [a.src] by unfold actReads; rw [if_neg j1, if_pos (.inl j3)])
   have k3 : (a.kind == 3) = true := by simpa using j3
   clear j1 j3
   go_enter Tryz.func113, Tryz.ntmps113
   go_wp2
   go_ret
   (have := unhide ONE _ (unhide HX); simpa using this)
 have k3 : (a.kind == 3) = false := by simpa using j3
 by_cases j6 : a.kind = 6
 · have HX := hide (show actReads a = [a.src] by unfold actReads; rw [if_neg j1, if_pos (.inr (.inl j6))])
   have k6 : (a.kind == 6) = true := by simpa using j6
   clear j1 j3 j6
   go_enter Tryz.func113, Tryz.ntmps113
   go_wp2
   go_ret
   (have := unhide ONE _ (unhide HX); simpa using this)
 have k6 : (a.kind == 6) = false := by simpa using j6
 by_cases js : a.src = a.dst
 · have HX := hide (show actReads a = [a.src] by unfold actReads; rw [if_neg j1, if_pos (.inr (.inr js))])
   have ks : (a.src == a.dst) = true := by simpa using js
   clear j1 j3 j6 js
   go_enter Tryz.func113, Tryz.ntmps113
   go_wp2
   go_ret
   (have := unhide ONE _ (unhide HX); simpa using this)
 have HX := hide (show actReads a = [a.src, a.dst] by unfold actReads; rw [if_neg j1, if_neg (by rintro (h | h | h); exact j3 h; exact j6 h; exact js h)])
 have ks : (a.src == a.dst) = false := by simpa using js
 clear j1 j3 j6 js
 go_enter Tryz.func113, Tryz.ntmps113
 go_wp2
 go_ret
 (have := unhide TWO _ _ (unhide HX); simpa using this)
set_option maxHeartbeats 1000000 in
theorem writes_any (a : Act) (w : World) :
   Calls Tryz.prog 114 #[.agg #[.int .i64 a.kind, .int .i64 a.src, .int .i64 a.dst, .int .i64 a.amt]] w fun e w' => ∃ A c, e = .returned (.slice A (actWrites a).length c) ∧ w'.ownsRow w.heap.size 3 1 (.slice A (actWrites a).length c) (actWrites a).length ((actWrites a).map (.int .i64)) ∧ Below w.heap.size w w' := by
 have hb1 : Below w.heap.size w (w.alloc (.cells #[.int .i64 a.kind, .int .i64 a.src, .int .i64 a.dst, .int .i64 a.amt] 56)) := (Below.refl _ _).alloc (Nat.le_refl _) _
 generalize hW : (w.alloc (.cells #[.int .i64 a.kind, .int .i64 a.src, .int .i64 a.dst, .int .i64 a.amt] 56)) = W at hb1
 have ONE := hide (fun (x : Int) (h : actWrites a = [x]) => show ∃ A c, Ending.returned (Value.slice (some ⟨W.heap.size, 0, none⟩) 1 1) = .returned (.slice A (actWrites a).length c) ∧ (W.alloc (.cells #[.int .i64 x] 3)).ownsRow w.heap.size 3 1 (.slice A (actWrites a).length c) (actWrites a).length ((actWrites a).map (.int .i64)) ∧ Below w.heap.size w (W.alloc (.cells #[.int .i64 x] 3)) from by
   rw [h]
   exact ⟨_, _, rfl, own_made (base := w.heap.size) (e := 3) (size := 1) W #[.int .i64 x] 1 hb1.size (by simp [maxLen]) rfl, hb1.alloc hb1.size _⟩)
 have TWO := hide (fun (x y : Int) (h : actWrites a = [x, y]) => show ∃ A c, Ending.returned (Value.slice (some ⟨W.heap.size, 0, none⟩) 2 2) = .returned (.slice A (actWrites a).length c) ∧ (W.alloc (.cells #[.int .i64 x, .int .i64 y] 3)).ownsRow w.heap.size 3 1 (.slice A (actWrites a).length c) (actWrites a).length ((actWrites a).map (.int .i64)) ∧ Below w.heap.size w (W.alloc (.cells #[.int .i64 x, .int .i64 y] 3)) from by
   rw [h]
   exact ⟨_, _, rfl, own_made (base := w.heap.size) (e := 3) (size := 1) W #[.int .i64 x, .int .i64 y] 2 hb1.size (by simp [maxLen]) rfl, hb1.alloc hb1.size _⟩)
 have HB := hide hb1
 subst hW
 clear hb1
 by_cases j1 : a.kind = 1
 · have HX := hide (show actWrites a = [a.src] by unfold actWrites; rw [if_pos (.inl j1)])
   have k1 : (a.kind == 1) = true := by simpa using j1
   clear j1
   go_enter Tryz.func114, Tryz.ntmps114
   go_wp2
   go_ret
   (have := unhide ONE _ (unhide HX); simpa using this)
 have k1 : (a.kind == 1) = false := by simpa using j1
 by_cases j6 : a.kind = 6
 · have HX := hide (show actWrites a = [a.src] by unfold actWrites; rw [if_pos (.inr j6)])
   have k6 : (a.kind == 6) = true := by simpa using j6
   clear j1 j6
   go_enter Tryz.func114, Tryz.ntmps114
   go_wp2
   go_ret
   (have := unhide ONE _ (unhide HX); simpa using this)
 have k6 : (a.kind == 6) = false := by simpa using j6
 have n16 : ¬ (a.kind = 1 ∨ a.kind = 6) := by omega
 by_cases j3 : a.kind = 3
 · have HX := hide (show actWrites a = [a.dst] by unfold actWrites; rw [if_neg n16, if_pos (.inl j3)])
   have k3 : (a.kind == 3) = true := by simpa using j3
   clear j1 j3 j6 n16
   go_enter Tryz.func114, Tryz.ntmps114
   go_wp2
   go_ret
   (have := unhide ONE _ (unhide HX); simpa using this)
 have k3 : (a.kind == 3) = false := by simpa using j3
 by_cases j5 : a.kind = 5
 · have HX := hide (show actWrites a = [a.dst] by unfold actWrites; rw [if_neg n16, if_pos (.inr (.inl j5))])
   have k5 : (a.kind == 5) = true := by simpa using j5
   clear j1 j3 j6 j5 n16
   go_enter Tryz.func114, Tryz.ntmps114
   go_wp2
   go_ret
   (have := unhide ONE _ (unhide HX); simpa using this)
 have k5 : (a.kind == 5) = false := by simpa using j5
 by_cases js : a.src = a.dst
 · have HX := hide (show actWrites a = [a.dst] by unfold actWrites; rw [if_neg n16, if_pos (.inr (.inr js))])
   have ks : (a.src == a.dst) = true := by simpa using js
   clear j1 j3 j6 j5 js n16
   go_enter Tryz.func114, Tryz.ntmps114
   go_wp2
   go_ret
   (have := unhide ONE _ (unhide HX); simpa using this)
 have HX0 := show actWrites a = [min a.src a.dst, max a.src a.dst] by unfold actWrites; rw [if_neg n16, if_neg (by rintro (h | h | h); exact j3 h; exact j5 h; exact js h)]
 have ks : (a.src == a.dst) = false := by simpa using js
 by_cases hle : a.src ≤ a.dst
 · have hlt : a.src < a.dst := by omega
   have hnl : ¬ a.dst < a.src := by omega
   have HX := hide (show actWrites a = [a.src, a.dst] by rw [HX0, Int.min_eq_left hle, Int.max_eq_right hle])
   clear j1 j3 j6 j5 js n16 HX0
   go_enter Tryz.func114, Tryz.ntmps114
   go_wp2
   go_ret
   (have := unhide TWO _ _ (unhide HX); simpa using this)
 · have hlt : a.dst < a.src := by omega
   have hnl : ¬ a.src < a.dst := by omega
   have HX := hide (show actWrites a = [a.dst, a.src] by rw [HX0, Int.min_eq_right (by omega), Int.max_eq_left (by omega)])
   clear j1 j3 j6 j5 js n16 HX0
   go_enter Tryz.func114, Tryz.ntmps114
   go_wp2
   go_ret
   (have := unhide TWO _ _ (unhide HX); simpa using this)
end Go.Proofs.YtihlhejencninaaGreat
namespace Go.Proofs.YtihlhejencninaaGreat
open Go.RowKit
set_option linter.unusedVariables false
set_option linter.unusedSimpArgs false
attribute [local go_sem ↓] Go.wp_at_zero Go.wp_at_succ

/-- facts that are kept in a region with one map literal -/
def StM (f : Int → Int) (base : Nat) (g : Value → World → Prop) : Prop := ∀ v a b, EM f base a b → g v a → g v b
def mV (u : Value) (v : Value) (_ : World) : Prop := v = u
def mMap (f : Int → Int) (base : Nat) (l : List Int) (v : Value) (w : World) : Prop := v = .map (some base) ∧ MapAt f w base l
def mHas (f : Int → Int) (base : Nat) (l : List Int) (_ : Value) (w : World) : Prop := MapAt f w base l
def mAny (_ : Value) (_ : World) : Prop := True
theorem sm_V (f : Int → Int) (base : Nat) (u : Value) : StM f base (mV u) := fun _ _ _ _ h => h
theorem sm_Map (f : Int → Int) (base : Nat) (l : List Int) : StM f base (mMap f base l) := fun _ _ _ he ⟨h1, h2⟩ => ⟨h1, he.2 l h2⟩
theorem sm_Has (f : Int → Int) (base : Nat) (l : List Int) : StM f base (mHas f base l) := fun _ _ _ he h => he.2 l h
theorem sm_Any (f : Int → Int) (base : Nat) : StM f base mAny := fun _ _ _ _ _ => trivial
def StML (f : Int → Int) (base : Nat) : List (Value → World → Prop) → Prop
 | [] => True
 | g :: l => StM f base g ∧ StML f base l
theorem stml_get {f : Int → Int} {base : Nat} : ∀ {l : List (Value → World → Prop)}, StML f base l → ∀ i, StM f base (l.getD i fun _ _ => True)
 | [], _, i => fun _ _ _ _ _ => trivial
 | g :: l, h, 0 => h.1
 | g :: l, h, i + 1 => by simpa using stml_get h.2 i
def locM (fs : List (Value → World → Prop)) (i : Nat) (v : Value) (w : World) : Prop := (fs.getD i fun _ _ => True) v w
theorem locM_st {f : Int → Int} {base : Nat} {fs : List (Value → World → Prop)} (h : StML f base fs) (n : Nat) (i : Nat) (v : Value) (a b : World) (_ : i < n) (hf : locM fs i v a) (hc : EM f base a b) : locM fs i v b := stml_get h i v a b hc hf
theorem MapAt.sub {f : Int → Int} {w : World} {b : Nat} {ks l : List Int} (h : MapAt f w b ks) (hl : ∀ k ∈ l, k ∈ ks) : MapAt f w b l := by
 obtain ⟨n, D, h0, h1, h2, h3⟩ := h
 exact ⟨n, D, h0, h1, h2, fun k hk => h3 k (hl k hk)⟩
theorem MapAt.both {f : Int → Int} {w : World} {b : Nat} {ks l : List Int} (h : MapAt f w b ks) (g : MapAt f w b l) : MapAt f w b (ks ++ l) := by
 obtain ⟨n, D, h0, h1, h2, h3⟩ := h
 obtain ⟨n2, D2, g0, g1, g2, g3⟩ := g
 have hDD : D2 = D := by
   obtain ⟨es, c, hb, _, _, q3⟩ := g0
   obtain ⟨es', c', hb', _, _, q3'⟩ := h0
   rw [hb] at hb'
   injection hb' with hb'
   injection hb' with e1 e2
   subst e1
   rw [q3, q3']
 subst hDD
 exact ⟨n, D2, h0, h1, h2, fun k hk => by
   rcases List.mem_append.1 hk with hk | hk
   · exact h3 k hk
   · exact g3 k hk⟩
theorem em_insert {f : Int → Int} {base : Nat} {w w' : World} (hb : base ≤ w.heap.size) (hg : w.grownBy w' (some base)) (hl : ∀ l, MapAt f w base l → MapAt f w' base l) : EM f base w w' :=
 ⟨⟨hg.os, hg.tape, hg.output, hg.size, fun k hk => hg.block k (by omega) (fun e => by injection e; omega)⟩, hl⟩
theorem em_made {f : Int → Int} {base : Nat} {w : World} (hb : w.heap.size = base) : EM f base w (w.alloc (.map #[] 0)) :=
 ⟨(Below.refl _ _).alloc (by omega) _, fun l h => absurd h.lt (by omega)⟩
theorem rm_made {base m : Nat} {w : World} (h : RM base (m + 4) w) : w.heap.size = base ∧ RM base m (w.alloc (.map #[] 0)) := by
 obtain ⟨h1, h2⟩ := h
 have hs : w.heap.size = base := by omega
 refine ⟨hs, by simp; omega, ?_⟩
 have hc : mapCnt (w.alloc (.map #[] 0)) base = 0 := by
   unfold mapCnt
   rw [← hs, heap_alloc_new w (.map #[] 0)]
   rfl
 rw [hc]
 simp
 omega
theorem rm_insert {base m : Nat} {w w' : World} (h : RM base (m + 1) w) (hs : w'.heap.size = w.heap.size) (hc : mapCnt w' base ≤ mapCnt w base + 1) : mapCnt w base ≤ 1000 ∧ RM base m w' := by
 obtain ⟨h1, h2⟩ := h
 exact ⟨by omega, by omega, by omega⟩
theorem cnt_made (w : World) : mapCnt (w.alloc (.map #[] 0)) w.heap.size = 0 := by
 unfold mapCnt
 rw [heap_alloc_new w (.map #[] 0)]
 rfl
theorem rm_cnt {base m : Nat} {w : World} (h : RM base m w) : mapCnt w base ≤ 1000 := by
 obtain ⟨h1, h2⟩ := h
 omega
theorem rm_new (w : World) : RM w.heap.size 6 w := by
 refine ⟨Nat.le_refl _, ?_⟩
 have : mapCnt w w.heap.size = 0 := by
   unfold mapCnt
   have : w.heap[w.heap.size]? = none := by simp
   rw [this]
 omega

set_option maxRecDepth 100000 in
set_option maxHeartbeats 4000000 in
theorem result_core (kd : Int) (p q : Nat) (am : Int) (v : List Int) (x y : Int) (f : Int → Int) (dn : Bool) (ks : List Int) (w : World) (hp : p < 32) (hq : q < 32) (hv : v.length = 32) (hx : v.getD p 0 = x) (hy : v.getD q 0 = y) (hx1 : 0 ≤ x ∧ x ≤ 1000000) (hy1 : 0 ≤ y ∧ y ≤ 1000000) (ham : 0 ≤ am ∧ am ≤ 1000000)
   (hk : kd = 1 ∨ kd = 6 ∨ kd = 3 ∨ kd = 4 ∨ kd = 5 ∨ kd = 2) (hks : ∀ k ∈ ks, k = (p : Int) ∨ k = (q : Int))
   (h1 : kd = 1 → f p = am ∧ dn = true ∧ ks = [(p : Int)]) (h6 : kd = 6 → f p = max 0 (x - am) ∧ dn = true ∧ ks = [(p : Int)]) (h3 : kd = 3 → f q = x ∧ dn = true ∧ ks = [(q : Int)])
   (h4 : kd = 4 → f p = y ∧ f q = x ∧ dn = true) (h5 : kd = 5 → f q = x + y ∧ dn = decide (x + y ≤ 1000000) ∧ ks = [(q : Int)])
   (h2 : kd = 2 → (p = q → f p = x ∧ dn = decide (am ≤ x)) ∧ (p ≠ q → f p = x - am ∧ f q = y + am ∧ dn = (decide (am ≤ x) && decide (y + am ≤ 1000000)))) :
   Calls Tryz.prog 174 #[.agg #[.int .i64 kd, .int .i64 (p : Int), .int .i64 (q : Int), .int .i64 am], .agg (vA v)] w fun e w' => ∃ b, e = .returned (.tuple #[.map (some b), .bool dn]) ∧ MapAt f w' b ks ∧ w.heap.size ≤ b ∧ Below w.heap.size w w' := by
 have hmm := @run_makeMap Tryz.prog
 have hb0 : Below w.heap.size w ((w.alloc (.cells #[.int .i64 kd, .int .i64 (p : Int), .int .i64 (q : Int), .int .i64 am] 56)).alloc (.cells (vA v) 112)) := ((Below.refl _ _).alloc (Nat.le_refl _) _).alloc (by simp) _
 have k0 := (Blk.new w 56 #[.int .i64 kd, .int .i64 (p : Int), .int .i64 (q : Int), .int .i64 am]).alloc (.cells (vA v) 112)
 have k1 : Blk ((w.alloc (.cells #[.int .i64 kd, .int .i64 (p : Int), .int .i64 (q : Int), .int .i64 am] 56)).alloc (.cells (vA v) 112)) (w.heap.size + 1) 112 (vA v) := by
   have := Blk.new (w.alloc (.cells #[.int .i64 kd, .int .i64 (p : Int), .int .i64 (q : Int), .int .i64 am] 56)) 112 (vA v)
   simpa using this
 have hsz : ((w.alloc (.cells #[.int .i64 kd, .int .i64 (p : Int), .int .i64 (q : Int), .int .i64 am] 56)).alloc (.cells (vA v) 112)).heap.size = w.heap.size + 1 + 1 := by simp
 have H1 := hide h1
 have H2 := hide h2
 have H3 := hide h3
 have H4 := hide h4
 have H5 := hide h5
 have H6 := hide h6
 have HKS := hide hks
 have HXV := hide hx
 have HYV := hide hy
 clear h1 h2 h3 h4 h5 h6 hks hx hy
 go_enter Tryz.func174, Tryz.ntmps174
 go_wp2
 refine at_world (C := fun w => Code.wp _ _ _ _ w) (F := fun W => Blk W w.heap.size 56 #[.int .i64 kd, .int .i64 (p : Int), .int .i64 (q : Int), .int .i64 am] ∧ Blk W (w.heap.size + 1) 112 (vA v) ∧ Below w.heap.size w W ∧ W.heap.size = w.heap.size + 1 + 1) ⟨k0, k1, hb0, hsz⟩ ?_
 clear k0 k1 hb0 hsz
 rintro W ⟨k0, k1, hb0, hsz⟩
 have c1 : W.cell? ⟨w.heap.size, 1, none⟩ = some (.int .i64 (p : Int)) := k0.cell 1
 have c2 : W.cell? ⟨w.heap.size, 2, none⟩ = some (.int .i64 (q : Int)) := k0.cell 2
 have cp := vA_get k1 (show p < v.length by omega)
 have cq := vA_get k1 (show q < v.length by omega)
 rw [unhide HXV] at cp
 rw [unhide HYV] at cq
 have ip : (p : Int) < 32 := by omega
 have iq : (q : Int) < 32 := by omega
 go_quiet (fail)
 replace k0 := k0.drewN nq
 replace k1 := k1.drewN nq
 replace hb0 := below_drewN hb0 nq
 replace hsz : (W.drewN nq).heap.size = w.heap.size + 1 + 1 := hsz
 clear c1 c2 cp cq
 generalize W.drewN nq = W2 at *
 have c0 : W2.cell? ⟨w.heap.size, 0, none⟩ = some (.int .i64 kd) := k0.cell 0
 have c1 : W2.cell? ⟨w.heap.size, 1, none⟩ = some (.int .i64 (p : Int)) := k0.cell 1
 have c2 : W2.cell? ⟨w.heap.size, 2, none⟩ = some (.int .i64 (q : Int)) := k0.cell 2
 have c3 : W2.cell? ⟨w.heap.size, 3, none⟩ = some (.int .i64 am) := k0.cell 3
 have HSZ := hide hsz
 have hslt : w.heap.size < W2.heap.size := by omega
 clear hsz
 have wp_ : wfi (p : Int) := ⟨by omega, by omega⟩
 have wq_ : wfi (q : Int) := ⟨by omega, by omega⟩
 have fin : ∀ (w1 w2 : World), True := fun _ _ => trivial
 rcases hk with rfl | rfl | rfl | rfl | rfl | rfl
 · obtain ⟨hf, hdn, hkk⟩ := unhide H1 rfl
   have HF := hide hf
   have HDN := hide hdn
   have HKK := hide hkk
   clear hf hdn hkk
   go_wp2_with (refine wpList_insert (f := f) rfl (.tmp 20) (.tmp 22) (.tmp 24) rfl p rfl rfl (congrArg (Value.int .i64) (unhide HF).symm) (MapAt.made f W2) wp_ (by rw [unhide HF]; unfold wfi; omega) (by rw [cnt_made]; omega) ?_; intro w2 hm2 _ hg2 hs2 _)
   go_ret2
   have hb2 : Below w.heap.size w w2 := hb0.trans ⟨hg2.os, hg2.tape, hg2.output, by have := hg2.size; simp at this; omega, fun g hg => (hg2.block g (by simp; omega) (fun e => by injection e; omega)).trans (Below.heap_alloc W2 _ g (by omega))⟩
   exact ⟨W2.heap.size, by (rw [unhide HDN]; try rfl), by rw [unhide HKK]; exact hm2.sub (by simp), by omega, hb2⟩
 · obtain ⟨hf, hdn, hkk⟩ := unhide H6 rfl
   have HF := hide hf
   have HDN := hide hdn
   have HKK := hide hkk
   clear hf hdn hkk
   have hcs : x - am ≤ 0 ∨ 0 < x - am := by omega
   rcases hcs with hcs | hcs
   · have hcs2 : ¬ 0 < x - am := by omega
     have HF2 := hide (show f (p : Int) = _ from (unhide HF).trans (Int.max_eq_left (by omega)))
     go_wp2_with (refine wpList_insert (f := f) rfl (.tmp 28) (.tmp 30) (.tmp 35) rfl p rfl rfl (congrArg (Value.int .i64) (unhide HF2).symm) (MapAt.made f W2) wp_ (by rw [unhide HF2]; unfold wfi; omega) (by rw [cnt_made]; omega) ?_; intro w2 hm2 _ hg2 hs2 _)
     go_ret2
     have hb2 : Below w.heap.size w w2 := hb0.trans ⟨hg2.os, hg2.tape, hg2.output, by have := hg2.size; simp at this; omega, fun g hg => (hg2.block g (by simp; omega) (fun e => by injection e; omega)).trans (Below.heap_alloc W2 _ g (by omega))⟩
     exact ⟨W2.heap.size, by (rw [unhide HDN]; try rfl), by rw [unhide HKK]; exact hm2.sub (by simp), by omega, hb2⟩
   · have hcs2 : ¬ x - am < 0 := by omega
     have HF2 := hide (show f (p : Int) = _ from (unhide HF).trans (Int.max_eq_right (by omega)))
     go_wp2_with (refine wpList_insert (f := f) rfl (.tmp 28) (.tmp 30) (.tmp 35) rfl p rfl rfl (congrArg (Value.int .i64) (unhide HF2).symm) (MapAt.made f W2) wp_ (by rw [unhide HF2]; unfold wfi; omega) (by rw [cnt_made]; omega) ?_; intro w2 hm2 _ hg2 hs2 _)
     go_ret2
     have hb2 : Below w.heap.size w w2 := hb0.trans ⟨hg2.os, hg2.tape, hg2.output, by have := hg2.size; simp at this; omega, fun g hg => (hg2.block g (by simp; omega) (fun e => by injection e; omega)).trans (Below.heap_alloc W2 _ g (by omega))⟩
     exact ⟨W2.heap.size, by (rw [unhide HDN]; try rfl), by rw [unhide HKK]; exact hm2.sub (by simp), by omega, hb2⟩
 · obtain ⟨hf, hdn, hkk⟩ := unhide H3 rfl
   have HF := hide hf
   have HDN := hide hdn
   have HKK := hide hkk
   clear hf hdn hkk
   go_wp2_with (refine wpList_insert (f := f) rfl (.tmp 39) (.tmp 41) (.tmp 42) rfl q rfl rfl (congrArg (Value.int .i64) (unhide HF).symm) (MapAt.made f W2) wq_ (by rw [unhide HF]; unfold wfi; omega) (by rw [cnt_made]; omega) ?_; intro w2 hm2 _ hg2 hs2 _)
   go_ret2
   have hb2 : Below w.heap.size w w2 := hb0.trans ⟨hg2.os, hg2.tape, hg2.output, by have := hg2.size; simp at this; omega, fun g hg => (hg2.block g (by simp; omega) (fun e => by injection e; omega)).trans (Below.heap_alloc W2 _ g (by omega))⟩
   exact ⟨W2.heap.size, by (rw [unhide HDN]; try rfl), by rw [unhide HKK]; exact hm2.sub (by simp), by omega, hb2⟩
 · obtain ⟨hfp, hfq, hdn⟩ := unhide H4 rfl
   have HFP := hide hfp
   have HFQ := hide hfq
   have HDN := hide hdn
   clear hfp hfq hdn
   have hR0 : RM W2.heap.size 6 W2.drew := rm_new W2
   go_wp2
   have hF : StML f W2.heap.size [mMap f W2.heap.size [], mV (.pointer (some ⟨w.heap.size, 1, none⟩)), mV (.int .i64 (p : Int)), mV (.int .i64 y), mHas f W2.heap.size [(p : Int)], mV (.pointer (some ⟨w.heap.size, 2, none⟩)), mV (.int .i64 (q : Int)), mV (.int .i64 x), mHas f W2.heap.size [(q : Int)]] := ⟨sm_Map f _ _, sm_V f _ _, sm_V f _ _, sm_V f _ _, sm_Has f _ _, sm_V f _ _, sm_V f _ _, sm_V f _ _, sm_Has f _ _, trivial⟩
   refine wp_region_loc (by kernel_rfl) [(0, some 46), (1, some 47), (2, some 48), (3, some 49), (4, none), (5, some 50), (6, some 51), (7, some 52), (8, none)] [[], [], [(1, some 47)], [], [(0, some 46), (2, some 48), (3, some 49)], [], [(5, some 50)], [], [(0, some 46), (6, some 51), (7, some 52)]] (by kernel_rfl)
     (locM [mMap f W2.heap.size [], mV (.pointer (some ⟨w.heap.size, 1, none⟩)), mV (.int .i64 (p : Int)), mV (.int .i64 y), mHas f W2.heap.size [(p : Int)], mV (.pointer (some ⟨w.heap.size, 2, none⟩)), mV (.int .i64 (q : Int)), mV (.int .i64 x), mHas f W2.heap.size [(q : Int)]]) (EM f W2.heap.size) (RM W2.heap.size) [4, 0, 0, 0, 1, 0, 0, 0, 1] 6 (by kernel_rfl) (EM.refl f _) EM.trans (locM_st hF _) hR0 ?_ ?_
   · refine steps_cons ?s10_0 (steps_cons ?s10_1 (steps_cons ?s10_2 (steps_cons ?s10_3 (steps_cons ?s10_4 (steps_cons ?s10_5 (steps_cons ?s10_6 (steps_cons ?s10_7 (steps_cons ?s10_8 (steps_nil)))))))))
     case s10_0 =>
       intro w' m hE hR
       intro Q hQ
       obtain ⟨hs, hR2⟩ := rm_made hR
       go_wp2
       exact hQ _ _ _ rfl ⟨by first | rfl | rw [hs], by rw [← hs]; exact MapAt.made f w'⟩ (em_made hs) hR2
     case s10_1 =>
       intro w' m hE hR
       intro Q hQ
       go_wp2
       exact hQ _ _ _ rfl rfl (EM.refl _ _ _) hR
     case s10_2 =>
       intro w' m hE hR
       intro v1 h1 Q hQ
       obtain rfl : v1 = _ := h1
       have z : w'.cell? ⟨w.heap.size, 1, none⟩ = some _ := (hE.1.cell (p := ⟨w.heap.size, 1, none⟩) hslt).trans c1
       go_wp2
       exact hQ _ _ _ rfl rfl (EM.refl _ _ _) hR
     case s10_3 =>
       intro w' m hE hR
       intro Q hQ
       go_wp2
       exact hQ _ _ _ rfl rfl (EM.refl _ _ _) hR
     case s10_4 =>
       intro w' m hE hR
       intro v0 h0 v2 h2 v3 h3 Q hQ
       obtain ⟨rfl, h0⟩ := h0
       obtain rfl : v2 = _ := h2
       obtain rfl : v3 = _ := h3
       refine wpList_insert (f := f) rfl (.tmp 46) (.tmp 48) (.tmp 49) rfl p rfl rfl (congrArg (Value.int .i64) (unhide HFP).symm) h0 wp_ (by rw [unhide HFP]; unfold wfi; omega) (rm_cnt hR) ?_
       intro w2 i1 i2 i3 i4 i5
       go_wp2
       exact hQ undef _ _ rfl (i1.sub (by simp)) (em_insert hR.1 i3 i5) (rm_insert hR i4 i2).2
     case s10_5 =>
       intro w' m hE hR
       intro Q hQ
       go_wp2
       exact hQ _ _ _ rfl rfl (EM.refl _ _ _) hR
     case s10_6 =>
       intro w' m hE hR
       intro v5 h5 Q hQ
       obtain rfl : v5 = _ := h5
       have z : w'.cell? ⟨w.heap.size, 2, none⟩ = some _ := (hE.1.cell (p := ⟨w.heap.size, 2, none⟩) hslt).trans c2
       go_wp2
       exact hQ _ _ _ rfl rfl (EM.refl _ _ _) hR
     case s10_7 =>
       intro w' m hE hR
       intro Q hQ
       go_wp2
       exact hQ _ _ _ rfl rfl (EM.refl _ _ _) hR
     case s10_8 =>
       intro w' m hE hR
       intro v0 h0 v6 h6 v7 h7 Q hQ
       obtain ⟨rfl, h0⟩ := h0
       obtain rfl : v6 = _ := h6
       obtain rfl : v7 = _ := h7
       refine wpList_insert (f := f) rfl (.tmp 46) (.tmp 51) (.tmp 52) rfl q rfl rfl (congrArg (Value.int .i64) (unhide HFQ).symm) h0 wq_ (by rw [unhide HFQ]; unfold wfi; omega) (rm_cnt hR) ?_
       intro w2 i1 i2 i3 i4 i5
       go_wp2
       exact hQ undef _ _ rfl (i1.sub (by simp)) (em_insert hR.1 i3 i5) (rm_insert hR i4 i2).2
   intro w3 hE hR
   rintro v0 ⟨rfl, m0⟩ v1 - v2 - v3 - v4 m4 v5 - v6 - v7 - v8 m8
   change wpList _ _ _ [_, _, _] _ _
   simp only [Go.Act.put, List.setIfInBounds_toArray, List.set_cons_succ, List.set_cons_zero]
   go_wp2
   go_ret2
   have hb3 : Below w.heap.size w w3 := hb0.trans ⟨hE.1.os, hE.1.tape, hE.1.output, hE.1.size, fun k hk => hE.1.block k (by omega)⟩
   exact ⟨W2.heap.size, by (rw [unhide HDN]; try rfl), ((MapAt.both m4 m8).sub (fun k hk => by rcases unhide HKS k hk with h | h <;> simp [h])), by omega, hb3⟩
 · obtain ⟨hf, hdn, hkk⟩ := unhide H5 rfl
   have HF := hide hf
   have HDN := hide hdn
   have HKK := hide hkk
   clear hf hdn hkk
   go_wp2_with (refine wpList_insert (f := f) rfl (.tmp 56) (.tmp 58) (.tmp 61) rfl q rfl rfl (congrArg (Value.int .i64) (unhide HF).symm) (MapAt.made f W2) wq_ (by rw [unhide HF]; unfold wfi; omega) (by rw [cnt_made]; omega) ?_; intro w2 hm2 _ hg2 hs2 _)
   go_ret2
   have hb2 : Below w.heap.size w w2 := hb0.trans ⟨hg2.os, hg2.tape, hg2.output, by have := hg2.size; simp at this; omega, fun g hg => (hg2.block g (by simp; omega) (fun e => by injection e; omega)).trans (Below.heap_alloc W2 _ g (by omega))⟩
   exact ⟨W2.heap.size, by (rw [unhide HDN]; try rfl), by rw [unhide HKK]; exact hm2.sub (by simp), by omega, hb2⟩
 · by_cases hpq : p = q
   · subst hpq
     obtain ⟨hfp, hdn⟩ := (unhide H2 rfl).1 rfl
     have HFP := hide hfp
     have HDN := hide hdn
     clear hfp hdn
     have hR0 : RM W2.heap.size 6 W2.drew := rm_new W2
     go_wp2
     have hF : StML f W2.heap.size [mMap f W2.heap.size [], mV (.pointer (some ⟨w.heap.size, 1, none⟩)), mV (.int .i64 (p : Int)), mV (.int .i64 x), mHas f W2.heap.size [(p : Int)], mV (.map (some W2.heap.size)), mV (.int .i64 x), mV (.pointer (some ⟨w.heap.size, 3, none⟩)), mV (.int .i64 am), mV (.bool (decide (am ≤ x))), mV (.map (some W2.heap.size))] := ⟨sm_Map f _ _, sm_V f _ _, sm_V f _ _, sm_V f _ _, sm_Has f _ _, sm_V f _ _, sm_V f _ _, sm_V f _ _, sm_V f _ _, sm_V f _ _, sm_V f _ _, trivial⟩
     refine wp_region_loc (by kernel_rfl) [(0, some 72), (1, some 73), (2, some 74), (3, some 75), (4, none), (5, some 76), (6, some 77), (7, some 78), (8, some 79), (9, some 80), (10, some 4)] [[], [], [(1, some 73)], [], [(0, some 72), (2, some 74), (3, some 75)], [(0, some 72)], [], [], [(7, some 78)], [(6, some 77), (8, some 79)], [(5, some 76)]] (by kernel_rfl)
       (locM [mMap f W2.heap.size [], mV (.pointer (some ⟨w.heap.size, 1, none⟩)), mV (.int .i64 (p : Int)), mV (.int .i64 x), mHas f W2.heap.size [(p : Int)], mV (.map (some W2.heap.size)), mV (.int .i64 x), mV (.pointer (some ⟨w.heap.size, 3, none⟩)), mV (.int .i64 am), mV (.bool (decide (am ≤ x))), mV (.map (some W2.heap.size))]) (EM f W2.heap.size) (RM W2.heap.size) [4, 0, 0, 0, 1, 0, 0, 0, 0, 0, 0] 5 (by kernel_rfl) (EM.refl f _) EM.trans (locM_st hF _) (show RM W2.heap.size 5 W2.drew from ⟨hR0.1, by have := hR0.2; omega⟩) ?_ ?_
     · refine steps_cons ?s14_0 (steps_cons ?s14_1 (steps_cons ?s14_2 (steps_cons ?s14_3 (steps_cons ?s14_4 (steps_cons ?s14_5 (steps_cons ?s14_6 (steps_cons ?s14_7 (steps_cons ?s14_8 (steps_cons ?s14_9 (steps_cons ?s14_10 (steps_nil)))))))))))
       case s14_0 =>
         intro w' m hE hR
         intro Q hQ
         obtain ⟨hs, hR2⟩ := rm_made hR
         go_wp2
         exact hQ _ _ _ rfl ⟨by first | rfl | rw [hs], by rw [← hs]; exact MapAt.made f w'⟩ (em_made hs) hR2
       case s14_1 =>
         intro w' m hE hR
         intro Q hQ
         go_wp2
         exact hQ _ _ _ rfl rfl (EM.refl _ _ _) hR
       case s14_2 =>
         intro w' m hE hR
         intro v1 h1 Q hQ
         obtain rfl : v1 = _ := h1
         have z : w'.cell? ⟨w.heap.size, 1, none⟩ = some _ := (hE.1.cell (p := ⟨w.heap.size, 1, none⟩) hslt).trans c1
         go_wp2
         exact hQ _ _ _ rfl rfl (EM.refl _ _ _) hR
       case s14_3 =>
         intro w' m hE hR
         intro Q hQ
         go_wp2
         exact hQ _ _ _ rfl rfl (EM.refl _ _ _) hR
       case s14_4 =>
         intro w' m hE hR
         intro v0 h0 v2 h2 v3 h3 Q hQ
         obtain ⟨rfl, h0⟩ := h0
         obtain rfl : v2 = _ := h2
         obtain rfl : v3 = _ := h3
         refine wpList_insert (f := f) rfl (.tmp 72) (.tmp 74) (.tmp 75) rfl p rfl rfl (congrArg (Value.int .i64) (unhide HFP).symm) h0 wp_ (by rw [unhide HFP]; unfold wfi; omega) (rm_cnt hR) ?_
         intro w2 i1 i2 i3 i4 i5
         go_wp2
         exact hQ undef _ _ rfl (i1.sub (by simp)) (em_insert hR.1 i3 i5) (rm_insert hR i4 i2).2
       case s14_5 =>
         intro w' m hE hR
         intro v0 h0 Q hQ
         obtain ⟨rfl, h0⟩ := h0
         go_wp2
         exact hQ _ _ _ rfl rfl (EM.refl _ _ _) hR
       case s14_6 =>
         intro w' m hE hR
         intro Q hQ
         go_wp2
         exact hQ _ _ _ rfl rfl (EM.refl _ _ _) hR
       case s14_7 =>
         intro w' m hE hR
         intro Q hQ
         go_wp2
         exact hQ _ _ _ rfl rfl (EM.refl _ _ _) hR
       case s14_8 =>
         intro w' m hE hR
         intro v7 h7 Q hQ
         obtain rfl : v7 = _ := h7
         have z : w'.cell? ⟨w.heap.size, 3, none⟩ = some _ := (hE.1.cell (p := ⟨w.heap.size, 3, none⟩) hslt).trans c3
         go_wp2
         exact hQ _ _ _ rfl rfl (EM.refl _ _ _) hR
       case s14_9 =>
         intro w' m hE hR
         intro v6 h6 v8 h8 Q hQ
         obtain rfl : v6 = _ := h6
         obtain rfl : v8 = _ := h8
         go_wp2
         exact hQ _ _ _ rfl rfl (EM.refl _ _ _) hR
       case s14_10 =>
         intro w' m hE hR
         intro v5 h5 Q hQ
         obtain rfl : v5 = _ := h5
         go_wp2
         exact hQ _ _ _ rfl rfl (EM.refl _ _ _) hR
     intro w3 hE hR
     rintro v0 ⟨rfl, m0⟩ v1 - v2 - v3 - v4 m4 v5 - v6 - v7 - v8 - v9 h9 v10 h10
     obtain rfl : v9 = _ := h9
     obtain rfl : v10 = _ := h10
     change wpList _ _ _ [_] _ _
     simp only [Go.Act.put, List.setIfInBounds_toArray, List.set_cons_succ, List.set_cons_zero]
     go_wp2
     go_ret2
     have hb3 : Below w.heap.size w w3 := hb0.trans ⟨hE.1.os, hE.1.tape, hE.1.output, hE.1.size, fun k hk => hE.1.block k (by omega)⟩
     exact ⟨W2.heap.size, by (rw [unhide HDN]; try rfl), (MapAt.sub m4 (fun k hk => by rcases unhide HKS k hk with h | h <;> simp [h])), by omega, hb3⟩
   · obtain ⟨hfp, hfq, hdn⟩ := (unhide H2 rfl).2 hpq
     have HFP := hide hfp
     have HFQ := hide hfq
     have HDN := hide hdn
     clear hfp hfq hdn
     have hR0 : RM W2.heap.size 6 W2.drew := rm_new W2
     have hne : ((p : Int) == (q : Int)) = false := by rw [beq_eq_false_iff_ne]; omega
     cases hge : decide (am ≤ x)
     · rw [hge] at HDN
       go_wp2
       have hF : StML f W2.heap.size [mMap f W2.heap.size [], mV (.pointer (some ⟨w.heap.size, 1, none⟩)), mV (.int .i64 (p : Int)), mV (.int .i64 x), mV (.pointer (some ⟨w.heap.size, 3, none⟩)), mV (.int .i64 am), mV (.int .i64 (x - am)), mHas f W2.heap.size [(p : Int)], mV (.pointer (some ⟨w.heap.size, 2, none⟩)), mV (.int .i64 (q : Int)), mV (.int .i64 y), mV (.pointer (some ⟨w.heap.size, 3, none⟩)), mV (.int .i64 am), mV (.int .i64 (y + am)), mHas f W2.heap.size [(q : Int)], mV (.map (some W2.heap.size)), mV (.int .i64 x), mV (.pointer (some ⟨w.heap.size, 3, none⟩)), mV (.int .i64 am), mV (.bool false), mV (.bool false), mAny, mAny, mAny, mAny, mAny, mV (.bool false), mV (.map (some W2.heap.size))] := ⟨sm_Map f _ _, sm_V f _ _, sm_V f _ _, sm_V f _ _, sm_V f _ _, sm_V f _ _, sm_V f _ _, sm_Has f _ _, sm_V f _ _, sm_V f _ _, sm_V f _ _, sm_V f _ _, sm_V f _ _, sm_V f _ _, sm_Has f _ _, sm_V f _ _, sm_V f _ _, sm_V f _ _, sm_V f _ _, sm_V f _ _, sm_V f _ _, sm_Any f _, sm_Any f _, sm_Any f _, sm_Any f _, sm_Any f _, sm_V f _ _, sm_V f _ _, trivial⟩
       refine wp_region_loc (by kernel_rfl) [(0, some 81), (1, some 82), (2, some 83), (3, some 84), (4, some 85), (5, some 86), (6, some 87), (7, none), (8, some 88), (9, some 89), (10, some 90), (11, some 91), (12, some 92), (13, some 93), (14, none), (15, some 94), (16, some 95), (17, some 96), (18, some 97), (19, some 98), (20, some 99), (21, some 100), (22, some 101), (23, some 102), (24, some 103), (25, some 104), (26, some 105), (27, some 4)] [[], [], [(1, some 82)], [], [], [(4, some 85)], [(3, some 84), (5, some 86)], [(0, some 81), (2, some 83), (6, some 87)], [], [(8, some 88)], [], [], [(11, some 91)], [(10, some 90), (12, some 92)], [(0, some 81), (9, some 89), (13, some 93)], [(0, some 81)], [], [], [(17, some 96)], [(16, some 95), (18, some 97)], [(19, some 98)], [(20, some 99)], [(20, some 99)], [(20, some 99), (22, some 101)], [(20, some 99), (21, some 100), (23, some 102)], [(20, some 99), (24, some 103)], [(20, some 99), (25, some 104)], [(15, some 94)]] (by kernel_rfl)
         (locM [mMap f W2.heap.size [], mV (.pointer (some ⟨w.heap.size, 1, none⟩)), mV (.int .i64 (p : Int)), mV (.int .i64 x), mV (.pointer (some ⟨w.heap.size, 3, none⟩)), mV (.int .i64 am), mV (.int .i64 (x - am)), mHas f W2.heap.size [(p : Int)], mV (.pointer (some ⟨w.heap.size, 2, none⟩)), mV (.int .i64 (q : Int)), mV (.int .i64 y), mV (.pointer (some ⟨w.heap.size, 3, none⟩)), mV (.int .i64 am), mV (.int .i64 (y + am)), mHas f W2.heap.size [(q : Int)], mV (.map (some W2.heap.size)), mV (.int .i64 x), mV (.pointer (some ⟨w.heap.size, 3, none⟩)), mV (.int .i64 am), mV (.bool false), mV (.bool false), mAny, mAny, mAny, mAny, mAny, mV (.bool false), mV (.map (some W2.heap.size))]) (EM f W2.heap.size) (RM W2.heap.size) [4, 0, 0, 0, 0, 0, 0, 1, 0, 0, 0, 0, 0, 0, 1, 0, 0, 0, 0, 0, 0, 0, 0, 0, 0, 0, 0, 0] 6 (by kernel_rfl) (EM.refl f _) EM.trans (locM_st hF _) hR0 ?_ ?_
       · refine steps_cons ?s15_0 (steps_cons ?s15_1 (steps_cons ?s15_2 (steps_cons ?s15_3 (steps_cons ?s15_4 (steps_cons ?s15_5 (steps_cons ?s15_6 (steps_cons ?s15_7 (steps_cons ?s15_8 (steps_cons ?s15_9 (steps_cons ?s15_10 (steps_cons ?s15_11 (steps_cons ?s15_12 (steps_cons ?s15_13 (steps_cons ?s15_14 (steps_cons ?s15_15 (steps_cons ?s15_16 (steps_cons ?s15_17 (steps_cons ?s15_18 (steps_cons ?s15_19 (steps_cons ?s15_20 (steps_cons ?s15_21 (steps_cons ?s15_22 (steps_cons ?s15_23 (steps_cons ?s15_24 (steps_cons ?s15_25 (steps_cons ?s15_26 (steps_cons ?s15_27 (steps_nil))))))))))))))))))))))))))))
         case s15_0 =>
           intro w' m hE hR
           intro Q hQ
           obtain ⟨hs, hR2⟩ := rm_made hR
           go_wp2
           exact hQ _ _ _ rfl ⟨by first | rfl | rw [hs], by rw [← hs]; exact MapAt.made f w'⟩ (em_made hs) hR2
         case s15_1 =>
           intro w' m hE hR
           intro Q hQ
           go_wp2
           exact hQ _ _ _ rfl rfl (EM.refl _ _ _) hR
         case s15_2 =>
           intro w' m hE hR
           intro v1 h1 Q hQ
           obtain rfl : v1 = _ := h1
           have z : w'.cell? ⟨w.heap.size, 1, none⟩ = some _ := (hE.1.cell (p := ⟨w.heap.size, 1, none⟩) hslt).trans c1
           go_wp2
           exact hQ _ _ _ rfl rfl (EM.refl _ _ _) hR
         case s15_3 =>
           intro w' m hE hR
           intro Q hQ
           go_wp2
           exact hQ _ _ _ rfl rfl (EM.refl _ _ _) hR
         case s15_4 =>
           intro w' m hE hR
           intro Q hQ
           go_wp2
           exact hQ _ _ _ rfl rfl (EM.refl _ _ _) hR
         case s15_5 =>
           intro w' m hE hR
           intro v4 h4 Q hQ
           obtain rfl : v4 = _ := h4
           have z : w'.cell? ⟨w.heap.size, 3, none⟩ = some _ := (hE.1.cell (p := ⟨w.heap.size, 3, none⟩) hslt).trans c3
           go_wp2
           exact hQ _ _ _ rfl rfl (EM.refl _ _ _) hR
         case s15_6 =>
           intro w' m hE hR
           intro v3 h3 v5 h5 Q hQ
           obtain rfl : v3 = _ := h3
           obtain rfl : v5 = _ := h5
           go_wp2
           exact hQ _ _ _ rfl rfl (EM.refl _ _ _) hR
         case s15_7 =>
           intro w' m hE hR
           intro v0 h0 v2 h2 v6 h6 Q hQ
           obtain ⟨rfl, h0⟩ := h0
           obtain rfl : v2 = _ := h2
           obtain rfl : v6 = _ := h6
           refine wpList_insert (f := f) rfl (.tmp 81) (.tmp 83) (.tmp 87) rfl p rfl rfl (congrArg (Value.int .i64) (unhide HFP).symm) h0 wp_ (by rw [unhide HFP]; unfold wfi; omega) (rm_cnt hR) ?_
           intro w2 i1 i2 i3 i4 i5
           go_wp2
           exact hQ undef _ _ rfl (i1.sub (by simp)) (em_insert hR.1 i3 i5) (rm_insert hR i4 i2).2
         case s15_8 =>
           intro w' m hE hR
           intro Q hQ
           go_wp2
           exact hQ _ _ _ rfl rfl (EM.refl _ _ _) hR
         case s15_9 =>
           intro w' m hE hR
           intro v8 h8 Q hQ
           obtain rfl : v8 = _ := h8
           have z : w'.cell? ⟨w.heap.size, 2, none⟩ = some _ := (hE.1.cell (p := ⟨w.heap.size, 2, none⟩) hslt).trans c2
           go_wp2
           exact hQ _ _ _ rfl rfl (EM.refl _ _ _) hR
         case s15_10 =>
           intro w' m hE hR
           intro Q hQ
           go_wp2
           exact hQ _ _ _ rfl rfl (EM.refl _ _ _) hR
         case s15_11 =>
           intro w' m hE hR
           intro Q hQ
           go_wp2
           exact hQ _ _ _ rfl rfl (EM.refl _ _ _) hR
         case s15_12 =>
           intro w' m hE hR
           intro v11 h11 Q hQ
           obtain rfl : v11 = _ := h11
           have z : w'.cell? ⟨w.heap.size, 3, none⟩ = some _ := (hE.1.cell (p := ⟨w.heap.size, 3, none⟩) hslt).trans c3
           go_wp2
           exact hQ _ _ _ rfl rfl (EM.refl _ _ _) hR
         case s15_13 =>
           intro w' m hE hR
           intro v10 h10 v12 h12 Q hQ
           obtain rfl : v10 = _ := h10
           obtain rfl : v12 = _ := h12
           go_wp2
           exact hQ _ _ _ rfl rfl (EM.refl _ _ _) hR
         case s15_14 =>
           intro w' m hE hR
           intro v0 h0 v9 h9 v13 h13 Q hQ
           obtain ⟨rfl, h0⟩ := h0
           obtain rfl : v9 = _ := h9
           obtain rfl : v13 = _ := h13
           refine wpList_insert (f := f) rfl (.tmp 81) (.tmp 89) (.tmp 93) rfl q rfl rfl (congrArg (Value.int .i64) (unhide HFQ).symm) h0 wq_ (by rw [unhide HFQ]; unfold wfi; omega) (rm_cnt hR) ?_
           intro w2 i1 i2 i3 i4 i5
           go_wp2
           exact hQ undef _ _ rfl (i1.sub (by simp)) (em_insert hR.1 i3 i5) (rm_insert hR i4 i2).2
         case s15_15 =>
           intro w' m hE hR
           intro v0 h0 Q hQ
           obtain ⟨rfl, h0⟩ := h0
           go_wp2
           exact hQ _ _ _ rfl rfl (EM.refl _ _ _) hR
         case s15_16 =>
           intro w' m hE hR
           intro Q hQ
           go_wp2
           exact hQ _ _ _ rfl rfl (EM.refl _ _ _) hR
         case s15_17 =>
           intro w' m hE hR
           intro Q hQ
           go_wp2
           exact hQ _ _ _ rfl rfl (EM.refl _ _ _) hR
         case s15_18 =>
           intro w' m hE hR
           intro v17 h17 Q hQ
           obtain rfl : v17 = _ := h17
           have z : w'.cell? ⟨w.heap.size, 3, none⟩ = some _ := (hE.1.cell (p := ⟨w.heap.size, 3, none⟩) hslt).trans c3
           go_wp2
           exact hQ _ _ _ rfl rfl (EM.refl _ _ _) hR
         case s15_19 =>
           intro w' m hE hR
           intro v16 h16 v18 h18 Q hQ
           obtain rfl : v16 = _ := h16
           obtain rfl : v18 = _ := h18
           go_wp2
           exact hQ _ _ _ rfl (by first | rfl | (show Value.bool (decide (am ≤ x)) = _; rw [hge])) (EM.refl _ _ _) hR
         case s15_20 =>
           intro w' m hE hR
           intro v19 h19 Q hQ
           obtain rfl : v19 = _ := h19
           go_wp2
           exact hQ _ _ _ rfl rfl (EM.refl _ _ _) hR
         case s15_21 =>
           intro w' m hE hR
           intro v20 h20 Q hQ
           obtain rfl : v20 = _ := h20
           go_wp2
           exact hQ undef _ _ rfl trivial (EM.refl _ _ _) hR
         case s15_22 =>
           intro w' m hE hR
           intro v20 h20 Q hQ
           obtain rfl : v20 = _ := h20
           go_wp2
           exact hQ undef _ _ rfl trivial (EM.refl _ _ _) hR
         case s15_23 =>
           intro w' m hE hR
           intro v20 h20 v22 h22 Q hQ
           obtain rfl : v20 = _ := h20
           go_wp2
           exact hQ undef _ _ rfl trivial (EM.refl _ _ _) hR
         case s15_24 =>
           intro w' m hE hR
           intro v20 h20 v21 h21 v23 h23 Q hQ
           obtain rfl : v20 = _ := h20
           go_wp2
           exact hQ undef _ _ rfl trivial (EM.refl _ _ _) hR
         case s15_25 =>
           intro w' m hE hR
           intro v20 h20 v24 h24 Q hQ
           obtain rfl : v20 = _ := h20
           go_wp2
           exact hQ undef _ _ rfl trivial (EM.refl _ _ _) hR
         case s15_26 =>
           intro w' m hE hR
           intro v20 h20 v25 h25 Q hQ
           obtain rfl : v20 = _ := h20
           go_wp2
           exact hQ _ _ _ rfl rfl (EM.refl _ _ _) hR
         case s15_27 =>
           intro w' m hE hR
           intro v15 h15 Q hQ
           obtain rfl : v15 = _ := h15
           go_wp2
           exact hQ _ _ _ rfl rfl (EM.refl _ _ _) hR
       intro w3 hE hR
       rintro v0 ⟨rfl, m0⟩ v1 - v2 - v3 - v4 - v5 - v6 - v7 m7 v8 - v9 - v10 - v11 - v12 - v13 - v14 m14 v15 - v16 - v17 - v18 - v19 - v20 - v21 - v22 - v23 - v24 - v25 - v26 h26 v27 h27
       obtain rfl : v26 = _ := h26
       obtain rfl : v27 = _ := h27
       change wpList _ _ _ [_] _ _
       simp only [Go.Act.put, List.setIfInBounds_toArray, List.set_cons_succ, List.set_cons_zero]
       go_wp2
       go_ret2
       have hb3 : Below w.heap.size w w3 := hb0.trans ⟨hE.1.os, hE.1.tape, hE.1.output, hE.1.size, fun k hk => hE.1.block k (by omega)⟩
       exact ⟨W2.heap.size, by (rw [unhide HDN]; try rfl), ((MapAt.both m7 m14).sub (fun k hk => by rcases unhide HKS k hk with h | h <;> simp [h])), by omega, hb3⟩
     · rw [hge] at HDN
       go_wp2
       have hF : StML f W2.heap.size [mMap f W2.heap.size [], mV (.pointer (some ⟨w.heap.size, 1, none⟩)), mV (.int .i64 (p : Int)), mV (.int .i64 x), mV (.pointer (some ⟨w.heap.size, 3, none⟩)), mV (.int .i64 am), mV (.int .i64 (x - am)), mHas f W2.heap.size [(p : Int)], mV (.pointer (some ⟨w.heap.size, 2, none⟩)), mV (.int .i64 (q : Int)), mV (.int .i64 y), mV (.pointer (some ⟨w.heap.size, 3, none⟩)), mV (.int .i64 am), mV (.int .i64 (y + am)), mHas f W2.heap.size [(q : Int)], mV (.map (some W2.heap.size)), mV (.int .i64 x), mV (.pointer (some ⟨w.heap.size, 3, none⟩)), mV (.int .i64 am), mV (.bool true), mV (.bool true), mV (.int .i64 y), mV (.pointer (some ⟨w.heap.size, 3, none⟩)), mV (.int .i64 am), mV (.int .i64 (y + am)), mV (.bool (decide (y + am ≤ 1000000))), mV (.bool (decide (y + am ≤ 1000000))), mV (.map (some W2.heap.size))] := ⟨sm_Map f _ _, sm_V f _ _, sm_V f _ _, sm_V f _ _, sm_V f _ _, sm_V f _ _, sm_V f _ _, sm_Has f _ _, sm_V f _ _, sm_V f _ _, sm_V f _ _, sm_V f _ _, sm_V f _ _, sm_V f _ _, sm_Has f _ _, sm_V f _ _, sm_V f _ _, sm_V f _ _, sm_V f _ _, sm_V f _ _, sm_V f _ _, sm_V f _ _, sm_V f _ _, sm_V f _ _, sm_V f _ _, sm_V f _ _, sm_V f _ _, sm_V f _ _, trivial⟩
       refine wp_region_loc (by kernel_rfl) [(0, some 81), (1, some 82), (2, some 83), (3, some 84), (4, some 85), (5, some 86), (6, some 87), (7, none), (8, some 88), (9, some 89), (10, some 90), (11, some 91), (12, some 92), (13, some 93), (14, none), (15, some 94), (16, some 95), (17, some 96), (18, some 97), (19, some 98), (20, some 99), (21, some 100), (22, some 101), (23, some 102), (24, some 103), (25, some 104), (26, some 105), (27, some 4)] [[], [], [(1, some 82)], [], [], [(4, some 85)], [(3, some 84), (5, some 86)], [(0, some 81), (2, some 83), (6, some 87)], [], [(8, some 88)], [], [], [(11, some 91)], [(10, some 90), (12, some 92)], [(0, some 81), (9, some 89), (13, some 93)], [(0, some 81)], [], [], [(17, some 96)], [(16, some 95), (18, some 97)], [(19, some 98)], [(20, some 99)], [(20, some 99)], [(20, some 99), (22, some 101)], [(20, some 99), (21, some 100), (23, some 102)], [(20, some 99), (24, some 103)], [(20, some 99), (25, some 104)], [(15, some 94)]] (by kernel_rfl)
         (locM [mMap f W2.heap.size [], mV (.pointer (some ⟨w.heap.size, 1, none⟩)), mV (.int .i64 (p : Int)), mV (.int .i64 x), mV (.pointer (some ⟨w.heap.size, 3, none⟩)), mV (.int .i64 am), mV (.int .i64 (x - am)), mHas f W2.heap.size [(p : Int)], mV (.pointer (some ⟨w.heap.size, 2, none⟩)), mV (.int .i64 (q : Int)), mV (.int .i64 y), mV (.pointer (some ⟨w.heap.size, 3, none⟩)), mV (.int .i64 am), mV (.int .i64 (y + am)), mHas f W2.heap.size [(q : Int)], mV (.map (some W2.heap.size)), mV (.int .i64 x), mV (.pointer (some ⟨w.heap.size, 3, none⟩)), mV (.int .i64 am), mV (.bool true), mV (.bool true), mV (.int .i64 y), mV (.pointer (some ⟨w.heap.size, 3, none⟩)), mV (.int .i64 am), mV (.int .i64 (y + am)), mV (.bool (decide (y + am ≤ 1000000))), mV (.bool (decide (y + am ≤ 1000000))), mV (.map (some W2.heap.size))]) (EM f W2.heap.size) (RM W2.heap.size) [4, 0, 0, 0, 0, 0, 0, 1, 0, 0, 0, 0, 0, 0, 1, 0, 0, 0, 0, 0, 0, 0, 0, 0, 0, 0, 0, 0] 6 (by kernel_rfl) (EM.refl f _) EM.trans (locM_st hF _) hR0 ?_ ?_
       · refine steps_cons ?s15_0 (steps_cons ?s15_1 (steps_cons ?s15_2 (steps_cons ?s15_3 (steps_cons ?s15_4 (steps_cons ?s15_5 (steps_cons ?s15_6 (steps_cons ?s15_7 (steps_cons ?s15_8 (steps_cons ?s15_9 (steps_cons ?s15_10 (steps_cons ?s15_11 (steps_cons ?s15_12 (steps_cons ?s15_13 (steps_cons ?s15_14 (steps_cons ?s15_15 (steps_cons ?s15_16 (steps_cons ?s15_17 (steps_cons ?s15_18 (steps_cons ?s15_19 (steps_cons ?s15_20 (steps_cons ?s15_21 (steps_cons ?s15_22 (steps_cons ?s15_23 (steps_cons ?s15_24 (steps_cons ?s15_25 (steps_cons ?s15_26 (steps_cons ?s15_27 (steps_nil))))))))))))))))))))))))))))
         case s15_0 =>
           intro w' m hE hR
           intro Q hQ
           obtain ⟨hs, hR2⟩ := rm_made hR
           go_wp2
           exact hQ _ _ _ rfl ⟨by first | rfl | rw [hs], by rw [← hs]; exact MapAt.made f w'⟩ (em_made hs) hR2
         case s15_1 =>
           intro w' m hE hR
           intro Q hQ
           go_wp2
           exact hQ _ _ _ rfl rfl (EM.refl _ _ _) hR
         case s15_2 =>
           intro w' m hE hR
           intro v1 h1 Q hQ
           obtain rfl : v1 = _ := h1
           have z : w'.cell? ⟨w.heap.size, 1, none⟩ = some _ := (hE.1.cell (p := ⟨w.heap.size, 1, none⟩) hslt).trans c1
           go_wp2
           exact hQ _ _ _ rfl rfl (EM.refl _ _ _) hR
         case s15_3 =>
           intro w' m hE hR
           intro Q hQ
           go_wp2
           exact hQ _ _ _ rfl rfl (EM.refl _ _ _) hR
         case s15_4 =>
           intro w' m hE hR
           intro Q hQ
           go_wp2
           exact hQ _ _ _ rfl rfl (EM.refl _ _ _) hR
         case s15_5 =>
           intro w' m hE hR
           intro v4 h4 Q hQ
           obtain rfl : v4 = _ := h4
           have z : w'.cell? ⟨w.heap.size, 3, none⟩ = some _ := (hE.1.cell (p := ⟨w.heap.size, 3, none⟩) hslt).trans c3
           go_wp2
           exact hQ _ _ _ rfl rfl (EM.refl _ _ _) hR
         case s15_6 =>
           intro w' m hE hR
           intro v3 h3 v5 h5 Q hQ
           obtain rfl : v3 = _ := h3
           obtain rfl : v5 = _ := h5
           go_wp2
           exact hQ _ _ _ rfl rfl (EM.refl _ _ _) hR
         case s15_7 =>
           intro w' m hE hR
           intro v0 h0 v2 h2 v6 h6 Q hQ
           obtain ⟨rfl, h0⟩ := h0
           obtain rfl : v2 = _ := h2
           obtain rfl : v6 = _ := h6
           refine wpList_insert (f := f) rfl (.tmp 81) (.tmp 83) (.tmp 87) rfl p rfl rfl (congrArg (Value.int .i64) (unhide HFP).symm) h0 wp_ (by rw [unhide HFP]; unfold wfi; omega) (rm_cnt hR) ?_
           intro w2 i1 i2 i3 i4 i5
           go_wp2
           exact hQ undef _ _ rfl (i1.sub (by simp)) (em_insert hR.1 i3 i5) (rm_insert hR i4 i2).2
         case s15_8 =>
           intro w' m hE hR
           intro Q hQ
           go_wp2
           exact hQ _ _ _ rfl rfl (EM.refl _ _ _) hR
         case s15_9 =>
           intro w' m hE hR
           intro v8 h8 Q hQ
           obtain rfl : v8 = _ := h8
           have z : w'.cell? ⟨w.heap.size, 2, none⟩ = some _ := (hE.1.cell (p := ⟨w.heap.size, 2, none⟩) hslt).trans c2
           go_wp2
           exact hQ _ _ _ rfl rfl (EM.refl _ _ _) hR
         case s15_10 =>
           intro w' m hE hR
           intro Q hQ
           go_wp2
           exact hQ _ _ _ rfl rfl (EM.refl _ _ _) hR
         case s15_11 =>
           intro w' m hE hR
           intro Q hQ
           go_wp2
           exact hQ _ _ _ rfl rfl (EM.refl _ _ _) hR
         case s15_12 =>
           intro w' m hE hR
           intro v11 h11 Q hQ
           obtain rfl : v11 = _ := h11
           have z : w'.cell? ⟨w.heap.size, 3, none⟩ = some _ := (hE.1.cell (p := ⟨w.heap.size, 3, none⟩) hslt).trans c3
           go_wp2
           exact hQ _ _ _ rfl rfl (EM.refl _ _ _) hR
         case s15_13 =>
           intro w' m hE hR
           intro v10 h10 v12 h12 Q hQ
           obtain rfl : v10 = _ := h10
           obtain rfl : v12 = _ := h12
           go_wp2
           exact hQ _ _ _ rfl rfl (EM.refl _ _ _) hR
         case s15_14 =>
           intro w' m hE hR
           intro v0 h0 v9 h9 v13 h13 Q hQ
           obtain ⟨rfl, h0⟩ := h0
           obtain rfl : v9 = _ := h9
           obtain rfl : v13 = _ := h13
           refine wpList_insert (f := f) rfl (.tmp 81) (.tmp 89) (.tmp 93) rfl q rfl rfl (congrArg (Value.int .i64) (unhide HFQ).symm) h0 wq_ (by rw [unhide HFQ]; unfold wfi; omega) (rm_cnt hR) ?_
           intro w2 i1 i2 i3 i4 i5
           go_wp2
           exact hQ undef _ _ rfl (i1.sub (by simp)) (em_insert hR.1 i3 i5) (rm_insert hR i4 i2).2
         case s15_15 =>
           intro w' m hE hR
           intro v0 h0 Q hQ
           obtain ⟨rfl, h0⟩ := h0
           go_wp2
           exact hQ _ _ _ rfl rfl (EM.refl _ _ _) hR
         case s15_16 =>
           intro w' m hE hR
           intro Q hQ
           go_wp2
           exact hQ _ _ _ rfl rfl (EM.refl _ _ _) hR
         case s15_17 =>
           intro w' m hE hR
           intro Q hQ
           go_wp2
           exact hQ _ _ _ rfl rfl (EM.refl _ _ _) hR
         case s15_18 =>
           intro w' m hE hR
           intro v17 h17 Q hQ
           obtain rfl : v17 = _ := h17
           have z : w'.cell? ⟨w.heap.size, 3, none⟩ = some _ := (hE.1.cell (p := ⟨w.heap.size, 3, none⟩) hslt).trans c3
           go_wp2
           exact hQ _ _ _ rfl rfl (EM.refl _ _ _) hR
         case s15_19 =>
           intro w' m hE hR
           intro v16 h16 v18 h18 Q hQ
           obtain rfl : v16 = _ := h16
           obtain rfl : v18 = _ := h18
           go_wp2
           exact hQ _ _ _ rfl (by first | rfl | (show Value.bool (decide (am ≤ x)) = _; rw [hge])) (EM.refl _ _ _) hR
         case s15_20 =>
           intro w' m hE hR
           intro v19 h19 Q hQ
           obtain rfl : v19 = _ := h19
           go_wp2
           exact hQ _ _ _ rfl rfl (EM.refl _ _ _) hR
         case s15_21 =>
           intro w' m hE hR
           intro v20 h20 Q hQ
           obtain rfl : v20 = _ := h20
           go_wp2
           exact hQ _ _ _ rfl rfl (EM.refl _ _ _) hR
         case s15_22 =>
           intro w' m hE hR
           intro v20 h20 Q hQ
           obtain rfl : v20 = _ := h20
           go_wp2
           exact hQ _ _ _ rfl rfl (EM.refl _ _ _) hR
         case s15_23 =>
           intro w' m hE hR
           intro v20 h20 v22 h22 Q hQ
           obtain rfl : v20 = _ := h20
           obtain rfl : v22 = _ := h22
           have z : w'.cell? ⟨w.heap.size, 3, none⟩ = some _ := (hE.1.cell (p := ⟨w.heap.size, 3, none⟩) hslt).trans c3
           go_wp2
           exact hQ _ _ _ rfl rfl (EM.refl _ _ _) hR
         case s15_24 =>
           intro w' m hE hR
           intro v20 h20 v21 h21 v23 h23 Q hQ
           obtain rfl : v20 = _ := h20
           obtain rfl : v21 = _ := h21
           obtain rfl : v23 = _ := h23
           go_wp2
           exact hQ _ _ _ rfl rfl (EM.refl _ _ _) hR
         case s15_25 =>
           intro w' m hE hR
           intro v20 h20 v24 h24 Q hQ
           obtain rfl : v20 = _ := h20
           obtain rfl : v24 = _ := h24
           go_wp2
           exact hQ _ _ _ rfl rfl (EM.refl _ _ _) hR
         case s15_26 =>
           intro w' m hE hR
           intro v20 h20 v25 h25 Q hQ
           obtain rfl : v20 = _ := h20
           obtain rfl : v25 = _ := h25
           go_wp2
           exact hQ _ _ _ rfl rfl (EM.refl _ _ _) hR
         case s15_27 =>
           intro w' m hE hR
           intro v15 h15 Q hQ
           obtain rfl : v15 = _ := h15
           go_wp2
           exact hQ _ _ _ rfl rfl (EM.refl _ _ _) hR
       intro w3 hE hR
       rintro v0 ⟨rfl, m0⟩ v1 - v2 - v3 - v4 - v5 - v6 - v7 m7 v8 - v9 - v10 - v11 - v12 - v13 - v14 m14 v15 - v16 - v17 - v18 - v19 - v20 - v21 - v22 - v23 - v24 - v25 - v26 h26 v27 h27
       obtain rfl : v26 = _ := h26
       obtain rfl : v27 = _ := h27
       change wpList _ _ _ [_] _ _
       simp only [Go.Act.put, List.setIfInBounds_toArray, List.set_cons_succ, List.set_cons_zero]
       go_wp2
       go_ret2
       have hb3 : Below w.heap.size w w3 := hb0.trans ⟨hE.1.os, hE.1.tape, hE.1.output, hE.1.size, fun k hk => hE.1.block k (by omega)⟩
       exact ⟨W2.heap.size, by (rw [unhide HDN]; try rfl), ((MapAt.both m7 m14).sub (fun k hk => by rcases unhide HKS k hk with h | h <;> simp [h])), by omega, hb3⟩
end Go.Proofs.YtihlhejencninaaGreat
namespace Go.Proofs.YtihlhejencninaaGreat
open Go.RowKit
set_option linter.unusedVariables false
set_option linter.unusedSimpArgs false
attribute [local go_sem ↓] Go.wp_at_zero Go.wp_at_succ

theorem atV_nat (v : List Int) (p : Nat) : atV v (p : Int) = v.getD p 0 := by simp [atV]
theorem actReads_mem {a : Act} {k : Int} (h : k ∈ actReads a) : k = a.src ∨ k = a.dst := by
 unfold actReads at h
 split at h
 · cases h
 · split at h
   · exact .inl (by simpa using h)
   · rcases List.mem_cons.1 h with h | h
     · exact .inl h
     · exact .inr (by simpa using h)
theorem actWrites_mem {a : Act} {k : Int} (h : k ∈ actWrites a) : k = a.src ∨ k = a.dst := by
 unfold actWrites at h
 split at h
 · exact .inl (by simpa using h)
 · split at h
   · exact .inr (by simpa using h)
   · simp only [List.mem_cons, List.not_mem_nil, or_false] at h
     omega
theorem result_any (a : Act) (v : List Int) (w : World) (ha : actB a = true) (hv : valOk v) :
   Calls Tryz.prog 174 #[.agg #[.int .i64 a.kind, .int .i64 a.src, .int .i64 a.dst, .int .i64 a.amt], .agg (vA v)] w fun e w' => ∃ b, e = .returned (.tuple #[.map (some b), .bool (actDone a (atV v a.src) (atV v a.dst))]) ∧ MapAt (wAt a (atV v a.src) (atV v a.dst)) w' b (actWrites a) ∧ w.heap.size ≤ b ∧ Below w.heap.size w w' := by
 obtain ⟨hs, hd, hm, hk⟩ := actB_bd ha
 have hkk := actK_kind hk
 have hmem := fun k (h : k ∈ actWrites a) => actWrites_mem h
 obtain ⟨kd, sr, ds, am⟩ := a
 simp only at *
 obtain ⟨p, rfl⟩ := Int.eq_ofNat_of_zero_le hs.1
 obtain ⟨q, rfl⟩ := Int.eq_ofNat_of_zero_le hd.1
 have hx := atV_bd hv (p : Int)
 have hy := atV_bd hv (q : Int)
 refine result_core kd p q am v (atV v p) (atV v q) _ _ _ w (by omega) (by omega) hv.1 (atV_nat v p).symm (atV_nat v q).symm hx hy hm hkk hmem ?_ ?_ ?_ ?_ ?_ ?_
 · rintro rfl; simp [wAt, actDone, actWrites]
 · rintro rfl; simp [wAt, actDone, actWrites]
 · rintro rfl; simp [wAt, actDone, actWrites]
 · rintro rfl
   refine ⟨?_, ?_, ?_⟩
   · simp only [wAt]
     by_cases h : (p : Int) = (q : Int)
     · simp [h]
     · simp [h]
   · simp [wAt]
   · simp [actDone]
 · rintro rfl; simp [wAt, actDone, actWrites]
 · rintro rfl
   refine ⟨?_, ?_⟩
   · rintro rfl; simp [wAt, actDone]
   · intro hne
     have h1 : ¬ (p : Int) = (q : Int) := by omega
     have h2 : ¬ (q : Int) = (p : Int) := by omega
     simp [wAt, actDone, h1, h2]
theorem runV_reads (v : List Int) (a : Act) : (runV v a).reads = (actReads a).map fun k => ⟨k, atV v k⟩ := by
 show (actReads a).map _ = _
 apply List.map_congr_left
 intro k hk
 rcases actReads_mem hk with rfl | rfl
 · simp
 · by_cases h : a.dst = a.src
   · rw [if_pos h, h]
   · rw [if_neg h]
theorem runV_yes {v : List Int} {a : Act} (h : actDone a (atV v a.src) (atV v a.dst) = true) : (runV v a).writes = (actWrites a).map fun k => ⟨k, wAt a (atV v a.src) (atV v a.dst) k⟩ := by
 show (if _ then _ else _) = _
 rw [if_pos h]
theorem runV_no {v : List Int} {a : Act} (h : actDone a (atV v a.src) (atV v a.dst) = false) : (runV v a).writes = [] := by
 show (if _ then _ else _) = _
 rw [if_neg (by simp [h])]
def bRow (base : Nat) (cs : Array Value) (v : Value) (w : World) : Prop := ∃ q, v = .slice (some ⟨q, 0, none⟩) 1 1 ∧ base ≤ q ∧ Blk w q 79 cs
theorem sb_Row (base : Nat) (cs : Array Value) : StB (bRow base cs) := fun _ _ _ hb ⟨q, h1, h2, h3⟩ => ⟨q, h1, h2, h3.new_ hb⟩
set_option maxRecDepth 100000 in
set_option maxHeartbeats 4000000 in
theorem run_any (a : Act) (v : List Int) (w : World) (ha : actB a = true) (hv : valOk v) :
   Calls Tryz.prog 134 #[.agg #[.int .i64 a.kind, .int .i64 a.src, .int .i64 a.dst, .int .i64 a.amt], .agg (vA v)] w fun e w' => ∃ A1 c1 A2 c2, e = .returned (.agg #[.bool (runV v a).done, .slice A1 (runV v a).reads.length c1, .slice A2 (runV v a).writes.length c2]) ∧
     effR (fun k => w.heap.size ≤ k) (runV v a) w' (effV (runV v a) A1 c1 A2 c2) ∧ Below w.heap.size w w' := by
 have hvl := hv.1
 have hsV : (vA v).size = 32 := by rw [vA_size, hvl]
 have HA := hide ha
 have HVO := hide hv
 have HRD := hide (runV_reads v a)
 have HKM := hide (fun k (h : k ∈ actReads a) => show 0 ≤ k ∧ k ≤ 31 by
   obtain ⟨h1, h2, _⟩ := actB_bd ha
   rcases actReads_mem h with rfl | rfl
   · exact h1
   · exact h2)
 have HWM := hide (fun k (h : k ∈ actWrites a) => show 0 ≤ k ∧ k ≤ 31 by
   obtain ⟨h1, h2, _⟩ := actB_bd ha
   rcases actWrites_mem h with rfl | rfl
   · exact h1
   · exact h2)
 have HYES := hide (runV_yes (v := v) (a := a))
 have HNO := hide (runV_no (v := v) (a := a))
 have hrl := actReads_len a
 have hwl := actWrites_len a
 clear ha hv
 go_enter Tryz.func134, Tryz.ntmps134
 go_wp2_with fail
 have hW : ∃ W : World, W = ((((w.alloc (.cells #[.int .i64 a.kind, .int .i64 a.src, .int .i64 a.dst, .int .i64 a.amt] 56)).alloc (.cells (vA v) 112)).alloc (.cells #[.bool false, .slice none 0 0, .slice none 0 0] 107)).alloc (.cells #[.bool false, .slice none 0 0, .slice none 0 0] 107)) ∧ Blk W w.heap.size 56 #[.int .i64 a.kind, .int .i64 a.src, .int .i64 a.dst, .int .i64 a.amt] ∧ Blk W (w.heap.size + 1) 112 (vA v) ∧ Blk W (w.heap.size + 1 + 1) 107 #[.bool false, .slice none 0 0, .slice none 0 0] ∧ Blk W (w.heap.size + 1 + 1 + 1) 107 #[.bool false, .slice none 0 0, .slice none 0 0] ∧ Below w.heap.size w W ∧ W.heap.size = w.heap.size + 1 + 1 + 1 + 1 := by
   refine ⟨_, rfl, ?_, ?_, ?_, ?_, ?_, ?_⟩
   · exact (((Blk.new _ _ _).alloc _).alloc _).alloc _
   · have := ((Blk.new (w.alloc (.cells #[.int .i64 a.kind, .int .i64 a.src, .int .i64 a.dst, .int .i64 a.amt] 56)) 112 (vA v)).alloc (.cells #[.bool false, .slice none 0 0, .slice none 0 0] 107)).alloc (.cells #[.bool false, .slice none 0 0, .slice none 0 0] 107)
     simpa using this
   · have := (Blk.new ((w.alloc (.cells #[.int .i64 a.kind, .int .i64 a.src, .int .i64 a.dst, .int .i64 a.amt] 56)).alloc (.cells (vA v) 112)) 107 #[.bool false, .slice none 0 0, .slice none 0 0]).alloc (.cells #[.bool false, .slice none 0 0, .slice none 0 0] 107)
     simpa using this
   · have := Blk.new (((w.alloc (.cells #[.int .i64 a.kind, .int .i64 a.src, .int .i64 a.dst, .int .i64 a.amt] 56)).alloc (.cells (vA v) 112)).alloc (.cells #[.bool false, .slice none 0 0, .slice none 0 0] 107)) 107 #[.bool false, .slice none 0 0, .slice none 0 0]
     simpa using this
   · exact (((((Below.refl _ _).alloc (Nat.le_refl _) _).alloc (by simp) _).alloc (by simp; omega) _).alloc (by simp; omega) _)
   · simp
 obtain ⟨W, hWe, kA, kV, kR, kE, hB, hsz⟩ := hW
 rw [← hWe]
 clear hWe
 refine (reads_any a W).mono ?_
 rintro e w1 ⟨A1, c1, rfl, o1, b1⟩
 replace kA := kA.new_ b1
 replace kV := kV.new_ b1
 replace kR := kR.new_ b1
 replace kE := kE.new_ b1
 have hs1 : w.heap.size + 1 + 1 + 1 + 1 ≤ w1.heap.size := by have := b1.size; omega
 replace hB := bthen hB b1
 have r1 := own_rdB o1 (Nat.le_refl _)
 clear o1 b1
 generalize hks : actReads a = ks at *
 have HKS := hide hks
 clear hks
 have hB1s := hB.size
 go_wp2
 go_loopw [7, 15] (fun _ i wr => ∃ (k : Nat) (A' : Option Addr) (c' : Nat), k ≤ ks.length ∧ i = .int .i64 k ∧ Blk wr (w.heap.size + 1 + 1 + 1) 107 #[.bool false, .slice A' k c', .slice none 0 0] ∧ wr.ownsRow w1.heap.size 79 2 (.slice A' k c') k (((ks.take k).map fun k => (⟨k, atV v k⟩ : Ent)).flatMap encE) ∧ Chg (fun q => q = w.heap.size + 1 + 1 + 1) w1 wr) (fun _ i _ => ks.length - (intOf i).toNat)
 case atStart => exact ⟨0, none, 0, Nat.zero_le _, rfl, kE, own_nil _ _ _ _, Chg.refl _ _⟩
 case round =>
   obtain ⟨k, A', c', hk, rfl, ke, hown, hch⟩ := hrel
   have kv := kV.chg hch (by omega)
   have ka := kA.chg hch (by omega)
   have kr := kR.chg hch (by omega)
   have hsr := hch.size
   by_cases hlt : k < ks.length
   · have hr1 := (r1.keep (Kp.chg hch fun k hk e => by omega)).rd
     obtain ⟨b, off, rfl, hbb, hc⟩ := hr1.int hlt
     have hkb := unhide HKM ks[k] (List.getElem_mem hlt)
     have HT := hide (show (ks.take (k + 1)).map (fun k => (⟨k, atV v k⟩ : Ent)) = (ks.take k).map (fun k => (⟨k, atV v k⟩ : Ent)) ++ [⟨ks[k], atV v ks[k]⟩] by rw [List.take_succ_eq_append_getElem hlt, List.map_append]; rfl)
     generalize ks[k] = key at *
     obtain ⟨q, rfl⟩ := Int.eq_ofNat_of_zero_le hkb.1
     have i1 : (k : Int) < (ks.length : Int) := by omega
     have i2 : (q : Int) < 32 := by omega
     have cq := vA_get kv (show q < v.length by omega)
     rw [← atV_nat] at cq
     generalize atV v (q : Int) = x at *
     have ce1 : wr.cell? ⟨w.heap.size + 1 + 1 + 1, 1, none⟩ = some (.slice A' k c') := ke.cell 1
     have hlv := kv.lt
     have hle := ke.lt
     have hF : StBL [bV (.pointer (some ⟨w.heap.size + 1 + 1 + 1, 1, none⟩)), bV (.slice A' k c'), bV (.int .i64 (q : Int)), bV (.int .i64 (q : Int)), bV (.pointer (some ⟨w.heap.size + 1, q, none⟩)), bV (.int .i64 x), bV (.agg #[.int .i64 (q : Int), .int .i64 x]), bRow wr.heap.size #[.int .i64 (q : Int), .int .i64 x]] := ⟨sb_V _, sb_V _, sb_V _, sb_V _, sb_V _, sb_V _, sb_V _, sb_Row _ _, trivial⟩
     go_wp2
     refine wp_region_loc (by kernel_rfl) [(0, some 19), (1, some 20), (2, some 21), (3, some 22), (4, some 23), (5, some 24), (6, some 25), (7, some 26)] [[], [(0, some 19)], [], [], [(3, some 22)], [(4, some 23)], [(2, some 21), (5, some 24)], [(6, some 25)]] (by kernel_rfl)
       (locB [bV (.pointer (some ⟨w.heap.size + 1 + 1 + 1, 1, none⟩)), bV (.slice A' k c'), bV (.int .i64 (q : Int)), bV (.int .i64 (q : Int)), bV (.pointer (some ⟨w.heap.size + 1, q, none⟩)), bV (.int .i64 x), bV (.agg #[.int .i64 (q : Int), .int .i64 x]), bRow wr.heap.size #[.int .i64 (q : Int), .int .i64 x]]) (fun a b => Below a.heap.size a b) noR [0, 0, 0, 0, 0, 0, 0, 0] 0 (by kernel_rfl) (fun _ => Below.refl _ _) (fun _ _ _ => bthen) (locB_st hF _) trivial ?_ ?_
     · refine steps_cons ?s0 (steps_cons ?s1 (steps_cons ?s2 (steps_cons ?s3 (steps_cons ?s4 (steps_cons ?s5 (steps_cons ?s6 (steps_cons ?s7 steps_nil)))))))
       case s0 | s2 | s3 =>
         intro w' m hE hR Q hQ
         go_wp2
         exact hQ _ _ _ rfl rfl (Below.refl _ _) trivial
       case s1 =>
         intro w' m hE hR v0 h0 Q hQ
         obtain rfl : v0 = _ := h0
         have z := ((below_undrew hE).cell (p := ⟨w.heap.size + 1 + 1 + 1, 1, none⟩) hle).trans ce1
         go_wp2
         exact hQ _ _ _ rfl rfl (Below.refl _ _) trivial
       case s4 =>
         intro w' m hE hR v0 h0 Q hQ
         obtain rfl : v0 = _ := h0
         go_wp2
         exact hQ _ _ _ rfl rfl (Below.refl _ _) trivial
       case s5 =>
         intro w' m hE hR v0 h0 Q hQ
         obtain rfl : v0 = _ := h0
         have z := ((below_undrew hE).cell (p := ⟨w.heap.size + 1, q, none⟩) hlv).trans cq
         go_wp2
         exact hQ _ _ _ rfl rfl (Below.refl _ _) trivial
       case s6 =>
         intro w' m hE hR v0 h0 v1 h1 Q hQ
         obtain rfl : v0 = _ := h0
         obtain rfl : v1 = _ := h1
         go_wp2
         exact hQ _ _ _ rfl rfl (Below.refl _ _) trivial
       case s7 =>
         intro w' m hE hR v0 h0 Q hQ
         obtain rfl : v0 = _ := h0
         go_wp2
         exact hQ _ _ _ rfl ⟨w'.heap.size, rfl, (below_undrew hE).size, Blk.new _ _ _⟩ ((Below.refl _ _).alloc (Nat.le_refl _) _) trivial
     intro w3 hE _
     rintro v0 h0 v1 h1 v2 - v3 - v4 - v5 - v6 - v7 ⟨q7, rfl, hq7, k7⟩
     obtain rfl : v0 = _ := h0
     obtain rfl : v1 = _ := h1
     have b3 := below_undrew hE
     have o3 := own_new hown b3
     have ke3 := ke.new_ b3
     have hch3 := hch.trans (Chg.of_new (S := fun q => q = w.heap.size + 1 + 1 + 1) b3)
     have hs3 := hch3.size
     clear hown hE ce1 cq hc
     change wpList _ _ _ [_, _, _] _ _
     simp only [Go.Act.put, List.setIfInBounds_toArray, List.set_cons_succ, List.set_cons_zero]
     go_wp2_with (at_builtin; refine wpList_app rfl (.tmp 20) (.tmp 26) 34 rfl el_ent rfl o3 rfl (rd_blk k7) rfl (one_ents [⟨(q : Int), x⟩]) (by simp only [maxLen]; omega) (by omega) (by omega) ?_; intro A6 c6 w6 o6 ch6 _ _; rw [snoc_ents] at o6; have zE : w6.frozen? ⟨w.heap.size + 1 + 1 + 1, 1, none⟩ = false := (ke3.chg ch6 (fun e => by have := own_rng o3 _ e; omega)).frozen 1; have zC : w6.cell? ⟨w.heap.size + 1 + 1 + 1, 1, none⟩ = some (.slice A' k c') := (ke3.chg ch6 (fun e => by have := own_rng o3 _ e; omega)).cell 1)
     have ke6 := (ke3.chg ch6 (fun e => by have := own_rng o3 _ e; omega)).set_ 1 (.slice A6 (k + 1) c6)
     have hch6 := (chg_g hch3 o3 ch6 (Nat.le_refl _)).setCell (p := ⟨w.heap.size + 1 + 1 + 1, 1, none⟩) (.inl rfl) (.slice A6 (k + 1) c6)
     have o7 := own_far o6 (p := ⟨w.heap.size + 1 + 1 + 1, 1, none⟩) (fun g hA e => by have := own_rng o6 g hA; simp only at e; omega) (.slice A6 (k + 1) c6)
     go_roundw
     case rel => exact ⟨k + 1, A6, c6, by omega, by go_num, ke6, by rw [unhide HT]; exact o7, hch6⟩
     case measure => simp [intOf]; omega
   · obtain rfl : k = ks.length := by omega
     rw [List.take_length] at hown
     have HRE := hide (show (runV v a).reads = ks.map fun k => (⟨k, atV v k⟩ : Ent) by rw [unhide HRD])
     have hcpR := own_cap hown
     have rdR := own_rdB hown (Nat.le_refl _)
     have hrlen : (runV v a).reads.length = ks.length := by rw [unhide HRE, List.length_map]
     have HRL := hide hrlen
     rw [← unhide HRE] at rdR
     clear hrlen hown
     have c0 : wr.cell? ⟨w.heap.size, 0, none⟩ = some (.int .i64 a.kind) := ka.cell 0
     have c1' : wr.cell? ⟨w.heap.size, 1, none⟩ = some (.int .i64 a.src) := ka.cell 1
     have c2 : wr.cell? ⟨w.heap.size, 2, none⟩ = some (.int .i64 a.dst) := ka.cell 2
     have c3 : wr.cell? ⟨w.heap.size, 3, none⟩ = some (.int .i64 a.amt) := ka.cell 3
     go_wp2_with (refine wpList_load_row rfl 112 (.tmp 3) rfl (w.heap.size + 1) rfl 112 (vA v) (0, 0) _ kv Tryz.underlying112 rfl (by rw [hsV]; exact info_vals) ?_)
     refine (result_any a v wr (unhide HA) (unhide HVO)).mono ?_
     rintro e w4 ⟨bm, rfl, hm4, hbm, b4⟩
     have ka4 := ka.new_ b4
     have ke4 := ke.new_ b4
     have kr4 := kr.new_ b4
     have rd4 := rdR.keep (Kp.below b4)
     have hB4 : Below w.heap.size w w4 := (hB.trans (hch.below (fun q hq e => by omega) hB.size)).trans (b4.mono (by have := hch.size; omega))
     have hs4 : w.heap.size + 1 + 1 + 1 + 1 ≤ w4.heap.size := by have := hch.size; have := b4.size; omega
     have hbmg : w.heap.size + 1 + 1 + 1 < bm := by have := hch.size; omega
     clear ka kv kr ke rdR c0 c1' c2 c3
     have c0 : w4.cell? ⟨w.heap.size, 0, none⟩ = some (.int .i64 a.kind) := ka4.cell 0
     have c1' : w4.cell? ⟨w.heap.size, 1, none⟩ = some (.int .i64 a.src) := ka4.cell 1
     have c2 : w4.cell? ⟨w.heap.size, 2, none⟩ = some (.int .i64 a.dst) := ka4.cell 2
     have c3 : w4.cell? ⟨w.heap.size, 3, none⟩ = some (.int .i64 a.amt) := ka4.cell 3
     have e0 : w4.cell? ⟨w.heap.size + 1 + 1 + 1, 0, none⟩ = some (.bool false) := ke4.cell 0
     have e1 : w4.cell? ⟨w.heap.size + 1 + 1 + 1, 1, none⟩ = some (.slice A' ks.length c') := ke4.cell 1
     have e2 : w4.cell? ⟨w.heap.size + 1 + 1 + 1, 2, none⟩ = some (.slice none 0 0) := ke4.cell 2
     have f0 : w4.frozen? ⟨w.heap.size + 1 + 1 + 1, 0, none⟩ = false := ke4.frozen 0
     have y0 : w4.cell? ⟨w.heap.size + 1 + 1, 0, none⟩ = some (.bool false) := kr4.cell 0
     have y1 : w4.cell? ⟨w.heap.size + 1 + 1, 1, none⟩ = some (.slice none 0 0) := kr4.cell 1
     have y2 : w4.cell? ⟨w.heap.size + 1 + 1, 2, none⟩ = some (.slice none 0 0) := kr4.cell 2
     have p0 : w4.frozen? ⟨w.heap.size + 1 + 1, 0, none⟩ = false := kr4.frozen 0
     have p1 : w4.frozen? ⟨w.heap.size + 1 + 1, 1, none⟩ = false := kr4.frozen 1
     have p2 : w4.frozen? ⟨w.heap.size + 1 + 1, 2, none⟩ = false := kr4.frozen 2
     have KR4 := hide kr4
     have KE4 := hide ke4
     have KA4 := hide ka4
     have RD4 := hide rd4
     clear kr4 ke4 ka4 rd4
     cases hdn : actDone a (atV v a.src) (atV v a.dst)
     · have HW0 := hide (unhide HNO hdn)
       have HDN := hide (show (runV v a).done = false from hdn)
       clear hdn
       go_wp2
       have kb := Blk.set_ (Blk.set_ (Blk.set_ (Blk.far_ (unhide KR4) (p := ⟨w.heap.size + 1 + 1 + 1, 0, none⟩) (by simp only []; omega) (.bool false)) 0 (.bool false)) 1 (.slice A' ks.length c')) 2 (.slice none 0 0)
       have hc := ((((Chg.refl (fun q => q = w.heap.size + 1 + 1 + 1 ∨ q = w.heap.size + 1 + 1) w4).setCell (p := ⟨w.heap.size + 1 + 1 + 1, 0, none⟩) (.inl (.inl rfl)) (.bool false)).setCell (p := ⟨w.heap.size + 1 + 1, 0, none⟩) (.inl (.inr rfl)) (.bool false)).setCell (p := ⟨w.heap.size + 1 + 1, 1, none⟩) (.inl (.inr rfl)) (.slice A' ks.length c')).setCell (p := ⟨w.heap.size + 1 + 1, 2, none⟩) (.inl (.inr rfl)) (.slice none 0 0)
       refine bodyPost_ret (v := .agg #[.bool false, .slice A' ks.length c', .slice none 0 0]) (results_cell_row rfl _ _ (w.heap.size + 1 + 1) 107 #[.bool false, .slice A' ks.length c', .slice none 0 0] (0, 0) _ rfl kb Tryz.underlying107 rfl info_valEffect) rfl ⟨A', c', none, 0, ?_, ?_, ?_⟩
       · rw [unhide HDN, unhide HRL, unhide HW0]
         rfl
       · refine ⟨A', c', none, 0, rfl, by rw [unhide HRL]; exact hcpR, by rw [unhide HW0]; simp [maxLen], ?_, by rw [unhide HW0]; exact RdP.nil _ _ _⟩
         exact ((unhide RD4).keep (Kp.chg hc fun q hq e => by omega)).mono fun q hq _ => by omega
       · exact hB4.trans (hc.below (fun q hq e => by omega) hB4.size)
     · have HWY := hide (unhide HYES hdn)
       have HDN := hide (show (runV v a).done = true from hdn)
       clear hdn
       go_wp2_with fail
       have ke5 := (unhide KE4).set_ 0 (.bool true)
       have hc5 := (Chg.refl (fun q => q = w.heap.size + 1 + 1 + 1) w4).setCell (p := ⟨w.heap.size + 1 + 1 + 1, 0, none⟩) (.inl rfl) (.bool true)
       refine at_world (C := fun w => Calls _ _ _ w _) (F := fun x => Blk x (w.heap.size + 1 + 1 + 1) 107 #[.bool true, .slice A' ks.length c', .slice none 0 0] ∧ Chg (fun q => q = w.heap.size + 1 + 1 + 1) w4 x) ⟨ke5, hc5⟩ ?_
       clear ke5 hc5 c0 c1' c2 c3 e0 e1 e2 f0 y0 y1 y2 p0 p1 p2
       rintro w5 ⟨ke5, hc5⟩
       refine (writes_any a w5).mono ?_
       rintro e w6 ⟨A6, c6, rfl, o6, b6⟩
       have ke6 := ke5.new_ b6
       have hc6 := hc5.trans (Chg.of_new (S := fun q => q = w.heap.size + 1 + 1 + 1) b6)
       have kr6 := (unhide KR4).chg hc6 (by omega)
       have rd6 := (unhide RD4).keep (Kp.chg hc6 fun q hq e => by omega)
       have hm6 := hm4.keep (hc6.block bm hm4.lt (by omega))
       have hB6 := hB4.trans (hc6.below (fun q hq e => by omega) hB4.size)
       have hs6 : w.heap.size + 1 + 1 + 1 + 1 ≤ w6.heap.size := by have := hc6.size; omega
       have q6 := own_rdB o6 (show w.heap.size + 1 + 1 + 1 + 1 ≤ w5.heap.size by have := hc5.size; omega)
       clear ke5 hc5 o6 b6 hc6
       generalize hms : actWrites a = ms at *
       have HMS := hide hms
       clear hms
       generalize hwf : wAt a (atV v a.src) (atV v a.dst) = f at *
       have HWF := hide hwf
       clear hwf
       go_wp2
       go_loopw [11, 42] (fun _ i wr => ∃ (k : Nat) (A2 : Option Addr) (c2 : Nat), k ≤ ms.length ∧ i = .int .i64 k ∧ Blk wr (w.heap.size + 1 + 1 + 1) 107 #[.bool true, .slice A' ks.length c', .slice A2 k c2] ∧ wr.ownsRow w6.heap.size 79 2 (.slice A2 k c2) k (((ms.take k).map fun k => (⟨k, f k⟩ : Ent)).flatMap encE) ∧ Chg (fun q => q = w.heap.size + 1 + 1 + 1) w6 wr) (fun _ i _ => ms.length - (intOf i).toNat)
       case atStart => exact ⟨0, none, 0, Nat.zero_le _, rfl, ke6, own_nil _ _ _ _, Chg.refl _ _⟩
       case round =>
         obtain ⟨k, A2, c2, hk, rfl, ke, hown, hch⟩ := hrel
         have hsr := hch.size
         by_cases hlt : k < ms.length
         · have hr6 := (q6.keep (Kp.chg hch fun q hq e => by omega)).rd
           obtain ⟨b, off, rfl, hbb, hc⟩ := hr6.int hlt
           have hkb := unhide HWM ms[k] (List.getElem_mem hlt)
           have HT := hide (show (ms.take (k + 1)).map (fun k => (⟨k, f k⟩ : Ent)) = (ms.take k).map (fun k => (⟨k, f k⟩ : Ent)) ++ [⟨ms[k], f ms[k]⟩] by rw [List.take_succ_eq_append_getElem hlt, List.map_append]; rfl)
           have hlk := (hm6.keep (hch.block bm hm6.lt (by omega))).look (List.getElem_mem hlt) ⟨by omega, by omega⟩
           generalize ms[k] = key at *
           have i1 : (k : Int) < (ms.length : Int) := by omega
           generalize f key = x at *
           have ce2 : wr.cell? ⟨w.heap.size + 1 + 1 + 1, 2, none⟩ = some (.slice A2 k c2) := ke.cell 2
           have hne : w.heap.size + 1 + 1 + 1 < wr.heap.size := by omega
           go_wp2_with (at_builtin; refine wpList_app rfl (.tmp 47) (.tmp 53) 34 rfl el_ent rfl (own_alloc hown _) rfl (rd_lit wr [.int .i64 key, .int .i64 x] _) rfl (one_ents [⟨key, x⟩]) (by simp only [maxLen]; omega) (by omega) (by simp; omega) ?_; intro A7 c7 w7 o7 ch7 _ _; rw [snoc_ents] at o7; have zE : w7.frozen? ⟨w.heap.size + 1 + 1 + 1, 2, none⟩ = false := ((ke.alloc _).chg ch7 (fun e => by have := own_rng hown _ e; omega)).frozen 2; have zC : w7.cell? ⟨w.heap.size + 1 + 1 + 1, 2, none⟩ = some (.slice A2 k c2) := ((ke.alloc _).chg ch7 (fun e => by have := own_rng hown _ e; omega)).cell 2)
           have ke7 := ((ke.alloc _).chg ch7 (fun e => by have := own_rng hown _ e; omega)).set_ 2 (.slice A7 (k + 1) c7)
           have hch7 := (chg_g (hch.alloc _) (own_alloc hown _) ch7 (Nat.le_refl _)).setCell (p := ⟨w.heap.size + 1 + 1 + 1, 2, none⟩) (.inl rfl) (.slice A7 (k + 1) c7)
           have o8 := own_far o7 (p := ⟨w.heap.size + 1 + 1 + 1, 2, none⟩) (fun g hA e => by have := own_rng o7 g hA; simp only at e; omega) (.slice A7 (k + 1) c7)
           go_roundw
           case rel => exact ⟨k + 1, A7, c7, by omega, by go_num, ke7, by rw [unhide HT]; exact o8, hch7⟩
           case measure => simp [intOf]; omega
         · obtain rfl : k = ms.length := by omega
           rw [List.take_length] at hown
           have HWE := hide (show (runV v a).writes = ms.map fun k => (⟨k, f k⟩ : Ent) by rw [unhide HWY])
           have hwlen : (runV v a).writes.length = ms.length := by rw [unhide HWE, List.length_map]
           have HWL := hide hwlen
           have hcpW := own_cap hown
           have rdW := own_rdB hown (Nat.le_refl _)
           rw [← unhide HWE] at rdW
           have RDW := hide rdW
           have kr := kr6.chg hch (by omega)
           have RDR := hide (rd6.keep (Kp.chg hch fun q hq e => by omega))
           have hB7 := hB6.trans (hch.below (fun q hq e => by omega) hB6.size)
           clear hwlen rdW hown
           have e0 : wr.cell? ⟨w.heap.size + 1 + 1 + 1, 0, none⟩ = some (.bool true) := ke.cell 0
           have e1 : wr.cell? ⟨w.heap.size + 1 + 1 + 1, 1, none⟩ = some (.slice A' ks.length c') := ke.cell 1
           have e2 : wr.cell? ⟨w.heap.size + 1 + 1 + 1, 2, none⟩ = some (.slice A2 ms.length c2) := ke.cell 2
           have y0 : wr.cell? ⟨w.heap.size + 1 + 1, 0, none⟩ = some (.bool false) := kr.cell 0
           have y1 : wr.cell? ⟨w.heap.size + 1 + 1, 1, none⟩ = some (.slice none 0 0) := kr.cell 1
           have y2 : wr.cell? ⟨w.heap.size + 1 + 1, 2, none⟩ = some (.slice none 0 0) := kr.cell 2
           have p0 : wr.frozen? ⟨w.heap.size + 1 + 1, 0, none⟩ = false := kr.frozen 0
           have p1 : wr.frozen? ⟨w.heap.size + 1 + 1, 1, none⟩ = false := kr.frozen 1
           have p2 : wr.frozen? ⟨w.heap.size + 1 + 1, 2, none⟩ = false := kr.frozen 2
           have KR := hide kr
           clear kr
           go_wp2
           have kb := Blk.set_ (Blk.set_ (Blk.set_ (unhide KR) 0 (.bool true)) 1 (.slice A' ks.length c')) 2 (.slice A2 ms.length c2)
           have hc := (((Chg.refl (fun q => q = w.heap.size + 1 + 1) wr).setCell (p := ⟨w.heap.size + 1 + 1, 0, none⟩) (.inl rfl) (.bool true)).setCell (p := ⟨w.heap.size + 1 + 1, 1, none⟩) (.inl rfl) (.slice A' ks.length c')).setCell (p := ⟨w.heap.size + 1 + 1, 2, none⟩) (.inl rfl) (.slice A2 ms.length c2)
           refine bodyPost_ret (v := .agg #[.bool true, .slice A' ks.length c', .slice A2 ms.length c2]) (results_cell_row rfl _ _ (w.heap.size + 1 + 1) 107 #[.bool true, .slice A' ks.length c', .slice A2 ms.length c2] (0, 0) _ rfl kb Tryz.underlying107 rfl info_valEffect) rfl ⟨A', c', A2, c2, ?_, ?_, ?_⟩
           · rw [unhide HDN, unhide HRL, unhide HWL]
           · refine ⟨A', c', A2, c2, rfl, by rw [unhide HRL]; exact hcpR, by rw [unhide HWL]; exact hcpW, ?_, ?_⟩
             · exact ((unhide RDR).keep (Kp.chg hc fun q hq e => by omega)).mono fun q hq _ => by omega
             · exact ((unhide RDW).keep (Kp.chg hc fun q hq e => by omega)).mono fun q hq _ => by omega
           · exact hB7.trans (hc.below (fun q hq e => by omega) hB7.size)
end Go.Proofs.YtihlhejencninaaGreat
namespace Go.Proofs.YtihlhejencninaaGreat
open Go.RowKit
set_option linter.unusedVariables false
set_option linter.unusedSimpArgs false
attribute [local go_sem ↓] Go.wp_at_zero Go.wp_at_succ

def runAllV : List Int → List Act → List Int
 | v, [] => v
 | v, a :: al => runAllV (setAll v (runV v a).writes) al
def runAllE : List Int → List Act → List Eff
 | _, [] => []
 | v, a :: al => runV v a :: runAllE (setAll v (runV v a).writes) al
theorem runAllV_snoc (v : List Int) (al : List Act) (a : Act) : runAllV v (al ++ [a]) = setAll (runAllV v al) (runV (runAllV v al) a).writes := by
 induction al generalizing v with
 | nil => rfl
 | cons b al ih => exact ih _
theorem runAllE_snoc (v : List Int) (al : List Act) (a : Act) : runAllE v (al ++ [a]) = runAllE v al ++ [runV (runAllV v al) a] := by
 induction al generalizing v with
 | nil => rfl
 | cons b al ih => rw [List.cons_append, runAllE, ih]; rfl
theorem runAllE_len (v : List Int) (al : List Act) : (runAllE v al).length = al.length := by
 induction al generalizing v with
 | nil => rfl
 | cons b al ih => rw [runAllE, List.length_cons, ih, List.length_cons]
/-- what is written is in bounds -/
theorem runV_writes {v : List Int} {a : Act} (hv : valOk v) (ha : actB a = true) : ∀ e ∈ (runV v a).writes, (0 ≤ e.k ∧ e.k ≤ 31) ∧ 0 ≤ e.v ∧ e.v ≤ 1000000 := by
 intro e he
 obtain ⟨hs, hd, hm, hk⟩ := actB_bd ha
 have hkk := actK_kind hk
 have hx := atV_bd hv a.src
 have hy := atV_bd hv a.dst
 cases hdn : actDone a (atV v a.src) (atV v a.dst)
 · rw [runV_no hdn] at he; cases he
 · rw [runV_yes hdn] at he
   obtain ⟨k, hkm, rfl⟩ := List.mem_map.1 he
   have hkey : 0 ≤ k ∧ k ≤ 31 := by
     rcases actWrites_mem hkm with rfl | rfl
     · exact hs
     · exact hd
   refine ⟨hkey, ?_⟩
   simp only
   unfold actDone at hdn
   unfold wAt
   generalize atV v a.src = x at *
   generalize atV v a.dst = y at *
   rcases hkk with h | h | h | h | h | h
   · rw [if_pos h]; exact hm
   · rw [if_neg (by omega), if_pos h]; omega
   · rw [if_neg (by omega), if_neg (by omega), if_pos h]; exact hx
   · rw [if_neg (by omega), if_neg (by omega), if_neg (by omega), if_pos h]
     split <;> assumption
   · rw [if_pos h, decide_eq_true_eq] at hdn
     rw [if_neg (by omega), if_neg (by omega), if_neg (by omega), if_neg (by omega), if_pos h]
     omega
   · rw [if_neg (by omega), if_pos h, Bool.and_eq_true, Bool.or_eq_true, decide_eq_true_eq, decide_eq_true_eq, decide_eq_true_eq] at hdn
     rw [if_neg (by omega), if_neg (by omega), if_neg (by omega), if_neg (by omega), if_neg (by omega)]
     split
     · exact hx
     · rename_i hne
       split
       · omega
       · have := hdn.2
         omega
theorem valOk_setAll {v : List Int} (hv : valOk v) {es : List Ent} (h : ∀ e ∈ es, (0 ≤ e.k ∧ e.k ≤ 31) ∧ 0 ≤ e.v ∧ e.v ≤ 1000000) : valOk (setAll v es) := by
 induction es generalizing v with
 | nil => exact hv
 | cons e es ih =>
   have h1 := h e (by simp)
   exact ih (valOk_set hv h1.1.1 h1.2.1 h1.2.2) fun x hx => h x (by simp [hx])
theorem valOk_runAll {v : List Int} (hv : valOk v) {al : List Act} (ha : ∀ a ∈ al, actB a = true) : valOk (runAllV v al) := by
 induction al generalizing v with
 | nil => exact hv
 | cons a al ih => exact ih (valOk_setAll hv (runV_writes hv (ha a (by simp)))) fun x hx => ha x (by simp [hx])
theorem runV_len (v : List Int) (a : Act) : (runV v a).reads.length ≤ 2 ∧ (runV v a).writes.length ≤ 2 := by
 constructor
 · rw [runV_reads, List.length_map]; exact actReads_len a
 · cases h : actDone a (atV v a.src) (atV v a.dst)
   · rw [runV_no h]; simp
   · rw [runV_yes h, List.length_map]; exact actWrites_len a
theorem runAllE_small (v : List Int) (al : List Act) : ∀ x ∈ runAllE v al, x.reads.length ≤ 2 ∧ x.writes.length ≤ 2 := by
 induction al generalizing v with
 | nil => intro x hx; cases hx
 | cons a al ih =>
   intro x hx
   rcases List.mem_cons.1 hx with rfl | hx
   · exact runV_len v a
   · exact ih _ x hx
theorem results_cell_tmp {P : Program} {fn : Func} {p q : Tmp} {ty : TypeId} (h : fn.results = #[.cell p ty, .tmp q]) (tmps : Array Value) (w : World) (g : Nat) (t : TypeId) (cs : Array Value) (fr : Nat × Nat) (d : TypeDesc)
   (hp : tmps.getD p undef = .pointer (some ⟨g, 0, none⟩)) (hg : w.heap[g]? = some (.cells cs t fr))
   (hu : P.underlying ty = some d) (hd : (match d with | .struct _ | .array _ _ => true | _ => false) = true) (hi : (P.info? ty).map (·.size) = some cs.size) :
   (results fn tmps).run P w = .ok (.tuple #[.agg cs, tmps.getD q undef]) w := by
 have hp' : tmps[p]?.getD undef = .pointer (some ⟨g, 0, none⟩) := by simpa using hp
 simp [results, h, hp', asAddr, run_loadVar_row w g t ty cs fr d hg hu hd hi]
theorem one_effs (x : Eff) (A1 : Option Addr) (c1 : Nat) (A2 : Option Addr) (c2 : Nat) : ∀ u ∈ effV x A1 c1 A2 c2, u.oneCell' = true := by
 intro u hu
 simp [effV] at hu
 rcases hu with rfl | rfl | rfl <;> rfl
set_option maxRecDepth 100000 in
set_option maxHeartbeats 4000000 in
theorem runAll_any (v : List Int) (A : Option Addr) (c : Nat) (al : List Act) (w : World) (hv : valOk v) (h : Rd w A (al.flatMap encA)) (ha : ∀ a ∈ al, actB a = true) (hb : al.length ≤ 1000000) :
   Calls Tryz.prog 82 #[.agg (vA v), .slice A al.length c] w fun e w' => ∃ A' c', e = .returned (.tuple #[.agg (vA (runAllV v al)), .slice A' (runAllE v al).length c']) ∧ ((runAllE v al).length ≤ c' ∧ c' ≤ maxLen) ∧ RdD effR (fun k => w.heap.size ≤ k) w' A' (runAllE v al) ∧ Below w.heap.size w w' := by
 have HA := hide ha
 have HV := hide hv
 have hvl := hv.1
 have hb0 : Below w.heap.size w ((w.alloc (.cells (vA v) 112)).alloc (.cells zA 112)) := ((Below.refl _ _).alloc (Nat.le_refl _) _).alloc (by simp) _
 have k0 := (Blk.new w 112 (vA v)).alloc (.cells zA 112)
 have k1 : Blk ((w.alloc (.cells (vA v) 112)).alloc (.cells zA 112)) (w.heap.size + 1) 112 zA := by
   have := Blk.new (w.alloc (.cells (vA v) 112)) 112 zA
   simpa using this
 have hsz : ((w.alloc (.cells (vA v) 112)).alloc (.cells zA 112)).heap.size = w.heap.size + 1 + 1 := by simp
 clear ha hv
 go_enter Tryz.func82, Tryz.ntmps82
 go_wp2
 refine at_world (C := fun w => Code.wp _ _ _ _ w) (F := fun W => Blk W w.heap.size 112 (vA v) ∧ Blk W (w.heap.size + 1) 112 zA ∧ Below w.heap.size w W ∧ W.heap.size = w.heap.size + 1 + 1) ⟨k0, k1, hb0, hsz⟩ ?_
 clear k0 k1 hb0 hsz
 rintro W ⟨k0, k1, hB, hsz⟩
 have HSZ := hide hsz
 have hWs : w.heap.size + 1 + 1 ≤ W.heap.size := by omega
 clear hsz
 go_loopw [6, 8, 9, 11, 14] (fun ef _ _ _ i wr => ∃ (k : Nat) (A' : Option Addr) (c' : Nat) (vs : List (List Value)) (cur : List Int), k ≤ al.length ∧ i = .int .i64 k ∧ ef = .slice A' k c' ∧ Hid (cur = runAllV v (al.take k) ∧ valOk cur) ∧ AllR effR (Off (w.heap.size + 1 + 1) A') wr (runAllE v (al.take k)) vs ∧ wr.ownsRow (w.heap.size + 1 + 1) 107 3 (.slice A' k c') k vs.flatten ∧ Blk wr w.heap.size 112 (vA cur) ∧ Chg (fun q => q = w.heap.size) W wr) (fun _ _ _ _ i _ => al.length - (intOf i).toNat)
 case atStart => exact ⟨0, none, 0, [], v, Nat.zero_le _, rfl, rfl, hide ⟨rfl, unhide HV⟩, trivial, own_nil _ _ _ _, k0, Chg.refl _ _⟩
 case round =>
   clear k0
   obtain ⟨k, A', c', vs, cur, hk, rfl, rfl, HC, hall, hown, kv, hch⟩ := hrel
   have hB1 := hB.trans (hch.below (fun q hq e => by omega) hB.size)
   have hsr := hch.size
   have hcl := (unhide HC).2.1
   have hsV : (vA cur).size = 32 := by rw [vA_size, hcl]
   by_cases hlt : k < al.length
   · obtain ⟨b, off, rfl, hbb, d0, d1, d2, d3⟩ := (h.new hB1).act hlt
     have hact := unhide HA al[k] (List.getElem_mem hlt)
     have HT := hide (List.take_succ_eq_append_getElem hlt)
     have HEB := hide (runV_writes (unhide HC).2 hact)
     generalize al[k] = a at *
     have HACT := hide hact
     clear hact
     have i1 : (k : Int) < (al.length : Int) := by omega
     have hgv := kv.lt
     have kvx := kv.alloc (.cells #[.int .i64 a.kind, .int .i64 a.src, .int .i64 a.dst, .int .i64 a.amt] 56)
     have hba : Below wr.heap.size wr (wr.alloc (.cells #[.int .i64 a.kind, .int .i64 a.src, .int .i64 a.dst, .int .i64 a.amt] 56)) := (Below.refl _ _).alloc (Nat.le_refl _) _
     go_wp2_with (refine wpList_load_row rfl 112 (.tmp 2) rfl w.heap.size rfl 112 (vA cur) (0, 0) _ kvx Tryz.underlying112 rfl (by rw [hsV]; exact info_vals) ?_)
     refine (run_any a cur _ (unhide HACT) (unhide HC).2).mono ?_
     rintro e w3 ⟨A1, c1, A2, c2, rfl, heff, b3⟩
     have b13 := bthen hba b3
     have hx3 : effR (fun q => wr.heap.size ≤ q) (runV cur a) w3 (effV (runV cur a) A1 c1 A2 c2) := eff_good.mono heff fun q hq _ => by simp at hq; omega
     have hall3 := hall.keep eff_good (Kp.below b13)
     have o3 := own_new hown b13
     have kv3 := kv.new_ b13
     have hch3 := hch.trans (Chg.of_new (S := fun q => q = w.heap.size) b13)
     have hrg := own_rng hown
     have hs3 := b13.size
     clear heff hall hown kv hch kvx hba b3 d0 d1 d2 d3
     have hrx : RdP (fun q => wr.heap.size ≤ q) w3 A2 ((runV cur a).writes.flatMap encE) := by
       obtain ⟨B1, e1, B2, e2, he, _, _, _, h4⟩ := hx3
       simp only [effV, List.cons.injEq, Value.slice.injEq, and_true, true_and] at he
       obtain ⟨-, rfl, -⟩ := he
       exact h4
     have hwl := (runV_len cur a).2
     have HSN := hide (runAllV_snoc v (al.take k) a)
     have HSE := hide (runAllE_snoc v (al.take k) a)
     generalize hxe : runV cur a = x at *
     have HXE := hide hxe
     clear hxe
     have hgw : w.heap.size ≠ w3.heap.size := by omega
     have kx := Blk.new w3 107 #[.bool x.done, .slice A1 x.reads.length c1, .slice A2 x.writes.length c2]
     have hbx : Below w3.heap.size w3 (w3.alloc (.cells #[.bool x.done, .slice A1 x.reads.length c1, .slice A2 x.writes.length c2] 107)) := (Below.refl _ _).alloc (Nat.le_refl _) _
     go_wp2
     have hW : ∃ w4 : World, w4 = (w3.alloc (.cells #[.bool x.done, .slice A1 x.reads.length c1, .slice A2 x.writes.length c2] 107)) := ⟨_, rfl⟩
     obtain ⟨w4, hw4⟩ := hW
     rw [← hw4] at kx hbx ⊢
     clear hw4
     have kv4 := kv3.new_ hbx
     have hs4 := hbx.size
     have hkl := kx.lt
     go_loopw [11, 24] (fun _ i wq => ∃ (j : Nat), j ≤ x.writes.length ∧ i = .int .i64 j ∧ Blk wq w.heap.size 112 (vA (setAll cur (x.writes.take j))) ∧ Chg (fun q => q = w.heap.size) w4 wq) (fun _ i _ => x.writes.length - (intOf i).toNat)
     case atStart => exact ⟨0, Nat.zero_le _, rfl, kv4, Chg.refl _ _⟩
     case round =>
       obtain ⟨j, hj, rfl, kq, hcq⟩ := hrel
       have hsq := hcq.size
       have hrq := (hrx.keep ((Kp.below hbx).trans (Kp.chg hcq fun q hq e => by omega))).rd
       by_cases hlt2 : j < x.writes.length
       · obtain ⟨b2, off2, rfl, hbb2, q0, q1⟩ := hrq.ent hlt2
         have hyb := unhide HEB x.writes[j] (List.getElem_mem hlt2)
         have HSS := hide (show setAll cur (x.writes.take (j + 1)) = (setAll cur (x.writes.take j)).set x.writes[j].k.toNat x.writes[j].v by rw [List.take_succ_eq_append_getElem hlt2, setAll_snoc]; rfl)
         have hlen : (setAll cur (x.writes.take j)).length = 32 := (setAll_len _ _).trans hcl
         generalize setAll cur (x.writes.take j) = u at *
         generalize x.writes[j] = y at *
         obtain ⟨key, val⟩ := y
         simp only at q0 q1 hyb HSS
         obtain ⟨q, rfl⟩ := Int.eq_ofNat_of_zero_le hyb.1.1
         have i3 : (j : Int) < (x.writes.length : Int) := by omega
         have i4 : (q : Int) < 32 := by omega
         have i5 : q < 32 := by omega
         have cv := vA_get kq (show q < u.length by omega)
         have zv := kq.frozen q
         have hgl := kq.lt
         have hne : w.heap.size ≠ wr.heap.size := by omega
         go_wp2
         go_roundw
         case rel => exact ⟨j + 1, by omega, by go_num, by rw [unhide HSS]; exact (vA_set kq q val).alloc _, (hcq.setCell (p := ⟨w.heap.size, q, none⟩) (.inl rfl) _).alloc _⟩
         case measure => simp [intOf]; omega
       · obtain rfl : j = x.writes.length := by omega
         rw [List.take_length] at kq
         have kpq : ∀ {P : Nat → Prop}, (∀ q, P q → q ≠ w.heap.size) → Kp P w3 wr := fun hP => (Kp.below hbx).trans (Kp.chg hcq fun q hq e => hP q hq e)
         have kxq := kx.chg hcq (by omega)
         have z0 : wr.cell? ⟨w3.heap.size, 0, none⟩ = some (.bool x.done) := kxq.cell 0
         have z1 : wr.cell? ⟨w3.heap.size, 1, none⟩ = some (.slice A1 x.reads.length c1) := kxq.cell 1
         have z2 : wr.cell? ⟨w3.heap.size, 2, none⟩ = some (.slice A2 x.writes.length c2) := kxq.cell 2
         have hall5 := hall3.keep eff_good (kpq fun q (hq : Off _ _ q) => by have := hq.1; omega)
         have hx5 := eff_good.keep hx3 (kpq fun q hq => by omega)
         have o5 := own_chg (own_new o3 hbx) hcq (fun g hA e => by have := hrg g hA; omega)
         have hch5 := (hch3.trans (Chg.of_new (S := fun q => q = w.heap.size) hbx)).trans hcq
         have hs5 := hch5.size
         clear hall3 hx3 o3 kxq
         go_wp2_with (at_builtin; refine wpList_app rfl (.tmp 34) (.tmp 36) 57 rfl el_eff rfl (own_alloc o5 _) rfl (rd_lit wr (effV x A1 c1 A2 c2) _) rfl (one_effs x A1 c1 A2 c2) (by simp only [maxLen]; omega) (by omega) (by simp; omega) ?_; intro A6 c6 w6 o6 ch6 d6 _)
         have hall6 := deep_app eff_good hall5 hx5 (show w.heap.size + 1 + 1 ≤ _ by omega) (fun g hA => hrg g hA) ch6 d6
         have o6' : w6.ownsRow (w.heap.size + 1 + 1) 107 3 (.slice A6 (k + 1) c6) (k + 1) (vs ++ [effV x A1 c1 A2 c2]).flatten := by simpa using o6
         have hgne : ∀ q, A' = some ⟨q, 0, none⟩ → q ≠ w.heap.size := fun q e => by have := hrg q e; omega
         have kv6 : Blk w6 w.heap.size 112 (vA (setAll cur x.writes)) := (kq.alloc _).chg ch6 (fun e => hgne _ e rfl)
         have hch6 := chg_app (hch5.alloc _) ch6 (fun q e => .inr (by have := hrg q e; have := unhide HSZ; omega))
         have HCN := hide (show setAll cur x.writes = runAllV v (al.take (k + 1)) ∧ valOk (setAll cur x.writes) from ⟨by rw [unhide HT, unhide HSN, ← (unhide HC).1, unhide HXE], valOk_setAll (unhide HC).2 (unhide HEB)⟩)
         have HEN := hide (show runAllE v (al.take (k + 1)) = runAllE v (al.take k) ++ [x] by rw [unhide HT, unhide HSE, ← (unhide HC).1, unhide HXE])
         go_roundw
         case rel => exact ⟨k + 1, A6, c6, _, _, by omega, by go_num, rfl, HCN, by rw [unhide HEN]; exact hall6, o6', kv6, hch6⟩
         case measure => simp [intOf]; omega
   · obtain rfl : k = al.length := by omega
     have hcp := own_cap hown
     have kR := k1.chg hch (by omega)
     have HC2 := hide (show cur = runAllV v al by rw [(unhide HC).1, List.take_length])
     have hel := runAllE_len v al
     rw [List.take_length] at hall
     have hgz : zA.size = 32 := rfl
     have hc := (Chg.refl (fun q => q = w.heap.size + 1) wr)
     have hkr := blk_setRow (ds := vA cur) kR
     have hcR : Chg (fun q => q = w.heap.size + 1) wr (wr.setRow (w.heap.size + 1) (vA cur)) := ⟨rfl, rfl, rfl, by rw [size_setRow]; exact Nat.le_refl _, fun q _ hq => setRow_other wr (w.heap.size + 1) q _ (by omega)⟩
     rw [unhide HC2] at hkr hcR kv hsV
     have HKR := hide hkr
     have HCR := hide hcR
     go_wp2_with (first | (refine wpList_load_row rfl 112 (.tmp 2) rfl w.heap.size rfl 112 (vA (runAllV v al)) (0, 0) _ kv Tryz.underlying112 rfl (by rw [hsV]; exact info_vals) ?_) | (refine wpList_store_row rfl 112 (.tmp 4) (.tmp 39) rfl (w.heap.size + 1) (vA (runAllV v al)) rfl rfl 112 zA kR (by rw [hsV]; exact info_vals) (by rw [hsV]; rfl) (vA_one _) ?_))
     refine bodyPost_ret (v := .tuple #[.agg (vA (runAllV v al)), .slice A' al.length c']) (results_cell_tmp (p := 4) (q := 5) (ty := 112) rfl _ _ (w.heap.size + 1) 112 (vA (runAllV v al)) (0, 0) _ rfl hkr Tryz.underlying112 rfl (by rw [hsV]; exact info_vals)) rfl ⟨A', c', ?_, ?_, ?_, ?_⟩
     · rw [hel]
     · rw [hel]; exact hcp
     · refine ⟨vs, ?_, ?_⟩
       · exact ((hall.keep eff_good (Kp.chg (unhide HCR) fun q (hq : Off _ _ q) e => by have := hq.1; omega))).mono eff_good fun q hq _ => by have := hq.1; omega
       · exact ((own_rdB hown (Nat.le_refl _)).keep (Kp.chg (unhide HCR) fun q hq e => by omega)).mono fun q hq _ => by omega
     · exact hB1.trans (hcR.below (fun q hq e => by omega) hB1.size)
end Go.Proofs.YtihlhejencninaaGreat
namespace Go.Proofs.YtihlhejencninaaGreat
open Go.RowKit
set_option linter.unusedVariables false
set_option linter.unusedSimpArgs false
attribute [local go_sem ↓] Go.wp_at_zero Go.wp_at_succ

def serialS (s : List Ent) (al : List Act) : List Ent := if storeB s = true ∧ actsB al = true then storeL (runAllV (valsL s) al) else []
def serialE (s : List Ent) (al : List Act) : List Eff := if storeB s = true ∧ actsB al = true then runAllE (valsL s) al else []
theorem serialE_small (s : List Ent) (al : List Act) : ∀ x ∈ serialE s al, x.reads.length ≤ 2 ∧ x.writes.length ≤ 2 := by
 unfold serialE
 split
 · exact runAllE_small _ _
 · intro x hx; cases hx
theorem serialE_len (s : List Ent) (al : List Act) : (serialE s al).length ≤ 10 := by
 unfold serialE
 split
 · rename_i h
   rw [runAllE_len]
   exact (actsB_yes h.2).1
 · simp
theorem serialS_len (s : List Ent) (al : List Act) : (serialS s al).length ≤ 32 := by
 unfold serialS
 split
 · exact storeL_len _
 · simp
theorem acts_all {al : List Act} (h : actsB al = true) : ∀ a ∈ al, actB a = true := fun a ha => by
 obtain ⟨k, hk, rfl⟩ := List.getElem_of_mem ha
 exact (actsB_yes h).2 k hk
set_option maxRecDepth 100000 in
set_option maxHeartbeats 1000000 in
theorem runSerial_impl (A : Option Addr) (ca : Nat) (s : List Ent) (B : Option Addr) (cb : Nat) (al : List Act) (w : World) (ha : Rd w A (s.flatMap encE)) (hla : s.length ≤ 4611686018427387904) (hb : Rd w B (al.flatMap encA)) (hlb : al.length ≤ 4611686018427387904) :
   Calls Tryz.prog 42 #[.slice A s.length ca, .slice B al.length cb] w fun e w' => ∃ A1 c1 A2 c2, e = .returned (.tuple #[.slice A1 (serialS s al).length c1, .slice A2 (serialE s al).length c2]) ∧ w'.ownsRow w.heap.size 79 2 (.slice A1 (serialS s al).length c1) (serialS s al).length ((serialS s al).flatMap encE) ∧ ((serialE s al).length ≤ c2 ∧ c2 ≤ maxLen) ∧ RdD effR (fun k => w.heap.size ≤ k) w' A2 (serialE s al) ∧ Below w.heap.size w w' := by
 cases hsa : storeB s
 · have HL := hide (show serialS s al = [] by simp [serialS, hsa])
   have HM := hide (show serialE s al = [] by simp [serialE, hsa])
   go_enter Tryz.func42, Tryz.ntmps42
   go_wp2_with fail
   refine (storeB_impl A ca s w ha hla).mono ?_
   rintro e w1 ⟨rfl, b1⟩
   rw [hsa]
   go_wp2
   go_ret2
   rw [unhide HL, unhide HM]
   exact ⟨none, 0, none, 0, rfl, own_nil _ _ _ _, ⟨Nat.le_refl _, by simp [maxLen]⟩, RdD.nil _ _ _ _, b1⟩
 cases hab : actsB al
 · have HL := hide (show serialS s al = [] by simp [serialS, hab])
   have HM := hide (show serialE s al = [] by simp [serialE, hab])
   go_enter Tryz.func42, Tryz.ntmps42
   go_wp2_with fail
   refine (storeB_impl A ca s w ha hla).mono ?_
   rintro e w1 ⟨rfl, b1⟩
   rw [hsa]
   go_wp2_with fail
   refine (actionsValid_impl B cb al w1 (hb.new b1) hlb).mono ?_
   rintro e w2 ⟨rfl, b2⟩
   rw [hab]
   go_wp2
   go_ret2
   rw [unhide HL, unhide HM]
   exact ⟨none, 0, none, 0, rfl, own_nil _ _ _ _, ⟨Nat.le_refl _, by simp [maxLen]⟩, RdD.nil _ _ _ _, bthen b1 b2⟩
 have HL := hide (show serialS s al = storeL (runAllV (valsL s) al) by unfold serialS; rw [if_pos ⟨hsa, hab⟩])
 have HM := hide (show serialE s al = runAllE (valsL s) al by unfold serialE; rw [if_pos ⟨hsa, hab⟩])
 have HKS := hide (store_keys hsa)
 have HV := hide (show valOk (valsL s) from valOk_vals (show evOk 1 (-1) s = true from hsa) (by omega))
 have HA := hide (acts_all hab)
 have hal := (actsB_yes hab).1
 go_enter Tryz.func42, Tryz.ntmps42
 go_wp2_with fail
 refine (storeB_impl A ca s w ha hla).mono ?_
 rintro e w1 ⟨rfl, b1⟩
 rw [hsa]
 go_wp2_with fail
 refine (actionsValid_impl B cb al w1 (hb.new b1) hlb).mono ?_
 rintro e w2 ⟨rfl, b2⟩
 rw [hab]
 have hB2 := bthen b1 b2
 clear hsa hab
 go_wp2_with fail
 refine (valuesOf_any A ca s w2 (ha.new hB2) hla (unhide HKS)).mono ?_
 rintro e w3 ⟨rfl, b3⟩
 have hB3 := bthen hB2 b3
 generalize valsL s = v at *
 go_wp2_with fail
 refine (runAll_any v B cb al w3 (unhide HV) (hb.new hB3) (unhide HA) (by omega)).mono ?_
 rintro e w4 ⟨A4, c4, rfl, hc4, r4, b4⟩
 have hs3 := hB3.size
 replace r4 := r4.mono eff_good (Q := fun k => w.heap.size ≤ k) fun q hq _ => by omega
 have hB4 := bthen hB3 b4
 have HVO := hide (valOk_runAll (unhide HV) (unhide HA))
 generalize runAllV v al = u at *
 have hul := (unhide HVO).1
 have hsU : (vA u).size = 32 := by rw [vA_size, hul]
 obtain ⟨k0, kU, bU⟩ := one_vals w4 112 u
 have hB5 := bthen hB4 bU
 have r5 := r4.new eff_good bU
 go_wp2_with (first | (refine wpList_store_row rfl 112 (.tmp 6) (.tmp 21) rfl w4.heap.size (vA u) rfl rfl 112 _ k0 (by rw [hsU]; exact info_vals) (by rw [hsU]; rfl) (vA_one _) ?_) | (refine wpList_load_row rfl 112 (.tmp 6) rfl w4.heap.size rfl 112 (vA u) (0, 0) _ kU Tryz.underlying112 rfl (by rw [hsU]; exact info_vals) ?_))
 refine (store_any u _ hul).mono ?_
 rintro e w6 ⟨A6, c6, rfl, o6, b6⟩
 go_wp2
 go_ret2
 rw [unhide HL, unhide HM]
 exact ⟨A6, c6, A4, c4, rfl, own_base o6 hB5.size, hc4, r5.new eff_good b6, bthen hB5 b6⟩
theorem equalE_any (A B : Option Addr) (c d : Nat) (xs ys : List Ent) (w : World) (hx : Rd w A (xs.flatMap encE)) (hy : Rd w B (ys.flatMap encE)) (hbx : xs.length ≤ 4611686018427387904) :
   Calls Tryz.prog 193 #[.slice A xs.length c, .slice B ys.length d] w fun e w' => e = .returned (.bool (decide (xs = ys))) ∧ ∃ m, w.drewN m = w' := by
 by_cases hl : xs.length = ys.length
 · have hd : ((xs.length : Int) != (ys.length : Int)) = false := by simp [hl]
   have HL := hide hl
   have hl1 : xs.length ≤ ys.length := by omega
   have hl2 : ys.length ≤ xs.length := by omega
   clear hl
   go_enter Tryz.func193, Tryz.ntmps193
   go_wp2
   go_loopw [5, 13] (fun _ i wr => ∃ k : Nat, k ≤ xs.length ∧ i = .int .i64 k ∧ (∀ j (h1 : j < xs.length) (h2 : j < ys.length), j < k → xs[j] = ys[j]) ∧ ∃ m, w.drewN m = wr) (fun _ i _ => xs.length - (intOf i).toNat)
   case atStart => exact ⟨0, Nat.zero_le _, rfl, fun j _ _ h => absurd h (by omega), 0, rfl⟩
   case round =>
     obtain ⟨k, hk, rfl, hsame, m, rfl⟩ := hrel
     have HS := hide hsame
     clear hsame
     by_cases hlt : k < xs.length
     · have hlt2 : k < ys.length := by omega
       obtain ⟨b, off, rfl, hbb, c0, c1⟩ := hx.ent hlt
       obtain ⟨b', off', rfl, hbb', d0, d1⟩ := hy.ent hlt2
       generalize hxk : xs[k] = xk at *
       generalize hyk : ys[k] = yk at *
       have HX := hide hxk
       have HY := hide hyk
       clear hxk hyk
       have i1 : (k : Int) < (xs.length : Int) := by omega
       have i2 : (k : Int) < (ys.length : Int) := by omega
       have e0 := eqIn_ent xk yk
       have e1 := hm_ent
       by_cases he : xk = yk
       · have e2 : decide (xk = yk) = true := by simpa using he
         have HE := hide he
         clear he
         rw [e2] at e0
         clear e2
         go_wp2
         go_quiet (fail)
         go_wp2
         go_roundw
         case rel =>
           refine ⟨k + 1, by omega, by go_num, fun j h1 h2 h3 => ?_, m + nq, rfl⟩
           rcases Nat.lt_or_ge j k with h4 | h4
           · exact unhide HS j h1 h2 h4
           · have : j = k := by omega
             subst this
             rw [unhide HX, unhide HY]
             exact unhide HE
         case measure => simp [intOf]; omega
       · have e2 : decide (xk = yk) = false := by simpa using he
         have HR := hide (show decide (xs = ys) = false by
           rw [decide_eq_false_iff_not]
           intro hh
           apply he
           subst hh
           rw [← unhide HX, ← unhide HY])
         clear he
         rw [e2] at e0
         clear e2
         go_wp2
         go_quiet (fail)
         go_wp2
         go_ret
         exact ⟨retb (unhide HR).symm, _, (World.drewN_drewN _ _ _).symm⟩
     · have HR := hide (show decide (xs = ys) = true by
         rw [decide_eq_true_eq]
         exact List.ext_getElem (unhide HL) fun j h1 h2 => unhide HS j h1 h2 (by omega))
       go_wp2
       go_ret
       exact ⟨retb (unhide HR).symm, m, rfl⟩
 · have hd : ((xs.length : Int) != (ys.length : Int)) = true := by simp; omega
   have HR := hide (show decide (xs = ys) = false by rw [decide_eq_false_iff_not]; intro hh; exact hl (by rw [hh]))
   clear hl
   go_enter Tryz.func193, Tryz.ntmps193
   go_wp2
   go_ret
   exact ⟨retb (unhide HR).symm, 0, rfl⟩
theorem eff_ext {x y : Eff} (h0 : x.done = y.done) (h1 : x.reads = y.reads) (h2 : x.writes = y.writes) : x = y := by cases x; cases y; simp_all
set_option maxHeartbeats 1000000 in
theorem same_any (x y : Eff) (A1 : Option Addr) (c1 : Nat) (A2 : Option Addr) (c2 : Nat) (B1 : Option Addr) (d1 : Nat) (B2 : Option Addr) (d2 : Nat) (w : World) (h1 : Rd w A1 (x.reads.flatMap encE)) (h2 : Rd w A2 (x.writes.flatMap encE)) (k1 : Rd w B1 (y.reads.flatMap encE)) (k2 : Rd w B2 (y.writes.flatMap encE)) (hb1 : x.reads.length ≤ 4611686018427387904) (hb2 : x.writes.length ≤ 4611686018427387904) :
   Calls Tryz.prog 185 #[.agg #[.bool x.done, .slice A1 x.reads.length c1, .slice A2 x.writes.length c2], .agg #[.bool y.done, .slice B1 y.reads.length d1, .slice B2 y.writes.length d2]] w fun e w' => e = .returned (.bool (decide (x = y))) ∧ Below w.heap.size w w' := by
 have hb0 : Below w.heap.size w ((w.alloc (.cells #[.bool x.done, .slice A1 x.reads.length c1, .slice A2 x.writes.length c2] 107)).alloc (.cells #[.bool y.done, .slice B1 y.reads.length d1, .slice B2 y.writes.length d2] 107)) := ((Below.refl _ _).alloc (Nat.le_refl _) _).alloc (by simp) _
 have K0 := (Blk.new w 107 #[.bool x.done, .slice A1 x.reads.length c1, .slice A2 x.writes.length c2]).alloc (.cells #[.bool y.done, .slice B1 y.reads.length d1, .slice B2 y.writes.length d2] 107)
 have K1 := Blk.new (w.alloc (.cells #[.bool x.done, .slice A1 x.reads.length c1, .slice A2 x.writes.length c2] 107)) 107 #[.bool y.done, .slice B1 y.reads.length d1, .slice B2 y.writes.length d2]
 simp only [World.size_alloc] at K1
 cases hd : (x.done == y.done)
 · have HR := hide (show decide (x = y) = false by
     rw [decide_eq_false_iff_not]; rintro rfl; simp at hd)
   go_enter Tryz.func185, Tryz.ntmps185
   go_wp2
   go_ret
   exact ⟨retb (unhide HR).symm, hb0⟩
 have HD := hide (show x.done = y.done by simpa using hd)
 go_enter Tryz.func185, Tryz.ntmps185
 go_wp2_with fail
 refine (equalE_any A1 B1 c1 d1 x.reads y.reads _ (h1.new hb0) (k1.new hb0) hb1).mono ?_
 rintro e w' ⟨rfl, m1, rfl⟩
 replace K0 := K0.drewN m1
 replace K1 := K1.drewN m1
 have hB1 := below_drewN hb0 m1
 generalize World.drewN _ m1 = w1 at *
 have z2 : w1.cell? ⟨w.heap.size, 2, none⟩ = some (.slice A2 x.writes.length c2) := K0.cell 2
 have y2 : w1.cell? ⟨w.heap.size + 1, 2, none⟩ = some (.slice B2 y.writes.length d2) := K1.cell 2
 by_cases hr : x.reads = y.reads
 · rw [decide_eq_true hr]
   have HRR := hide hr
   clear hr
   go_wp2_with fail
   refine (equalE_any A2 B2 c2 d2 x.writes y.writes _ (h2.new hB1) (k2.new hB1) hb2).mono ?_
   rintro e w' ⟨rfl, m2, rfl⟩
   have HR := hide (show decide (x = y) = decide (x.writes = y.writes) by
     by_cases hw : x.writes = y.writes
     · rw [decide_eq_true hw, decide_eq_true (eff_ext (unhide HD) (unhide HRR) hw)]
     · rw [decide_eq_false hw, decide_eq_false (fun e => hw (by rw [e]))])
   go_wp2
   go_ret
   exact ⟨retb (unhide HR).symm, below_drewN hB1 m2⟩
 · rw [decide_eq_false hr]
   have HR := hide (show decide (x = y) = false from decide_eq_false (fun e => hr (by rw [e])))
   clear hr
   go_wp2
   go_ret
   exact ⟨retb (unhide HR).symm, hB1⟩
end Go.Proofs.YtihlhejencninaaGreat
