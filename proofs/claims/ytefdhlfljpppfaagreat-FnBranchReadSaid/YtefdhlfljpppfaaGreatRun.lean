/- What an action does: reads, writes, result, run of the program. -/
import Derived.Test.YtefdhlfljpppfaaGreatMapR
import Derived.Test.YtefdhlfljpppfaaGreatActS
import Derived.Test.YtefdhlfljpppfaaGreatDiffs
import Derived.Test.YtefdhlfljpppfaaGreatEffS
namespace Go.Proofs.YtefdhlfljpppfaaGreat
open Go.RowKit
set_option linter.unusedVariables false
set_option linter.unusedSimpArgs false
attribute [local go_sem ↓] Go.wp_at_zero Go.wp_at_succ

def actReads (a : Act) : List Int := if a.kind = 1 then [] else if a.kind = 3 ∨ a.kind = 6 ∨ a.src = a.dst then [a.src] else [a.src, a.dst]
def actWrites (a : Act) : List Int := if a.kind = 1 ∨ a.kind = 6 then [a.src] else if a.kind = 3 ∨ a.kind = 5 ∨ a.src = a.dst then [a.dst] else [min a.src a.dst, max a.src a.dst]
def actDone (a : Act) (x y : Int) : Bool := if a.kind = 5 then decide (x + y ≤ 1000000) else if a.kind = 2 then decide (a.amt ≤ x) && (decide (a.src = a.dst) || decide (y + a.amt ≤ 1000000)) else true
def wAt (a : Act) (x y : Int) (key : Int) : Int :=
  if a.kind = 1 then a.amt else if a.kind = 6 then max 0 (x - a.amt) else if a.kind = 3 then x else if a.kind = 4 then (if key = a.dst then x else y) else if a.kind = 5 then x + y
  else if a.src = a.dst then x else if key = a.src then x - a.amt else y + a.amt
def atV (v : List Int) (k : Int) : Int := v.getD k.toNat 0
/-- the effect of an action where its keys have x and y -/
def actEff (a : Act) (x y : Int) : Eff :=
  ⟨actDone a x y, (actReads a).map fun k => ⟨k, if k = a.src then x else y⟩, if actDone a x y = true then (actWrites a).map fun k => ⟨k, wAt a x y k⟩ else []⟩
def runV (v : List Int) (a : Act) : Eff := actEff a (atV v a.src) (atV v a.dst)
theorem actB_bd {a : Act} (h : actB a = true) : (0 ≤ a.src ∧ a.src ≤ 31) ∧ (0 ≤ a.dst ∧ a.dst ≤ 31) ∧ (0 ≤ a.amt ∧ a.amt ≤ 1000000) ∧ actK a = true := by
  unfold actB at h
  simp only [Bool.and_eq_true] at h
  exact ⟨inB_true.1 h.1, inB_true.1 h.2.1, inB_true.1 h.2.2.1, h.2.2.2⟩
theorem actK_kind {a : Act} (h : actK a = true) : a.kind = 1 ∨ a.kind = 6 ∨ a.kind = 3 ∨ a.kind = 4 ∨ a.kind = 5 ∨ a.kind = 2 := by
  unfold actK at h
  simp only [beq_iff_eq] at h
  split at h
  · exact .inl ‹_›
  · split at h
    · exact .inr (.inl ‹_›)
    · split at h
      · exact .inr (.inr (.inl ‹_›))
      · split at h
        · exact .inr (.inr (.inr (.inl ‹_›)))
        · split at h
          · exact .inr (.inr (.inr (.inr (.inl ‹_›))))
          · exact .inr (.inr (.inr (.inr (.inr (by simpa using h)))))
theorem actReads_len (a : Act) : (actReads a).length ≤ 2 := by unfold actReads; split; simp; split <;> simp
theorem actWrites_len (a : Act) : (actWrites a).length ≤ 2 := by unfold actWrites; split; simp; split <;> simp
theorem atV_bd {v : List Int} (hv : valOk v) (k : Int) : 0 ≤ atV v k ∧ atV v k ≤ 1000000 := hv.2 _
set_option maxHeartbeats 1000000 in
theorem reads_any (a : Act) (w : World) :
    Calls Tryz.prog 117 #[.agg #[.int .i64 a.kind, .int .i64 a.src, .int .i64 a.dst, .int .i64 a.amt]] w fun e w' => ∃ A c, e = .returned (.slice A (actReads a).length c) ∧ w'.ownsRow w.heap.size 3 1 (.slice A (actReads a).length c) (actReads a).length ((actReads a).map (.int .i64)) ∧ Below w.heap.size w w' := by
  have hb1 : Below w.heap.size w (w.alloc (.cells #[.int .i64 a.kind, .int .i64 a.src, .int .i64 a.dst, .int .i64 a.amt] 101)) := (Below.refl _ _).alloc (Nat.le_refl _) _
  generalize hW : (w.alloc (.cells #[.int .i64 a.kind, .int .i64 a.src, .int .i64 a.dst, .int .i64 a.amt] 101)) = W at hb1
  have ONE := hide (fun (x : Int) (h : actReads a = [x]) => show ∃ A c, Ending.returned (Value.slice (some ⟨W.heap.size, 0, none⟩) 1 1) = .returned (.slice A (actReads a).length c) ∧ (W.alloc (.cells #[.int .i64 x] 3)).ownsRow w.heap.size 3 1 (.slice A (actReads a).length c) (actReads a).length ((actReads a).map (.int .i64)) ∧ Below w.heap.size w (W.alloc (.cells #[.int .i64 x] 3)) from by
    rw [h]
    exact ⟨_, _, rfl, own_made (base := w.heap.size) (e := 3) (size := 1) W #[.int .i64 x] 1 hb1.size (by simp [maxLen]) rfl, hb1.alloc hb1.size _⟩)
  have TWO := hide (fun (x y : Int) (h : actReads a = [x, y]) => show ∃ A c, Ending.returned (Value.slice (some ⟨W.heap.size, 0, none⟩) 2 2) = .returned (.slice A (actReads a).length c) ∧ (W.alloc (.cells #[.int .i64 x, .int .i64 y] 3)).ownsRow w.heap.size 3 1 (.slice A (actReads a).length c) (actReads a).length ((actReads a).map (.int .i64)) ∧ Below w.heap.size w (W.alloc (.cells #[.int .i64 x, .int .i64 y] 3)) from by
    rw [h]
    exact ⟨_, _, rfl, own_made (base := w.heap.size) (e := 3) (size := 1) W #[.int .i64 x, .int .i64 y] 2 hb1.size (by simp [maxLen]) rfl, hb1.alloc hb1.size _⟩)
  have HB := hide hb1
  subst hW
  clear hb1
  by_cases j1 : a.kind = 1
  · have HX := hide (show actReads a = [] by unfold actReads; rw [if_pos j1])
    have k1 : (a.kind == 1) = true := by simpa using j1
    clear j1
    go_enter Tryz.func117, Tryz.ntmps117
    go_wp2
    go_ret
    rw [unhide HX]
    exact ⟨none, 0, rfl, own_nil _ _ _ _, unhide HB⟩
  have k1 : (a.kind == 1) = false := by simpa using j1
  by_cases j3 : a.kind = 3
  · have HX := hide (show actReads a = [a.src] by unfold actReads; rw [if_neg j1, if_pos (.inl j3)])
    have k3 : (a.kind == 3) = true := by simpa using j3
    clear j1 j3
    go_enter Tryz.func117, Tryz.ntmps117
    go_wp2
    go_ret
    (have := unhide ONE _ (unhide HX); simpa using this)
  have k3 : (a.kind == 3) = false := by simpa using j3
  by_cases j6 : a.kind = 6
  · have HX := hide (show actReads a = [a.src] by unfold actReads; rw [if_neg j1, if_pos (.inr (.inl j6))])
    have k6 : (a.kind == 6) = true := by simpa using j6
    clear j1 j3 j6
    go_enter Tryz.func117, Tryz.ntmps117
    go_wp2
    go_ret
    (have := unhide ONE _ (unhide HX); simpa using this)
  have k6 : (a.kind == 6) = false := by simpa using j6
  by_cases js : a.src = a.dst
  · have HX := hide (show actReads a = [a.src] by unfold actReads; rw [if_neg j1, if_pos (.inr (.inr js))])
    have ks : (a.src == a.dst) = true := by simpa using js
    clear j1 j3 j6 js
    go_enter Tryz.func117, Tryz.ntmps117
    go_wp2
    go_ret
    (have := unhide ONE _ (unhide HX); simpa using this)
  have HX := hide (show actReads a = [a.src, a.dst] by unfold actReads; rw [if_neg j1, if_neg (by rintro (h | h | h); exact j3 h; exact j6 h; exact js h)])
  have ks : (a.src == a.dst) = false := by simpa using js
  clear j1 j3 j6 js
  go_enter Tryz.func117, Tryz.ntmps117
  go_wp2
  go_ret
  (have := unhide TWO _ _ (unhide HX); simpa using this)
set_option maxHeartbeats 1000000 in
theorem writes_any (a : Act) (w : World) :
    Calls Tryz.prog 119 #[.agg #[.int .i64 a.kind, .int .i64 a.src, .int .i64 a.dst, .int .i64 a.amt]] w fun e w' => ∃ A c, e = .returned (.slice A (actWrites a).length c) ∧ w'.ownsRow w.heap.size 3 1 (.slice A (actWrites a).length c) (actWrites a).length ((actWrites a).map (.int .i64)) ∧ Below w.heap.size w w' := by
  have hb1 : Below w.heap.size w (w.alloc (.cells #[.int .i64 a.kind, .int .i64 a.src, .int .i64 a.dst, .int .i64 a.amt] 101)) := (Below.refl _ _).alloc (Nat.le_refl _) _
  generalize hW : (w.alloc (.cells #[.int .i64 a.kind, .int .i64 a.src, .int .i64 a.dst, .int .i64 a.amt] 101)) = W at hb1
  have ONE := hide (fun (x : Int) (h : actWrites a = [x]) => show ∃ A c, Ending.returned (Value.slice (some ⟨W.heap.size, 0, none⟩) 1 1) = .returned (.slice A (actWrites a).length c) ∧ (W.alloc (.cells #[.int .i64 x] 3)).ownsRow w.heap.size 3 1 (.slice A (actWrites a).length c) (actWrites a).length ((actWrites a).map (.int .i64)) ∧ Below w.heap.size w (W.alloc (.cells #[.int .i64 x] 3)) from by
    rw [h]
    exact ⟨_, _, rfl, own_made (base := w.heap.size) (e := 3) (size := 1) W #[.int .i64 x] 1 hb1.size (by simp [maxLen]) rfl, hb1.alloc hb1.size _⟩)
  have TWO := hide (fun (x y : Int) (h : actWrites a = [x, y]) => show ∃ A c, Ending.returned (Value.slice (some ⟨W.heap.size, 0, none⟩) 2 2) = .returned (.slice A (actWrites a).length c) ∧ (W.alloc (.cells #[.int .i64 x, .int .i64 y] 3)).ownsRow w.heap.size 3 1 (.slice A (actWrites a).length c) (actWrites a).length ((actWrites a).map (.int .i64)) ∧ Below w.heap.size w (W.alloc (.cells #[.int .i64 x, .int .i64 y] 3)) from by
    rw [h]
    exact ⟨_, _, rfl, own_made (base := w.heap.size) (e := 3) (size := 1) W #[.int .i64 x, .int .i64 y] 2 hb1.size (by simp [maxLen]) rfl, hb1.alloc hb1.size _⟩)
  have HB := hide hb1
  subst hW
  clear hb1
  by_cases j1 : a.kind = 1
  · have HX := hide (show actWrites a = [a.src] by unfold actWrites; rw [if_pos (.inl j1)])
    have k1 : (a.kind == 1) = true := by simpa using j1
    clear j1
    go_enter Tryz.func119, Tryz.ntmps119
    go_wp2
    go_ret
    (have := unhide ONE _ (unhide HX); simpa using this)
  have k1 : (a.kind == 1) = false := by simpa using j1
  by_cases j6 : a.kind = 6
  · have HX := hide (show actWrites a = [a.src] by unfold actWrites; rw [if_pos (.inr j6)])
    have k6 : (a.kind == 6) = true := by simpa using j6
    clear j1 j6
    go_enter Tryz.func119, Tryz.ntmps119
    go_wp2
    go_ret
    (have := unhide ONE _ (unhide HX); simpa using this)
  have k6 : (a.kind == 6) = false := by simpa using j6
  have n16 : ¬ (a.kind = 1 ∨ a.kind = 6) := by omega
  by_cases j3 : a.kind = 3
  · have HX := hide (show actWrites a = [a.dst] by unfold actWrites; rw [if_neg n16, if_pos (.inl j3)])
    have k3 : (a.kind == 3) = true := by simpa using j3
    clear j1 j3 j6 n16
    go_enter Tryz.func119, Tryz.ntmps119
    go_wp2
    go_ret
    (have := unhide ONE _ (unhide HX); simpa using this)
  have k3 : (a.kind == 3) = false := by simpa using j3
  by_cases j5 : a.kind = 5
  · have HX := hide (show actWrites a = [a.dst] by unfold actWrites; rw [if_neg n16, if_pos (.inr (.inl j5))])
    have k5 : (a.kind == 5) = true := by simpa using j5
    clear j1 j3 j6 j5 n16
    go_enter Tryz.func119, Tryz.ntmps119
    go_wp2
    go_ret
    (have := unhide ONE _ (unhide HX); simpa using this)
  have k5 : (a.kind == 5) = false := by simpa using j5
  by_cases js : a.src = a.dst
  · have HX := hide (show actWrites a = [a.dst] by unfold actWrites; rw [if_neg n16, if_pos (.inr (.inr js))])
    have ks : (a.src == a.dst) = true := by simpa using js
    clear j1 j3 j6 j5 js n16
    go_enter Tryz.func119, Tryz.ntmps119
    go_wp2
    go_ret
    (have := unhide ONE _ (unhide HX); simpa using this)
  have HX0 := show actWrites a = [min a.src a.dst, max a.src a.dst] by unfold actWrites; rw [if_neg n16, if_neg (by rintro (h | h | h); exact j3 h; exact j5 h; exact js h)]
  have ks : (a.src == a.dst) = false := by simpa using js
  by_cases hle : a.src ≤ a.dst
  · have hlt : a.src < a.dst := by omega
    have hnl : ¬ a.dst < a.src := by omega
    have HX := hide (show actWrites a = [a.src, a.dst] by rw [HX0, Int.min_eq_left hle, Int.max_eq_right hle])
    clear j1 j3 j6 j5 js n16 HX0
    go_enter Tryz.func119, Tryz.ntmps119
    go_wp2
    go_ret
    (have := unhide TWO _ _ (unhide HX); simpa using this)
  · have hlt : a.dst < a.src := by omega
    have hnl : ¬ a.src < a.dst := by omega
    have HX := hide (show actWrites a = [a.dst, a.src] by rw [HX0, Int.min_eq_right (by omega), Int.max_eq_left (by omega)])
    clear j1 j3 j6 j5 js n16 HX0
    go_enter Tryz.func119, Tryz.ntmps119
    go_wp2
    go_ret
    (have := unhide TWO _ _ (unhide HX); simpa using this)
end Go.Proofs.YtefdhlfljpppfaaGreat
