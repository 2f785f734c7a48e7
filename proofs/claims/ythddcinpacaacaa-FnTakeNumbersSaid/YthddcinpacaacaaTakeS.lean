/- Counters: TakeNumbers of impl and spec. -/
import Derived.Test.YthddcinpacaacaaTakeN
import Derived.Test.YthddcinpacaacaaBoolS
namespace Go.Proofs.Ythddcinpacaacaa
open Go.RowKit
set_option linter.unusedVariables false
set_option linter.unusedSimpArgs false

/-- two slices that share no block -/
def Apart (A B : Option Addr) : Prop := ∀ q, A = some ⟨q, 0, none⟩ → B = some ⟨q, 0, none⟩ → False
theorem apart_symm {A B : Option Addr} (h : Apart A B) : Apart B A := fun q h1 h2 => h q h2 h1
theorem apart_none (A : Option Addr) : Apart A none := fun q _ h2 => nomatch h2
/-- a row that has just been made lies apart from an older one -/
theorem apart_new {w : World} {base base' : Nat} {e e' : TypeId} {size size' n m c d : Nat} {A B : Option Addr} {xs ys : List Value} (h1 : w.ownsRow base e size (.slice A n c) n xs) {w' : World} (h2 : w'.ownsRow base' e' size' (.slice B m d) m ys) (hb : w.heap.size ≤ base') : Apart A B := fun q e1 e2 => by
  have := (h1.lt q (by rw [e1]; rfl)).2
  have := (h2.lt q (by rw [e2]; rfl)).1
  omega
theorem apart_app {W w7 : World} {e2 : TypeId} {base2 s2 m d : Nat} {A B A7 : Option Addr} {ys : List Value} (q2 : W.ownsRow base2 e2 s2 (.slice B m d) m ys)
    (ap : Apart A B) (d7 : A7 = A ∨ (A7 = some ⟨W.heap.size, 0, none⟩ ∧ Below W.heap.size W w7)) : Apart A7 B := fun q h1 h2 => by
  rcases d7 with d7 | ⟨d7, _⟩
  · exact ap q (d7 ▸ h1) h2
  · rw [d7] at h1
    injection h1 with h1
    injection h1 with h1
    have := (q2.lt q (by rw [h2]; rfl)).2
    omega

def tkL : List Int → List Nbd → List Int
  | xs, [] => xs
  | xs, n :: ns => tkL (takeL xs n) ns
def tkB : List Int → List Nbd → List Bool
  | xs, [] => []
  | xs, n :: ns => takeOk xs n :: tkB (takeL xs n) ns
theorem tkL_snoc (xs : List Int) (ns : List Nbd) (n : Nbd) : tkL xs (ns ++ [n]) = takeL (tkL xs ns) n := by
  induction ns generalizing xs with
  | nil => rfl
  | cons m ns ih => exact ih (takeL xs m)
theorem tkB_snoc (xs : List Int) (ns : List Nbd) (n : Nbd) : tkB xs (ns ++ [n]) = tkB xs ns ++ [takeOk (tkL xs ns) n] := by
  induction ns generalizing xs with
  | nil => rfl
  | cons m ns ih => exact congrArg (takeOk xs m :: ·) (ih (takeL xs m))
theorem tkL_append (xs : List Int) (ms ns : List Nbd) : tkL xs (ms ++ ns) = tkL (tkL xs ms) ns := by
  induction ms generalizing xs with
  | nil => rfl
  | cons m ms ih => exact ih (takeL xs m)
theorem tkB_len (xs : List Int) (ns : List Nbd) : (tkB xs ns).length = ns.length := by
  induction ns generalizing xs with
  | nil => rfl
  | cons m ns ih => exact congrArg (· + 1) (ih (takeL xs m))
theorem takeL_ok {xs : List Int} (n : Nbd) (h : countersB xs = true) : countersB (takeL xs n) = true := by
  obtain ⟨hl, hv⟩ := counters_yes h
  have hm : ∀ x ∈ takeL xs n, 0 ≤ x ∧ x ≤ 1000000 := by
    intro x hx
    unfold takeL at hx
    split at hx
    · rename_i ho
      rcases List.mem_or_eq_of_mem_set hx with hx | hx
      · exact hv x hx
      · unfold takeOk at ho
        simp only [Bool.and_eq_true, beq_iff_eq, bne_iff_ne, ne_eq] at ho
        have h1 : 0 ≤ xs.getD n.who.toNat 0 ∧ xs.getD n.who.toNat 0 ≤ 1000000 := by
          rw [List.getD_eq_getElem?_getD]
          rcases hj : xs[n.who.toNat]? with _ | y
          · simp
          · exact hv y (List.mem_of_getElem? hj)
        omega
    · exact hv x hx
  unfold countersB
  rw [takeL_len, hl]
  simp only [decide_true, Bool.true_and, Bool.not_eq_true', List.any_eq_false]
  intro x hx
  rw [inB_true.2 (hm x hx)]
  simp
theorem tkL_ok {xs : List Int} (ns : List Nbd) (h : countersB xs = true) : countersB (tkL xs ns) = true := by
  induction ns generalizing xs with
  | nil => exact h
  | cons m ns ih => exact ih (takeL_ok m h)
def tnsOk (xs : List Int) (ns : List Nbd) : Bool := countersB xs && decide (ns.length ≤ 40)
def tnsL (xs : List Int) (ns : List Nbd) : List Int := if tnsOk xs ns then tkL xs ns else []
def tnsB (xs : List Int) (ns : List Nbd) : List Bool := if tnsOk xs ns then tkB xs ns else []
theorem tns_no {xs : List Int} {ns : List Nbd} (h : tnsOk xs ns = false) : tnsL xs ns = [] ∧ tnsB xs ns = [] := by simp [tnsL, tnsB, h]
theorem tns_yes {xs : List Int} {ns : List Nbd} (h : tnsOk xs ns = true) : tnsL xs ns = tkL xs ns ∧ tnsB xs ns = tkB xs ns := by simp [tnsL, tnsB, h]
theorem len4 {xs : List Int} (h : countersB xs = true) : xs.length = 4 := (counters_yes h).1

set_option maxRecDepth 100000 in
set_option maxHeartbeats 1000000 in
theorem takeNumbers_impl (A B : Option Addr) (c d : Nat) (xs : List Int) (ns : List Nbd) (w : World) (h : Rd w A (xs.map (.int .i64))) (h' : Rd w B (ns.flatMap encN)) (hb : xs.length ≤ 4611686018427387904) (hb' : ns.length ≤ 4611686018427387904) :
    Calls Try.prog 17 #[.slice A xs.length c, .slice B ns.length d] w fun e w' => ∃ A' c' B' d', e = .returned (.tuple #[.slice A' (tnsL xs ns).length c', .slice B' (tnsB xs ns).length d']) ∧ w'.ownsRow w.heap.size 3 1 (.slice A' (tnsL xs ns).length c') (tnsL xs ns).length ((tnsL xs ns).map (.int .i64)) ∧ w'.ownsRow w.heap.size 4 1 (.slice B' (tnsB xs ns).length d') (tnsB xs ns).length ((tnsB xs ns).map .bool) ∧ Apart A' B' ∧ Below w.heap.size w w' := by
  cases hx : countersB xs
  · have HX := hide hx
    have HC := hide (tns_no (ns := ns) (show tnsOk xs ns = false by simp [tnsOk, hx]))
    clear hx
    rw [(unhide HC).1, (unhide HC).2]
    go_enter Try.func17, Try.ntmps17
    go_wp2_with fail
    refine (counters_impl A c xs _ h hb).mono ?_
    rintro e w1 ⟨rfl, rfl⟩
    rw [unhide HX]
    go_wp2
    go_ret2
    exact ⟨none, 0, none, 0, rfl, own_nil _ _ _ _, own_nil _ _ _ _, apart_none _, Below.refl _ _⟩
  · have HX := hide hx
    by_cases hl : ns.length ≤ 40
    · have HC := hide (tns_yes (show tnsOk xs ns = true by simp [tnsOk, hx, hl]))
      have H4 := hide (len4 hx)
      have HOK := hide (fun k => tkL_ok (ns.take k) hx)
      clear hx
      rw [(unhide HC).1, (unhide HC).2, tkB_len, len4 (tkL_ok ns (unhide HX))]
      go_enter Try.func17, Try.ntmps17
      go_wp2_with fail
      refine (counters_impl A c xs _ h hb).mono ?_
      rintro e w1 ⟨rfl, rfl⟩
      rw [unhide HX]
      go_wp2_with fail
      refine (cloneI_any A c xs _ h (by have := unhide H4; omega) (by have := unhide H4; omega)).mono ?_
      rintro e w1 ⟨A1, c1, rfl, o1, b1⟩
      rw [unhide H4] at o1 ⊢
      obtain ⟨g, rfl, hg1, hg2⟩ := own_addr o1 (by omega)
      go_wp2
      go_loopw [7, 22] (fun v i wr => ∃ (k : Nat) (B' : Option Addr) (d' : Nat), k ≤ ns.length ∧ i = .int .i64 k ∧ v = .slice B' k d' ∧ wr.ownsRow w.heap.size 3 1 (.slice (some ⟨g, 0, none⟩) 4 c1) 4 ((tkL xs (ns.take k)).map (.int .i64)) ∧ wr.ownsRow w.heap.size 4 1 (.slice B' k d') k ((tkB xs (ns.take k)).map .bool) ∧ Apart (some ⟨g, 0, none⟩) B' ∧ Below w.heap.size w wr) (fun _ i _ => ns.length - (intOf i).toNat)
      case atStart => exact ⟨0, none, 0, by omega, rfl, rfl, o1, own_nil _ _ _ _, apart_none _, b1⟩
      case round =>
        clear o1 b1 hg2
        obtain ⟨k, B', d', hk, rfl, rfl, o1, o2, ap, hB⟩ := hrel
        by_cases hlt : k < ns.length
        · obtain ⟨q, off, hA, hbb, hc1, hc2⟩ := (h'.new hB).nbd hlt
          subst hA
          have HT := hide (show ns.take (k + 1) = ns.take k ++ [ns[k]] from List.take_succ_eq_append_getElem hlt)
          obtain ⟨n, hn⟩ : ∃ n, n = ns[k] := ⟨_, rfl⟩
          rw [← hn] at hc1 hc2 HT
          have HN := hide hn
          clear hn
          have T1 := hide (show tkL xs (ns.take (k + 1)) = takeL (tkL xs (ns.take k)) n by rw [unhide HT, tkL_snoc])
          have T2 := hide (show tkB xs (ns.take (k + 1)) = tkB xs (ns.take k) ++ [takeOk (tkL xs (ns.take k)) n] by rw [unhide HT, tkB_snoc])
          have HK := hide (unhide HOK k)
          generalize tkL xs (ns.take k) = ts at *
          generalize tkB xs (ns.take k) = us at *
          have HT4 := hide (len4 (unhide HK))
          have i1 : (k : Int) < (ns.length : Int) := by omega
          have hsz := hB.size
          go_wp2_with fail
          have K1 := take_any (some ⟨g, 0, none⟩) c1 w.heap.size ts n (wr.alloc (.cells #[.int .i64 n.who, .int .i64 n.num] 28)) (by rw [unhide HT4]; exact own_alloc o1 _) (unhide HT4) (counters_yes (unhide HK)).2
          rw [unhide HT4] at K1
          refine K1.mono ?_
          clear K1
          rintro e w2 ⟨rfl, o3, ch3⟩
          have o4 := own_chg (own_alloc o2 _) ch3 (fun q h1 h2 => ap q h2 h1)
          have hB2 : Below w.heap.size w w2 := (hB.alloc hsz _).trans (ch3.below (fun j hj hA => by injection hA with hA; injection hA with hA; omega) (by simp; omega))
          have hsz2 := hB2.size
          go_wp2_with (at_builtin; refine wpList_app rfl (.tmp 26) (.tmp 30) 35 rfl el_bool rfl (own_alloc o4 _) rfl (rd_lit w2 [.bool (takeOk ts n)] _) rfl (one_bools [_]) (by simp only [maxLen]; omega) (by omega) (by simp; omega) ?_; intro B7 d7 w7 o7 ch7 dd7 _)
          have o5 := own_chg (own_alloc o3 _) ch7 (fun q h1 h2 => ap q h1 h2)
          have ap2 := apart_symm (apart_app (w7 := w7) (A := B') (own_alloc o3 _) (apart_symm ap) dd7)
          go_roundw
          case rel =>
            refine ⟨k + 1, B7, d7, by omega, by go_num, rfl, ?_, ?_, ap2, app_below hB2 o4 ch7 (Nat.le_refl _)⟩
            · rw [unhide T1]; exact o5
            · rw [unhide T2, List.map_append]; exact o7
          case measure => simp [intOf]; omega
        · obtain rfl : k = ns.length := by omega
          rw [List.take_length] at o1 o2
          go_wp2
          go_ret2
          exact ⟨_, _, _, _, rfl, o1, o2, ap, hB⟩
    · have HC := hide (tns_no (show tnsOk xs ns = false by simp [tnsOk, hl]))
      have hl2 : (40 : Int) < (ns.length : Int) := by omega
      clear hx hl
      rw [(unhide HC).1, (unhide HC).2]
      go_enter Try.func17, Try.ntmps17
      go_wp2_with fail
      refine (counters_impl A c xs _ h hb).mono ?_
      rintro e w1 ⟨rfl, rfl⟩
      rw [unhide HX]
      go_wp2
      go_ret2
      exact ⟨none, 0, none, 0, rfl, own_nil _ _ _ _, own_nil _ _ _ _, apart_none _, Below.refl _ _⟩
set_option maxRecDepth 100000 in
set_option maxHeartbeats 1000000 in
theorem takeNumbers_spec (A B : Option Addr) (c d : Nat) (xs : List Int) (ns : List Nbd) (w : World) (h : Rd w A (xs.map (.int .i64))) (h' : Rd w B (ns.flatMap encN)) (hb : xs.length ≤ 1099511627776) (hb' : ns.length ≤ 4611686018427387904) :
    Calls Try.prog 15 #[.slice A xs.length c, .slice B ns.length d] w fun e w' => ∃ A' c' B' d', e = .returned (.tuple #[.slice A' (tnsL xs ns).length c', .slice B' (tnsB xs ns).length d']) ∧ w'.ownsRow w.heap.size 3 1 (.slice A' (tnsL xs ns).length c') (tnsL xs ns).length ((tnsL xs ns).map (.int .i64)) ∧ w'.ownsRow w.heap.size 4 1 (.slice B' (tnsB xs ns).length d') (tnsB xs ns).length ((tnsB xs ns).map .bool) ∧ Apart A' B' ∧ Below w.heap.size w w' := by
  have om := own_made (base := w.heap.size) (e := 4) (size := 1) w #[] 0 (Nat.le_refl _) (by simp [maxLen]) rfl
  have hBm : Below w.heap.size w (w.alloc (.cells #[] 4)) := (Below.refl _ _).alloc (Nat.le_refl _) _
  have oz := own_made (base := w.heap.size) (e := 3) (size := 1) (w.alloc (.cells #[] 4)) #[] 0 (by simp) (by simp [maxLen]) rfl
  simp only [World.size_alloc] at oz
  have hBz : Below w.heap.size w ((w.alloc (.cells #[] 4)).alloc (.cells #[] 3)) := hBm.alloc (by simp) _
  cases hx : tnsOk xs ns
  · have HC := hide (tns_no hx)
    have HX := hide hx
    clear hx
    rw [(unhide HC).1, (unhide HC).2]
    cases hc : countersB xs
    · have HCO := hide hc
      clear hc
      go_enter Try.func15, Try.ntmps15
      go_wp2_with fail
      refine (counters_spec A c xs _ (h.new hBm) (by omega)).mono ?_
      rintro e w1 ⟨rfl, rfl⟩
      rw [unhide HCO]
      go_wp2
      go_ret2
      exact ⟨_, _, _, _, rfl, oz, own_alloc om _, fun q h1 h2 => by rw [← h1] at h2; simp at h2, hBz⟩
    · have HCO := hide hc
      have hl2 : (40 : Int) < (ns.length : Int) := by
        have := unhide HX
        simp only [tnsOk, hc, Bool.true_and, decide_eq_false_iff_not] at this
        omega
      clear hc
      go_enter Try.func15, Try.ntmps15
      go_wp2_with fail
      refine (counters_spec A c xs _ (h.new hBm) (by omega)).mono ?_
      rintro e w1 ⟨rfl, rfl⟩
      rw [unhide HCO]
      go_wp2
      go_ret2
      exact ⟨_, _, _, _, rfl, oz, own_alloc om _, fun q h1 h2 => by rw [← h1] at h2; simp at h2, hBz⟩
  · have HC := hide (tns_yes hx)
    have hx' := hx
    unfold tnsOk at hx'
    simp only [Bool.and_eq_true, decide_eq_true_eq] at hx'
    obtain ⟨hc, hl⟩ := hx'
    have HX := hide hc
    have H4 := hide (len4 hc)
    have HOK := hide (fun k => tkL_ok (ns.take k) hc)
    clear hx hc
    rw [(unhide HC).1, (unhide HC).2, tkB_len, len4 (tkL_ok ns (unhide HX))]
    have hl2 : ¬ (40 : Int) < (ns.length : Int) := by omega
    go_enter Try.func15, Try.ntmps15
    go_wp2_with fail
    refine (counters_spec A c xs _ (h.new hBm) (by omega)).mono ?_
    rintro e w1 ⟨rfl, rfl⟩
    rw [unhide HX]
    go_wp2_with (at_builtin; refine wpList_app rfl (.tmp 22) (.tmp 23) 22 rfl el_int rfl oz rfl (h.new hBz) (by simp) (one_ints xs) (by simp only [maxLen]; omega) (by omega) (by simp; omega) ?_; intro A1 c1 w1 o1 ch1 dd1 _; simp only [Nat.zero_add, List.nil_append] at o1)
    have o2 := own_chg (own_alloc om (.cells #[] 3)) ch1 (fun q h1 h2 => by rw [← h1] at h2; simp at h2)
    have b1 : Below w.heap.size w w1 := app_below' hBz oz ch1 (Nat.le_refl _)
    have ap1 : Apart A1 (some ⟨w.heap.size, 0, none⟩) := apart_app (own_alloc om (.cells #[] 3)) (fun q h1 h2 => by rw [← h1] at h2; simp at h2) dd1
    rw [unhide H4] at o1 ⊢
    clear ch1 dd1 om oz hBm hBz
    go_loopw [6, 7, 8] (fun v u i wr => ∃ (k : Nat) (A' B' : Option Addr) (c' d' : Nat), k ≤ ns.length ∧ i = .int .i64 k ∧ u = .slice A' 4 c' ∧ v = .slice B' k d' ∧ wr.ownsRow w.heap.size 3 1 (.slice A' 4 c') 4 ((tkL xs (ns.take k)).map (.int .i64)) ∧ wr.ownsRow w.heap.size 4 1 (.slice B' k d') k ((tkB xs (ns.take k)).map .bool) ∧ Apart A' B' ∧ Below w.heap.size w wr) (fun _ _ i _ => ns.length - (intOf i).toNat)
    case atStart => exact ⟨0, _, _, _, _, by omega, rfl, rfl, rfl, o1, o2, ap1, b1⟩
    case round =>
      clear o1 b1 o2 ap1
      obtain ⟨k, A', B', c', d', hk, rfl, rfl, rfl, o1, o2, ap, hB⟩ := hrel
      by_cases hlt : k < ns.length
      · obtain ⟨q, off, hA, hbb, hc1, hc2⟩ := (h'.new hB).nbd hlt
        subst hA
        have HT := hide (show ns.take (k + 1) = ns.take k ++ [ns[k]] from List.take_succ_eq_append_getElem hlt)
        obtain ⟨n, hn⟩ : ∃ n, n = ns[k] := ⟨_, rfl⟩
        rw [← hn] at hc1 hc2 HT
        clear hn
        have T1 := hide (show tkL xs (ns.take (k + 1)) = takeL (tkL xs (ns.take k)) n by rw [unhide HT, tkL_snoc])
        have T2 := hide (show tkB xs (ns.take (k + 1)) = tkB xs (ns.take k) ++ [takeOk (tkL xs (ns.take k)) n] by rw [unhide HT, tkB_snoc])
        have HK := hide (unhide HOK k)
        generalize tkL xs (ns.take k) = ts at *
        generalize tkB xs (ns.take k) = us at *
        have HT4 := hide (len4 (unhide HK))
        have i1 : (k : Int) < (ns.length : Int) := by omega
        have hsz := hB.size
        go_wp2_with fail
        have K1 := takeNumber_spec A' c' ts n wr (by have := own_rd o1; exact this) (by rw [unhide HT4]; omega)
        have e1 := tn_yes (n := n) (unhide HK)
        rw [e1.1, e1.2, takeL_len, unhide HT4] at K1
        clear e1
        refine K1.mono ?_
        clear K1
        rintro e w2 ⟨A2, c2, rfl, o3, b3⟩
        have o4 := own_new o2 b3
        have hB2 := below_then hB b3 hsz
        have ap2 := apart_new o2 o3 (Nat.le_refl _)
        have hsz2 := hB2.size
        have o5 := own_base o3 hsz
        go_wp2_with (at_builtin; refine wpList_app rfl (.tmp 41) (.tmp 43) 35 rfl el_bool rfl (own_alloc o4 _) rfl (rd_lit w2 [.bool (takeOk ts n)] _) rfl (one_bools [_]) (by simp only [maxLen]; omega) (by omega) (by simp; omega) ?_; intro B7 d7 w7 o7 ch7 dd7 _)
        have o6 := own_chg (own_alloc o5 _) ch7 (fun q h1 h2 => ap2 q h2 h1)
        have ap3 := apart_symm (apart_app (w7 := w7) (A := B') (own_alloc o5 _) ap2 dd7)
        go_roundw
        case rel =>
          refine ⟨k + 1, A2, B7, c2, d7, by omega, by go_num, rfl, rfl, ?_, ?_, ap3, app_below hB2 o4 ch7 (Nat.le_refl _)⟩
          · rw [unhide T1]; exact o6
          · rw [unhide T2, List.map_append]; exact o7
        case measure => simp [intOf]; omega
      · obtain rfl : k = ns.length := by omega
        rw [List.take_length] at o1 o2
        go_wp2
        go_ret2
        exact ⟨_, _, _, _, rfl, o1, o2, ap, hB⟩
end Go.Proofs.Ythddcinpacaacaa
