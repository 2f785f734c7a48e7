/- PickedActions of impl and spec. -/
import Derived.Test.YtcgheamckfodaaaPickS
namespace Go.Proofs.Ytcgheamckfodaaa
open Go.RowKit
set_option linter.unusedVariables false
set_option linter.unusedSimpArgs false

def pickI (xs : List Wsh) (many : Int) : List Int := (pickL xs many).map fun i : Nat => (i : Int)
theorem pickI_len (xs : List Wsh) (many : Int) : (pickI xs many).length = (pickL xs many).length := by simp [pickI]
theorem pickI_le (xs : List Wsh) (many : Int) : (pickI xs many).length ≤ 10 := by rw [pickI_len]; exact pickL_len xs many
theorem pickI_map (xs : List Wsh) (many : Int) : (pickL xs many).map (fun i => Value.int .i64 (i : Nat)) = (pickI xs many).map (.int .i64) := by simp [pickI]
def actAt (xs : List Wsh) (k : Nat) : Act := (xs[k]?.map wshAct).getD ⟨0, 0, 0, 0⟩
def pickedL (xs : List Wsh) (many : Int) : List Act := (pickL xs many).map (actAt xs)
def feeSum (xs : List Wsh) : List Nat → Int
  | [] => 0
  | i :: l => feeAt xs i + feeSum xs l
theorem feeSum_snoc (xs : List Wsh) (l : List Nat) (i : Nat) : feeSum xs (l ++ [i]) = feeSum xs l + feeAt xs i := by
  induction l with
  | nil => simp [feeSum]
  | cons j l ih => simp only [List.cons_append, feeSum, ih]; omega
theorem feeSum_bd (xs : List Wsh) (l : List Nat) (h : ∀ i ∈ l, 0 ≤ feeAt xs i ∧ feeAt xs i ≤ 1000) : 0 ≤ feeSum xs l ∧ feeSum xs l ≤ 1000 * l.length := by
  induction l with
  | nil => simp [feeSum]
  | cons j l ih =>
    have h1 := ih fun i hi => h i (by simp [hi])
    have h2 := h j (by simp)
    simp only [feeSum, List.length_cons]
    omega
def pickedN (xs : List Wsh) (many : Int) : Int := feeSum xs (pickL xs many)
theorem pickL_mem {xs : List Wsh} {many : Int} {i : Nat} (h : i ∈ pickL xs many) : wishesB xs = true ∧ i < xs.length := by
  unfold pickL at h
  split at h
  · rename_i hc
    exact ⟨hc.1, (pickL_all hc.1 _ (Nat.min_le_right _ _)).lt i h⟩
  · cases h
theorem pickL_fee {xs : List Wsh} {many : Int} {i : Nat} (h : i ∈ pickL xs many) : 0 ≤ feeAt xs i ∧ feeAt xs i ≤ 1000 := by
  obtain ⟨h1, h2⟩ := pickL_mem h
  have := (wishes_who h1 i h2).2.1
  simpa [feeAt, h2] using this
theorem pickedN_bd (xs : List Wsh) (many : Int) : 0 ≤ pickedN xs many ∧ pickedN xs many ≤ 10000 := by
  have h1 := feeSum_bd xs (pickL xs many) fun i hi => pickL_fee hi
  have h2 := pickL_len xs many
  unfold pickedN
  omega
theorem pickedL_len (xs : List Wsh) (many : Int) : (pickedL xs many).length = (pickL xs many).length := by simp [pickedL]
theorem pickedL_le (xs : List Wsh) (many : Int) : (pickedL xs many).length ≤ 10 := by rw [pickedL_len]; exact pickL_len xs many
theorem el_act : El Try.prog 35 43 4 32 := El.mk_ Try.underlying35 info_act rfl (by omega)
theorem one_acts (es : List Act) : ∀ u ∈ es.flatMap encA, u.oneCell' = true := by
  intro u hu
  obtain ⟨e, _, h⟩ := List.mem_flatMap.1 hu
  simp [encA] at h
  rcases h with rfl | rfl | rfl | rfl <;> rfl
theorem snoc_acts (gs : List Act) (x : Act) : gs.flatMap encA ++ encA x = (gs ++ [x]).flatMap encA := by simp

theorem pickI_impl (A : Option Addr) (c : Nat) (xs : List Wsh) (many : Int) (w : World) (h : Rd w A (xs.flatMap encW)) (hb : xs.length ≤ 1048576) (hm1 : -9223372036854775808 ≤ many) (hm2 : many ≤ 9223372036854775807) :
    Calls Try.prog 15 #[.slice A xs.length c, .int .i64 many] w fun e w' => ∃ A' c', e = .returned (.slice A' (pickI xs many).length c') ∧ w'.ownsRow w.heap.size 3 1 (.slice A' (pickI xs many).length c') (pickI xs many).length ((pickI xs many).map (.int .i64)) ∧ Below w.heap.size w w' := by
  have := pickWishes_impl A c xs many w h hb hm1 hm2
  simp only [pickI_map, ← pickI_len] at this
  exact this
set_option maxHeartbeats 1000000 in
theorem pickedActions_impl (A : Option Addr) (c : Nat) (xs : List Wsh) (many : Int) (w : World) (h : Rd w A (xs.flatMap encW)) (hb : xs.length ≤ 1048576) (hm1 : -9223372036854775808 ≤ many) (hm2 : many ≤ 9223372036854775807) :
    Calls Try.prog 21 #[.slice A xs.length c, .int .i64 many] w fun e w' => ∃ A' c', e = .returned (.tuple #[.slice A' (pickedL xs many).length c', .int .i64 (pickedN xs many)]) ∧ w'.ownsRow w.heap.size 43 4 (.slice A' (pickedL xs many).length c') (pickedL xs many).length ((pickedL xs many).flatMap encA) ∧ Below w.heap.size w w' := by
  have HM := hide (fun i => pickL_mem (xs := xs) (many := many) (i := i))
  have HF := hide (fun i => pickL_fee (xs := xs) (many := many) (i := i))
  have HLN := hide (pickL_len xs many)
  have HPL := hide (show pickedL xs many = (pickL xs many).map (actAt xs) from rfl)
  have HPN := hide (show pickedN xs many = feeSum xs (pickL xs many) from rfl)
  go_enter Try.func21, Try.ntmps21
  go_wp2_with fail
  refine (pickWishes_impl A c xs many _ (by first | exact h | exact h.alloc _) hb hm1 hm2).mono ?_
  rintro e w1 ⟨A1, c1, rfl, o1, b1⟩
  generalize pickL xs many = ps at *
  have hln := unhide HLN
  clear HLN
  have hb01 : Below w.heap.size w w1 := by first | exact b1 | exact ((Below.refl _ _).alloc (Nat.le_refl _) _).trans (b1.mono (by simp))
  obtain ⟨A0, c0, hv0, o0, hA0⟩ : ∃ A0 c0, Value.slice none 0 0 = Value.slice A0 0 c0 ∧ w1.ownsRow w.heap.size 43 4 (.slice A0 0 c0) 0 [] ∧ ∀ q, A0 = some ⟨q, 0, none⟩ → (fun _ => False) q ∨ w1.heap.size ≤ q := by
    first
      | exact ⟨some ⟨w.heap.size, 0, none⟩, 0, rfl, own_new (own_made (base := w.heap.size) (e := 43) (size := 4) w #[] 0 (Nat.le_refl _) (by simp [maxLen]) rfl) b1, fun q hq => (by injection hq with hq; injection hq with hq; exact .inl hq.symm)⟩
      | exact ⟨none, 0, rfl, own_nil _ _ _ _, fun q hq => by cases hq⟩
  have HA0 := hide hA0
  have HV0 := hide hv0
  clear hA0 hv0
  have r1 := own_rd o1
  have hh1 := h.new hb01
  go_wp2
  go_loopw [6, 7, 14] (fun v sm i wr => ∃ (k : Nat) (A' : Option Addr) (c' : Nat), k ≤ ps.length ∧ i = .int .i64 k ∧ v = .slice A' k c' ∧ sm = .int .i64 (feeSum xs (ps.take k)) ∧ wr.ownsRow w.heap.size 43 4 (.slice A' k c') k (((ps.take k).map (actAt xs)).flatMap encA) ∧ (∀ q, A' = some ⟨q, 0, none⟩ → (fun _ => False) q ∨ w1.heap.size ≤ q) ∧ Chg (fun _ => False) w1 wr) (fun _ _ i _ => ps.length - (intOf i).toNat)
  case atStart => exact ⟨0, A0, c0, Nat.zero_le _, rfl, unhide HV0, rfl, by simpa using o0, unhide HA0, Chg.refl _ _⟩
  case round =>
    obtain ⟨k, A', c', hk, rfl, rfl, rfl, hown, hAq, hch⟩ := hrel
    have HAQ := hide hAq
    clear hAq
    by_cases hlt : k < ps.length
    · obtain ⟨g1, hg1, hg2, hg3⟩ := own_addr o1 (by omega)
      have hg4 : ¬ (fun _ => False) g1 := by first | exact fun e => e | (intro e; have e2 : g1 = w.heap.size := e; simp at hg2; omega)
      have hrk : Rd wr A1 (ps.map fun i => Value.int .i64 (i : Nat)) := rd_chg r1 hch (fun b off hA => by first | exact fun e => e | (rw [hg1] at hA; injection hA with hA; injection hA with hA; rw [← hA]; exact hg4))
      obtain ⟨hwv, hil⟩ := unhide HM ps[k] (List.getElem_mem hlt)
      have hfb := unhide HF ps[k] (List.getElem_mem hlt)
      obtain ⟨g5, o5, hA5, hg5, _⟩ := h (by rw [length_flat encW 6 encW_len]; omega)
      have hg6 : ¬ (fun _ => False) g5 := by first | exact fun e => e | (intro e; have e2 : g5 = w.heap.size := e; omega)
      have hrx : Rd wr A (xs.flatMap encW) := rd_chg hh1 hch (fun b off hA => by first | exact fun e => e | (rw [hA5] at hA; injection hA with hA; injection hA with hA; rw [← hA]; exact hg6))
      have htk := List.take_succ_eq_append_getElem hlt
      have hfs : feeSum xs (ps.take (k + 1)) = feeSum xs (ps.take k) + feeAt xs ps[k] := by rw [htk]; exact feeSum_snoc _ _ _
      have hbd := feeSum_bd xs (ps.take k) fun i hi => unhide HF i (List.mem_of_mem_take hi)
      rw [List.length_take_of_le (by omega)] at hbd
      obtain ⟨b', off', hA7, hbb', hcp⟩ := hrk (by simp; omega)
      rw [hg1] at hA7
      injection hA7 with hA7
      injection hA7 with q1 q2
      subst q1
      subst q2
      subst hg1
      have hc0 := hcp k (.int .i64 (ps[k] : Nat)) (by simp [hlt])
      rw [Nat.zero_add] at hc0
      clear hcp
      obtain ⟨b, off, hA7, hbb, e0, e1, e2, e3, e4, e5⟩ := hrx.wsh hil
      rw [hA5] at hA7
      injection hA7 with hA7
      injection hA7 with q1 q2
      subst q1
      subst q2
      subst hA5
      have HTK := hide (show (ps.take (k + 1)).map (actAt xs) = (ps.take k).map (actAt xs) ++ [wshAct xs[ps[k]]] by rw [htk, List.map_append, List.map_cons, List.map_nil]; simp only [actAt, List.getElem?_eq_getElem hil, Option.map_some, Option.getD_some])
      have hfe : xs[ps[k]].fee = feeAt xs ps[k] := by simp [feeAt, hil]
      rw [hfe] at e4
      have HFS := hide hfs
      clear hfs htk hfe hwv
      generalize feeAt xs ps[k] = fk at *
      generalize feeSum xs (ps.take k) = fs at *
      generalize hxk : xs[ps[k]] = x at *
      have HX := hide hxk
      clear hxk
      generalize ps[k] = pk at *
      have i1 : (k : Int) < (ps.length : Int) := by omega
      have i2 : (pk : Int) < (xs.length : Int) := by omega
      have HC := hide (fun W (hc : Chg (fun q => A' = some ⟨q, 0, none⟩) wr W) => (show W.cell? ⟨g1, k, none⟩ = some (.int .i64 pk) ∧ W.cell? ⟨g5, o5 + pk * 6 + 4, none⟩ = some (.int .i64 fk) from ⟨hc.cell (p := ⟨g1, k, none⟩) hc0 (fun hq => by rcases unhide HAQ g1 hq with h1 | h1; exact hg4 h1; omega), hc.cell (p := ⟨g5, o5 + pk * 6 + 4, none⟩) e4 (fun hq => by rcases unhide HAQ g5 hq with h1 | h1; exact hg6 h1; have := hb01.size; omega)⟩))
      clear hg4 hg6
      go_wp2_with (at_builtin; refine wpList_app rfl (.tmp 18) (.tmp 24) 35 rfl el_act rfl (own_alloc hown _) rfl (rd_lit wr [.int .i64 x.kind, .int .i64 x.src, .int .i64 x.dst, .int .i64 x.amt] _) rfl (one_acts [wshAct x]) (by simp only [maxLen]; omega) (by omega) (by have := hch.size; have := hb01.size; simp; omega) ?_; intro A2 c2 w2 o2 ch2 hd2 _; have ch3 := ((Chg.refl (fun q => A' = some ⟨q, 0, none⟩) wr).alloc (.cells #[.int .i64 x.kind, .int .i64 x.src, .int .i64 x.dst, .int .i64 x.amt] 43)).trans ch2; have d1 := (unhide HC w2 ch3).1; have d2 := (unhide HC w2 ch3).2)
      go_roundw
      case rel => exact ⟨k + 1, A2, c2, by omega, by go_num, rfl, by rw [unhide HFS], by rw [unhide HTK, ← snoc_acts]; exact o2, app_at hch hd2 (by simp) (unhide HAQ), chg_app hch ch3 (unhide HAQ)⟩
      case measure => simp [intOf]; omega
    · have : k = ps.length := by omega
      subst this
      rw [List.take_length] at hown ⊢
      go_wp2
      go_ret2
      rw [unhide HPL, unhide HPN, List.length_map]
      exact ⟨A', c', rfl, hown, hb01.trans (hch.below (fun k hk e => by first | exact e | (have e2 : k = w.heap.size := e; omega)) hb01.size)⟩
theorem pickI_spec (A : Option Addr) (c : Nat) (xs : List Wsh) (many : Int) (w : World) (h : Rd w A (xs.flatMap encW)) (hb : xs.length ≤ 1048576) (hm1 : -9223372036854775808 ≤ many) (hm2 : many ≤ 9223372036854775807) :
    Calls Try.prog 14 #[.slice A xs.length c, .int .i64 many] w fun e w' => ∃ A' c', e = .returned (.slice A' (pickI xs many).length c') ∧ w'.ownsRow w.heap.size 3 1 (.slice A' (pickI xs many).length c') (pickI xs many).length ((pickI xs many).map (.int .i64)) ∧ Below w.heap.size w w' := by
  have := pickWishes_spec A c xs many w h hb hm1 hm2
  simp only [pickI_map, ← pickI_len] at this
  exact this
set_option maxHeartbeats 1000000 in
theorem pickedActions_spec (A : Option Addr) (c : Nat) (xs : List Wsh) (many : Int) (w : World) (h : Rd w A (xs.flatMap encW)) (hb : xs.length ≤ 1048576) (hm1 : -9223372036854775808 ≤ many) (hm2 : many ≤ 9223372036854775807) :
    Calls Try.prog 20 #[.slice A xs.length c, .int .i64 many] w fun e w' => ∃ A' c', e = .returned (.tuple #[.slice A' (pickedL xs many).length c', .int .i64 (pickedN xs many)]) ∧ w'.ownsRow w.heap.size 43 4 (.slice A' (pickedL xs many).length c') (pickedL xs many).length ((pickedL xs many).flatMap encA) ∧ Below w.heap.size w w' := by
  have HM := hide (fun i => pickL_mem (xs := xs) (many := many) (i := i))
  have HF := hide (fun i => pickL_fee (xs := xs) (many := many) (i := i))
  have HLN := hide (pickL_len xs many)
  have HPL := hide (show pickedL xs many = (pickL xs many).map (actAt xs) from rfl)
  have HPN := hide (show pickedN xs many = feeSum xs (pickL xs many) from rfl)
  go_enter Try.func20, Try.ntmps20
  go_wp2_with fail
  refine (pickWishes_spec A c xs many _ (by first | exact h | exact h.alloc _) hb hm1 hm2).mono ?_
  rintro e w1 ⟨A1, c1, rfl, o1, b1⟩
  generalize pickL xs many = ps at *
  have hln := unhide HLN
  clear HLN
  have hb01 : Below w.heap.size w w1 := by first | exact b1 | exact ((Below.refl _ _).alloc (Nat.le_refl _) _).trans (b1.mono (by simp))
  obtain ⟨A0, c0, hv0, o0, hA0⟩ : ∃ A0 c0, Value.slice (some ⟨w.heap.size, 0, none⟩) 0 0 = Value.slice A0 0 c0 ∧ w1.ownsRow w.heap.size 43 4 (.slice A0 0 c0) 0 [] ∧ ∀ q, A0 = some ⟨q, 0, none⟩ → (fun q => q = w.heap.size) q ∨ w1.heap.size ≤ q := by
    first
      | exact ⟨some ⟨w.heap.size, 0, none⟩, 0, rfl, own_new (own_made (base := w.heap.size) (e := 43) (size := 4) w #[] 0 (Nat.le_refl _) (by simp [maxLen]) rfl) b1, fun q hq => (by injection hq with hq; injection hq with hq; exact .inl hq.symm)⟩
      | exact ⟨none, 0, rfl, own_nil _ _ _ _, fun q hq => by cases hq⟩
  have HA0 := hide hA0
  have HV0 := hide hv0
  clear hA0 hv0
  have r1 := own_rd o1
  have hh1 := h.new hb01
  go_wp2
  go_loopw [6, 7, 9] (fun v sm i wr => ∃ (k : Nat) (A' : Option Addr) (c' : Nat), k ≤ ps.length ∧ i = .int .i64 k ∧ v = .slice A' k c' ∧ sm = .int .i64 (feeSum xs (ps.take k)) ∧ wr.ownsRow w.heap.size 43 4 (.slice A' k c') k (((ps.take k).map (actAt xs)).flatMap encA) ∧ (∀ q, A' = some ⟨q, 0, none⟩ → (fun q => q = w.heap.size) q ∨ w1.heap.size ≤ q) ∧ Chg (fun q => q = w.heap.size) w1 wr) (fun _ _ i _ => ps.length - (intOf i).toNat)
  case atStart => exact ⟨0, A0, c0, Nat.zero_le _, rfl, unhide HV0, rfl, by simpa using o0, unhide HA0, Chg.refl _ _⟩
  case round =>
    obtain ⟨k, A', c', hk, rfl, rfl, rfl, hown, hAq, hch⟩ := hrel
    have HAQ := hide hAq
    clear hAq
    by_cases hlt : k < ps.length
    · obtain ⟨g1, hg1, hg2, hg3⟩ := own_addr o1 (by omega)
      have hg4 : ¬ (fun q => q = w.heap.size) g1 := by first | exact fun e => e | (intro e; have e2 : g1 = w.heap.size := e; simp at hg2; omega)
      have hrk : Rd wr A1 (ps.map fun i => Value.int .i64 (i : Nat)) := rd_chg r1 hch (fun b off hA => by first | exact fun e => e | (rw [hg1] at hA; injection hA with hA; injection hA with hA; rw [← hA]; exact hg4))
      obtain ⟨hwv, hil⟩ := unhide HM ps[k] (List.getElem_mem hlt)
      have hfb := unhide HF ps[k] (List.getElem_mem hlt)
      obtain ⟨g5, o5, hA5, hg5, _⟩ := h (by rw [length_flat encW 6 encW_len]; omega)
      have hg6 : ¬ (fun q => q = w.heap.size) g5 := by first | exact fun e => e | (intro e; have e2 : g5 = w.heap.size := e; omega)
      have hrx : Rd wr A (xs.flatMap encW) := rd_chg hh1 hch (fun b off hA => by first | exact fun e => e | (rw [hA5] at hA; injection hA with hA; injection hA with hA; rw [← hA]; exact hg6))
      have htk := List.take_succ_eq_append_getElem hlt
      have hfs : feeSum xs (ps.take (k + 1)) = feeSum xs (ps.take k) + feeAt xs ps[k] := by rw [htk]; exact feeSum_snoc _ _ _
      have hbd := feeSum_bd xs (ps.take k) fun i hi => unhide HF i (List.mem_of_mem_take hi)
      rw [List.length_take_of_le (by omega)] at hbd
      obtain ⟨b', off', hA7, hbb', hcp⟩ := hrk (by simp; omega)
      rw [hg1] at hA7
      injection hA7 with hA7
      injection hA7 with q1 q2
      subst q1
      subst q2
      subst hg1
      have hc0 := hcp k (.int .i64 (ps[k] : Nat)) (by simp [hlt])
      rw [Nat.zero_add] at hc0
      clear hcp
      obtain ⟨b, off, hA7, hbb, e0, e1, e2, e3, e4, e5⟩ := hrx.wsh hil
      rw [hA5] at hA7
      injection hA7 with hA7
      injection hA7 with q1 q2
      subst q1
      subst q2
      subst hA5
      have HTK := hide (show (ps.take (k + 1)).map (actAt xs) = (ps.take k).map (actAt xs) ++ [wshAct xs[ps[k]]] by rw [htk, List.map_append, List.map_cons, List.map_nil]; simp only [actAt, List.getElem?_eq_getElem hil, Option.map_some, Option.getD_some])
      have hfe : xs[ps[k]].fee = feeAt xs ps[k] := by simp [feeAt, hil]
      rw [hfe] at e4
      have HFS := hide hfs
      clear hfs htk hfe hwv
      generalize feeAt xs ps[k] = fk at *
      generalize feeSum xs (ps.take k) = fs at *
      generalize hxk : xs[ps[k]] = x at *
      have HX := hide hxk
      clear hxk
      generalize ps[k] = pk at *
      have i1 : (k : Int) < (ps.length : Int) := by omega
      have i2 : (pk : Int) < (xs.length : Int) := by omega
      have HC := hide (fun W (hc : Chg (fun q => A' = some ⟨q, 0, none⟩) wr W) => (show W.cell? ⟨g1, k, none⟩ = some (.int .i64 pk) ∧ W.cell? ⟨g5, o5 + pk * 6 + 4, none⟩ = some (.int .i64 fk) from ⟨hc.cell (p := ⟨g1, k, none⟩) hc0 (fun hq => by rcases unhide HAQ g1 hq with h1 | h1; exact hg4 h1; omega), hc.cell (p := ⟨g5, o5 + pk * 6 + 4, none⟩) e4 (fun hq => by rcases unhide HAQ g5 hq with h1 | h1; exact hg6 h1; have := hb01.size; omega)⟩))
      clear hg4 hg6
      go_wp2_with (at_builtin; refine wpList_app rfl (.tmp 20) (.tmp 29) 35 rfl el_act rfl (own_alloc hown _) rfl (rd_lit wr [.int .i64 x.kind, .int .i64 x.src, .int .i64 x.dst, .int .i64 x.amt] _) rfl (one_acts [wshAct x]) (by simp only [maxLen]; omega) (by omega) (by have := hch.size; have := hb01.size; simp; omega) ?_; intro A2 c2 w2 o2 ch2 hd2 _; have ch3 := ((Chg.refl (fun q => A' = some ⟨q, 0, none⟩) wr).alloc (.cells #[.int .i64 x.kind, .int .i64 x.src, .int .i64 x.dst, .int .i64 x.amt] 43)).trans ch2; have d1 := (unhide HC w2 ch3).1; have d2 := (unhide HC w2 ch3).2)
      go_roundw
      case rel => exact ⟨k + 1, A2, c2, by omega, by go_num, rfl, by rw [unhide HFS], by rw [unhide HTK, ← snoc_acts]; exact o2, app_at hch hd2 (by simp) (unhide HAQ), chg_app hch ch3 (unhide HAQ)⟩
      case measure => simp [intOf]; omega
    · have : k = ps.length := by omega
      subst this
      rw [List.take_length] at hown ⊢
      go_wp2
      go_ret2
      rw [unhide HPL, unhide HPN, List.length_map]
      exact ⟨A', c', rfl, hown, hb01.trans (hch.below (fun k hk e => by first | exact e | (have e2 : k = w.heap.size := e; omega)) hb01.size)⟩
end Go.Proofs.Ytcgheamckfodaaa
