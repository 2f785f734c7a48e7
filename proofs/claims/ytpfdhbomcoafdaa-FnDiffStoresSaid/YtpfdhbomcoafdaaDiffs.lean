/- Differences: ValueAt, ChangedKeys, DiffStores, ApplyDiff of the program; ApplyDiff of the reference. -/
import Derived.Test.YtpfdhbomcoafdaaArr
import Derived.Test.YtpfdhbomcoafdaaStoreS
import Derived.Test.YtpfdhbomcoafdaaLoc
namespace Go.Proofs.Ytpfdhbomcoafdaa
open Go.RowKit
set_option linter.unusedVariables false
set_option linter.unusedSimpArgs false
attribute [local go_sem ↓] Go.wp_at_zero Go.wp_at_succ

theorem store_keys {s : List Ent} (h : storeB s = true) : ∀ e ∈ s, 0 ≤ e.k ∧ e.k ≤ 31 := fun e he => by
  have := evOk_all (show evOk 1 (-1) s = true from h) e he
  omega
theorem diff_keys {s : List Ent} (h : diffB s = true) : ∀ e ∈ s, 0 ≤ e.k ∧ e.k ≤ 31 := fun e he => by
  have := evOk_all (show evOk 0 (-1) s = true from h) e he
  omega
theorem store_get {s : List Ent} (h : storeB s = true) (k : Nat) (hk : k < 32) : (valsL s).getD k 0 = atL s (k : Int) := vals_get (show evOk 1 (-1) s = true from h) (by omega) k hk
def zA : Array Value := #[.int .i64 0, .int .i64 0, .int .i64 0, .int .i64 0, .int .i64 0, .int .i64 0, .int .i64 0, .int .i64 0, .int .i64 0, .int .i64 0, .int .i64 0, .int .i64 0, .int .i64 0, .int .i64 0, .int .i64 0, .int .i64 0, .int .i64 0, .int .i64 0, .int .i64 0, .int .i64 0, .int .i64 0, .int .i64 0, .int .i64 0, .int .i64 0, .int .i64 0, .int .i64 0, .int .i64 0, .int .i64 0, .int .i64 0, .int .i64 0, .int .i64 0, .int .i64 0]
/-- a world by what is known of it -/
theorem at_world {C F : World → Prop} {w : World} (hf : F w) (h : ∀ w, F w → C w) : C w := h w hf
/-- one variable of values that is laid and stored into -/
theorem one_vals (w : World) (t : TypeId) (v : List Int) : Blk (w.alloc (.cells zA t)) w.heap.size t zA ∧ Blk ((w.alloc (.cells zA t)).setRow w.heap.size (vA v)) w.heap.size t (vA v) ∧ Below w.heap.size w ((w.alloc (.cells zA t)).setRow w.heap.size (vA v)) := by
  have h1 : Blk (w.alloc (.cells zA t)) w.heap.size t zA := Blk.new _ _ _
  have b1 : Below w.heap.size w (w.alloc (.cells zA t)) := (Below.refl _ _).alloc (Nat.le_refl _) _
  exact ⟨h1, blk_setRow h1, ⟨b1.os, b1.tape, b1.output, by rw [size_setRow]; exact b1.size, fun q hq => (setRow_other _ w.heap.size q _ (by omega)).trans (b1.block q hq)⟩⟩
theorem two_vals (w : World) (t : TypeId) (v u : List Int) : Blk ((w.alloc (.cells zA t)).alloc (.cells zA t)) w.heap.size t zA ∧ Blk (((w.alloc (.cells zA t)).alloc (.cells zA t)).setRow w.heap.size (vA v)) (w.heap.size + 1) t zA ∧
    Blk ((((w.alloc (.cells zA t)).alloc (.cells zA t)).setRow w.heap.size (vA v)).setRow (w.heap.size + 1) (vA u)) w.heap.size t (vA v) ∧ Blk ((((w.alloc (.cells zA t)).alloc (.cells zA t)).setRow w.heap.size (vA v)).setRow (w.heap.size + 1) (vA u)) (w.heap.size + 1) t (vA u) ∧
    Below w.heap.size w ((((w.alloc (.cells zA t)).alloc (.cells zA t)).setRow w.heap.size (vA v)).setRow (w.heap.size + 1) (vA u)) := by
  have h0 : Blk ((w.alloc (.cells zA t)).alloc (.cells zA t)) w.heap.size t zA := (Blk.new _ _ _).alloc _
  have h1 : Blk ((w.alloc (.cells zA t)).alloc (.cells zA t)) (w.heap.size + 1) t zA := by
    have := Blk.new (w.alloc (.cells zA t)) t zA
    simpa using this
  have h2 : Blk (((w.alloc (.cells zA t)).alloc (.cells zA t)).setRow w.heap.size (vA v)) (w.heap.size + 1) t zA := (setRow_other _ w.heap.size _ _ (by omega)).trans h1
  have b1 : Below w.heap.size w ((w.alloc (.cells zA t)).alloc (.cells zA t)) := ((Below.refl _ _).alloc (Nat.le_refl _) _).alloc (by simp) _
  exact ⟨h0, h2, (setRow_other _ (w.heap.size + 1) _ _ (by omega)).trans (blk_setRow h0), blk_setRow h2, ⟨b1.os, b1.tape, b1.output, by rw [size_setRow, size_setRow]; exact b1.size, fun q hq => ((setRow_other _ (w.heap.size + 1) q _ (by omega)).trans (setRow_other _ w.heap.size q _ (by omega))).trans (b1.block q hq)⟩⟩
def valAt (s : List Ent) (key : Int) : Int := if storeB s = true ∧ inB key 0 31 = true then atL s key else -1
theorem valueAt_impl (A : Option Addr) (c : Nat) (s : List Ent) (key : Int) (w : World) (h : Rd w A (s.flatMap encE)) (hb : s.length ≤ 4611686018427387904) :
    Calls Try.prog 25 #[.slice A s.length c, .int .i64 key] w fun e w' => e = .returned (.int .i64 (valAt s key)) ∧ Below w.heap.size w w' := by
  cases hs : storeB s
  · have HV := hide (show valAt s key = -1 by simp [valAt, hs])
    go_enter Try.func25, Try.ntmps25
    go_wp2_with fail
    refine (storeB_impl A c s w h hb).mono ?_
    rintro e w1 ⟨rfl, b1⟩
    rw [hs]
    go_wp2
    go_ret
    exact ⟨reti (unhide HV).symm, b1⟩
  · cases hk : inB key 0 31
    · have HV := hide (show valAt s key = -1 by simp [valAt, hk])
      go_enter Try.func25, Try.ntmps25
      go_wp2_with fail
      refine (storeB_impl A c s w h hb).mono ?_
      rintro e w1 ⟨rfl, b1⟩
      rw [hs]
      go_wp2_with fail
      refine (isKey_any key _).mono ?_
      rintro e w' ⟨rfl, rfl⟩
      rw [hk]
      go_wp2
      go_ret
      exact ⟨reti (unhide HV).symm, b1⟩
    · obtain ⟨h1, h2⟩ := inB_true.1 hk
      have HK := hide hk
      obtain ⟨q, rfl⟩ := Int.eq_ofNat_of_zero_le h1
      have HV := hide (show valAt s (q : Int) = (valsL s).getD q 0 by rw [store_get hs q (by omega)]; unfold valAt; rw [if_pos ⟨hs, hk⟩])
      have HKS := hide (store_keys hs)
      have hix := index_vals (valsL s) (valsL_len s) q (by omega)
      have i1 : (q : Int) < 32 := by omega
      clear hk h1 h2
      generalize valAt s (q : Int) = r at *
      go_enter Try.func25, Try.ntmps25
      go_wp2_with fail
      refine (storeB_impl A c s w h hb).mono ?_
      rintro e w1 ⟨rfl, b1⟩
      rw [hs]
      go_wp2_with fail
      refine (isKey_any (q : Int) _).mono ?_
      rintro e w' ⟨rfl, rfl⟩
      rw [unhide HK]
      go_wp2_with fail
      refine (valuesOf_any A c s _ (h.new b1) hb (unhide HKS)).mono ?_
      rintro e w2 ⟨rfl, b2⟩
      generalize valsL s = v at *
      go_wp2
      go_ret
      exact ⟨reti (unhide HV).symm, bthen b1 b2⟩
set_option maxRecDepth 100000 in
set_option maxHeartbeats 1000000 in
theorem changed_impl (A B : Option Addr) (ca cb : Nat) (a b : List Ent) (w : World) (ha : Rd w A (a.flatMap encE)) (hb : Rd w B (b.flatMap encE)) (hla : a.length ≤ 4611686018427387904) (hlb : b.length ≤ 4611686018427387904) :
    Calls Try.prog 36 #[.slice A a.length ca, .slice B b.length cb] w fun e w' => ∃ A' c', e = .returned (.slice A' (changedL a b).length c') ∧ w'.ownsRow w.heap.size 3 1 (.slice A' (changedL a b).length c') (changedL a b).length ((changedL a b).map (.int .i64)) ∧ Below w.heap.size w w' := by
  cases hsa : storeB a
  · have HL := hide (show changedL a b = [] by simp [changedL, hsa])
    go_enter Try.func36, Try.ntmps36
    go_wp2_with fail
    refine (storeB_impl A ca a w ha hla).mono ?_
    rintro e w1 ⟨rfl, b1⟩
    rw [hsa]
    go_wp2
    go_ret
    rw [unhide HL]
    exact ⟨none, 0, rfl, own_nil _ _ _ _, b1⟩
  cases hsb : storeB b
  · have HL := hide (show changedL a b = [] by simp [changedL, hsb])
    go_enter Try.func36, Try.ntmps36
    go_wp2_with fail
    refine (storeB_impl A ca a w ha hla).mono ?_
    rintro e w1 ⟨rfl, b1⟩
    rw [hsa]
    go_wp2_with fail
    refine (storeB_impl B cb b _ (hb.new b1) hlb).mono ?_
    rintro e w2 ⟨rfl, b2⟩
    rw [hsb]
    go_wp2
    go_ret
    rw [unhide HL]
    exact ⟨none, 0, rfl, own_nil _ _ _ _, bthen b1 b2⟩
  have HL := hide (show changedL a b = chgN a b 32 by simp [changedL, hsa, hsb])
  have HKA := hide (store_keys hsa)
  have HKB := hide (store_keys hsb)
  have HGA := hide (store_get hsa)
  have HGB := hide (store_get hsb)
  have hva := valsL_len a
  have hvb := valsL_len b
  go_enter Try.func36, Try.ntmps36
  go_wp2_with fail
  refine (storeB_impl A ca a w ha hla).mono ?_
  rintro e w1 ⟨rfl, b1⟩
  rw [hsa]
  go_wp2_with fail
  refine (storeB_impl B cb b _ (hb.new b1) hlb).mono ?_
  rintro e w2 ⟨rfl, b2⟩
  rw [hsb]
  go_wp2_with fail
  refine (valuesOf_any A ca a _ ((ha.new b1).new b2) hla (unhide HKA)).mono ?_
  rintro e w3 ⟨rfl, b3⟩
  go_wp2_with fail
  refine (valuesOf_any B cb b _ (((hb.new b1).new b2).new b3) hlb (unhide HKB)).mono ?_
  rintro e w4 ⟨rfl, b4⟩
  have hB4 := bthen (bthen (bthen b1 b2) b3) b4
  clear b1 b2 b3 b4 ha hb
  generalize valsL a = va at *
  generalize valsL b = vb at *
  have hsA : (vA va).size = 32 := by rw [vA_size, hva]
  have hsB : (vA vb).size = 32 := by rw [vA_size, hvb]
  obtain ⟨k0, k1, kA, kB, bF⟩ := two_vals w4 45 va vb
  go_wp2_with (first | (refine wpList_store_row rfl 45 (.tmp 6) (.tmp 18) rfl w4.heap.size (vA va) rfl rfl 45 _ k0 (by rw [hsA]; exact info_vals) (by rw [hsA]; rfl) (vA_one _) ?_) | (refine wpList_store_row rfl 45 (.tmp 7) (.tmp 20) rfl (w4.heap.size + 1) (vA vb) rfl rfl 45 _ k1 (by rw [hsB]; exact info_vals) (by rw [hsB]; rfl) (vA_one _) ?_))
  replace bF := bthen hB4 bF
  refine at_world (C := fun w => Code.wp _ _ _ _ w) (F := fun x => Blk x w4.heap.size 45 (vA va) ∧ Blk x (w4.heap.size + 1) 45 (vA vb) ∧ Below w.heap.size w x) ⟨kA, kB, bF⟩ ?_
  clear kA kB bF k0 k1
  rintro wF ⟨kA, kB, bF⟩
  have hs4 := hB4.size
  go_loopw [5, 21] (fun v i wr => ∃ (k : Nat) (A' : Option Addr) (c' : Nat), k ≤ 32 ∧ i = .int .i64 k ∧ v = .slice A' (chgN a b k).length c' ∧ wr.ownsRow wF.heap.size 3 1 (.slice A' (chgN a b k).length c') (chgN a b k).length ((chgN a b k).map (.int .i64)) ∧ Below wF.heap.size wF wr) (fun _ i _ => 32 - (intOf i).toNat)
  case atStart => exact ⟨0, none, 0, by omega, rfl, rfl, own_nil _ _ _ _, Below.refl _ _⟩
  case round =>
    obtain ⟨k, A', c', hk, rfl, rfl, hown, hB⟩ := hrel
    have hgl := chgN_len a b k
    by_cases hlt : k < 32
    · have i1 : (k : Int) < 32 := by omega
      have ga := vA_get (kA.new_ hB) (show k < va.length by omega)
      have gb := vA_get (kB.new_ hB) (show k < vb.length by omega)
      have hst := chgN_succ a b k
      rw [← unhide HGA k hlt, ← unhide HGB k hlt] at hst
      generalize va.getD k 0 = x at *
      generalize vb.getD k 0 = y at *
      generalize chgN a b k = gs at *
      cases hne : (x != y)
      · rw [hne] at hst
        have HS := hide hst
        clear hst
        go_wp2
        go_quiet (fail)
        go_wp2
        go_roundw
        case rel => exact ⟨k + 1, A', c', by omega, by go_num, by rw [unhide HS]; simp, by rw [unhide HS]; simpa using own_drewN hown nq, below_drewN hB nq⟩
        case measure => simp [intOf]; omega
      · rw [hne] at hst
        have HS := hide hst
        clear hst
        have hnb : (x == y) = false := by simpa using hne
        go_wp2
        go_quiet (fail)
        have ho2 : (wr.drewN nq).ownsRow wF.heap.size 3 1 (.slice A' gs.length c') gs.length (gs.map (.int .i64)) := hown
        have hB2 := below_drewN hB nq
        generalize wr.drewN nq = w5 at *
        go_wp2_with (at_builtin; refine wpList_app rfl (.tmp 31) (.tmp 33) 48 rfl el_int rfl (own_alloc ho2 _) rfl (rd_lit w5 [.int .i64 (k : Int)] _) rfl (one_ints [(k : Int)]) (by simp only [maxLen]; omega) (by omega) (by have := hB2.size; simp; omega) ?_; intro A1 c1 w6 o6 ch6 _ _)
        have hB6 := app_below hB2 ho2 ch6 (Nat.le_refl _)
        go_roundw
        case rel => exact ⟨k + 1, A1, c1, by omega, by go_num, by rw [unhide HS]; simp, by rw [unhide HS]; simpa using o6, hB6⟩
        case measure => simp [intOf]; omega
    · obtain rfl : k = 32 := by omega
      go_wp2
      go_ret
      rw [unhide HL]
      exact ⟨A', c', rfl, own_base hown bF.size, bthen bF hB⟩
set_option maxRecDepth 100000 in
set_option maxHeartbeats 1000000 in
theorem diffStores_impl (A B : Option Addr) (ca cb : Nat) (a b : List Ent) (w : World) (ha : Rd w A (a.flatMap encE)) (hb : Rd w B (b.flatMap encE)) (hla : a.length ≤ 4611686018427387904) (hlb : b.length ≤ 4611686018427387904) :
    Calls Try.prog 17 #[.slice A a.length ca, .slice B b.length cb] w fun e w' => ∃ A' c', e = .returned (.slice A' (diffL a b).length c') ∧ w'.ownsRow w.heap.size 36 2 (.slice A' (diffL a b).length c') (diffL a b).length ((diffL a b).flatMap encE) ∧ Below w.heap.size w w' := by
  cases hsa : storeB a
  · have HL := hide (show diffL a b = [] by simp [diffL, changedL, hsa])
    go_enter Try.func17, Try.ntmps17
    go_wp2_with fail
    refine (storeB_impl A ca a w ha hla).mono ?_
    rintro e w1 ⟨rfl, b1⟩
    rw [hsa]
    go_wp2
    go_ret
    rw [unhide HL]
    exact ⟨none, 0, rfl, own_nil _ _ _ _, b1⟩
  cases hsb : storeB b
  · have HL := hide (show diffL a b = [] by simp [diffL, changedL, hsb])
    go_enter Try.func17, Try.ntmps17
    go_wp2_with fail
    refine (storeB_impl A ca a w ha hla).mono ?_
    rintro e w1 ⟨rfl, b1⟩
    rw [hsa]
    go_wp2_with fail
    refine (storeB_impl B cb b _ (hb.new b1) hlb).mono ?_
    rintro e w2 ⟨rfl, b2⟩
    rw [hsb]
    go_wp2
    go_ret
    rw [unhide HL]
    exact ⟨none, 0, rfl, own_nil _ _ _ _, bthen b1 b2⟩
  have hkl : (changedL a b).length ≤ 32 := by have := diffL_len a b; unfold diffL at this; simpa using this
  have HKR := hide (show ∀ x ∈ changedL a b, 0 ≤ x ∧ x < 32 by rw [show changedL a b = chgN a b 32 by simp [changedL, hsa, hsb]]; exact chgN_bd a b 32)
  have HD := hide (show diffL a b = (changedL a b).map (fun k => (⟨k, atL b k⟩ : Ent)) from rfl)
  have HKB := hide (store_keys hsb)
  have HGB := hide (store_get hsb)
  have hvb := valsL_len b
  go_enter Try.func17, Try.ntmps17
  go_wp2_with fail
  refine (storeB_impl A ca a w ha hla).mono ?_
  rintro e w1 ⟨rfl, b1⟩
  rw [hsa]
  go_wp2_with fail
  refine (storeB_impl B cb b _ (hb.new b1) hlb).mono ?_
  rintro e w2 ⟨rfl, b2⟩
  rw [hsb]
  go_wp2_with fail
  refine (valuesOf_any B cb b _ ((hb.new b1).new b2) hlb (unhide HKB)).mono ?_
  rintro e w3 ⟨rfl, b3⟩
  have hB3 := bthen (bthen b1 b2) b3
  generalize valsL b = vb at *
  have hsB : (vA vb).size = 32 := by rw [vA_size, hvb]
  obtain ⟨k0, kB, bF⟩ := one_vals w3 45 vb
  have hraF := ha.new (bthen hB3 bF)
  have hrbF := hb.new (bthen hB3 bF)
  go_wp2_with (first | (refine wpList_store_row rfl 45 (.tmp 6) (.tmp 18) rfl w3.heap.size (vA vb) rfl rfl 45 _ k0 (by rw [hsB]; exact info_vals) (by rw [hsB]; rfl) (vA_one _) ?_) | fail)
  replace bF := bthen hB3 bF
  refine at_world (C := fun w => Calls _ _ _ w _) (F := fun x => Blk x w3.heap.size 45 (vA vb) ∧ Below w.heap.size w x ∧ Rd x A (a.flatMap encE) ∧ Rd x B (b.flatMap encE)) ⟨kB, bF, hraF, hrbF⟩ ?_
  clear kB bF k0 b1 b2 b3 hraF hrbF
  rintro wF ⟨kB, bF, hraF, hrbF⟩
  refine (changed_impl A B ca cb a b wF hraF hrbF hla hlb).mono ?_
  rintro e w4 ⟨A4, c4, rfl, o4, b4⟩
  have hs3 := hB3.size
  replace kB := kB.new_ b4
  have hB4 := bthen bF b4
  have r4 := own_rd o4
  generalize changedL a b = ks at *
  clear ha hb hraF hrbF
  go_wp2
  go_loopw [5, 23] (fun v i wr => ∃ (k : Nat) (A' : Option Addr) (c' : Nat), k ≤ ks.length ∧ i = .int .i64 k ∧ v = .slice A' k c' ∧ wr.ownsRow w4.heap.size 36 2 (.slice A' k c') k (((ks.take k).map fun k => (⟨k, atL b k⟩ : Ent)).flatMap encE) ∧ Below w4.heap.size w4 wr) (fun _ i _ => ks.length - (intOf i).toNat)
  case atStart => exact ⟨0, none, 0, by omega, rfl, rfl, own_nil _ _ _ _, Below.refl _ _⟩
  case round =>
    obtain ⟨k, A', c', hk, rfl, rfl, hown, hB⟩ := hrel
    by_cases hlt : k < ks.length
    · obtain ⟨g4, f4, rfl, hg4, hc4⟩ := (r4.new hB).int hlt
      have hxb := unhide HKR ks[k] (List.getElem_mem hlt)
      have HT := hide (show (ks.take (k + 1)).map (fun k => (⟨k, atL b k⟩ : Ent)) = (ks.take k).map (fun k => (⟨k, atL b k⟩ : Ent)) ++ [⟨ks[k], atL b ks[k]⟩] by rw [List.take_succ_eq_append_getElem hlt, List.map_append]; rfl)
      generalize ks[k] = x at *
      obtain ⟨q, rfl⟩ := Int.eq_ofNat_of_zero_le hxb.1
      have i1 : (k : Int) < (ks.length : Int) := by omega
      have i2 : (q : Int) < 32 := by omega
      have gb := vA_get (kB.new_ hB) (show q < vb.length by omega)
      have hgb := unhide HGB q (by omega)
      rw [hgb] at gb
      clear hgb
      generalize atL b (q : Int) = y at *
      go_wp2_with (at_builtin; refine wpList_app rfl (.tmp 27) (.tmp 33) 24 rfl el_ent rfl (own_alloc hown _) rfl (rd_lit wr [.int .i64 (q : Int), .int .i64 y] _) rfl (one_ents [⟨(q : Int), y⟩]) (by simp only [maxLen]; omega) (by omega) (by have := hB.size; simp; omega) ?_; intro A6 c6 w6 o6 ch6 _ _; rw [snoc_ents] at o6)
      have hB6 := app_below hB hown ch6 (Nat.le_refl _)
      go_roundw
      case rel => exact ⟨k + 1, A6, c6, by omega, by go_num, rfl, by rw [unhide HT]; exact o6, hB6⟩
      case measure => simp [intOf]; omega
    · obtain rfl : k = ks.length := by omega
      rw [List.take_length] at hown
      go_wp2
      go_ret
      rw [unhide HD, List.length_map]
      exact ⟨A', c', rfl, own_base hown hB4.size, bthen hB4 hB⟩
end Go.Proofs.Ytpfdhbomcoafdaa
