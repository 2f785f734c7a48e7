/- JoinDiffs of impl and spec; ApplyDiff of impl and spec. -/
import Derived.Test.YtpfdhbomcoafdaaDiffs
import Derived.StillTailTactics
namespace Go.Proofs.Ytpfdhbomcoafdaa
open Go.RowKit
set_option linter.unusedVariables false
set_option linter.unusedSimpArgs false
attribute [local go_sem ↓] Go.wp_at_zero Go.wp_at_succ

def hasOf (h : Nat) (es : List Ent) : Nat := es.foldl (fun h e => h ||| 2 ^ e.k.toNat) h
theorem hasOf_snoc (h : Nat) (es : List Ent) (e : Ent) : hasOf h (es ++ [e]) = hasOf h es ||| 2 ^ e.k.toNat := by simp [hasOf]
theorem hasOf_append (h : Nat) (es fs : List Ent) : hasOf h (es ++ fs) = hasOf (hasOf h es) fs := by simp [hasOf]
theorem hasOf_bit (h : Nat) (es : List Ent) (k : Nat) : (hasOf h es).testBit k = (h.testBit k || es.any fun e => e.k.toNat == k) := by
  induction es generalizing h with
  | nil => simp [hasOf]
  | cons e es ih =>
    show (hasOf (h ||| 2 ^ e.k.toNat) es).testBit k = _
    rw [ih, Nat.testBit_or, Nat.testBit_two_pow]
    simp only [List.any_cons, Bool.or_assoc]
    congr 2
theorem hasOf_lt (h : Nat) (es : List Ent) (hh : h < 4294967296) (hk : ∀ e ∈ es, 0 ≤ e.k ∧ e.k ≤ 31) : hasOf h es < 4294967296 := by
  induction es generalizing h with
  | nil => exact hh
  | cons e es ih =>
    refine ih _ ?_ (fun x hx => hk x (by simp [hx]))
    have := hk e (by simp)
    have h1 : 2 ^ e.k.toNat ≤ 2 ^ 31 := Nat.pow_le_pow_right (by omega) (by omega)
    have h2 : (2 : Nat) ^ 31 < 2 ^ 32 := by decide
    exact Nat.or_lt_two_pow (n := 32) (by simpa using hh) (Nat.lt_of_le_of_lt h1 h2)
theorem find_any {es : List Ent} (hk : ∀ e ∈ es, 0 ≤ e.k ∧ e.k ≤ 31) (k : Nat) : (es.any fun e => e.k.toNat == k) = (findL es (k : Int)).isSome := by
  induction es with
  | nil => rfl
  | cons e es ih =>
    have := hk e (by simp)
    rw [List.any_cons, findL, ih fun x hx => hk x (by simp [hx])]
    by_cases h : e.k = (k : Int)
    · have : e.k.toNat = k := by omega
      simp [h, this]
    · have : ¬ e.k.toNat = k := by omega
      simp [h, this]
def joinN (a b : List Ent) : Nat → List Ent
  | 0 => []
  | n + 1 => joinN a b n ++ (match findL b (n : Int) with | some y => [⟨(n : Int), y⟩] | none => match findL a (n : Int) with | some x => [⟨(n : Int), x⟩] | none => [])
def joinL (a b : List Ent) : List Ent := if diffB a = true ∧ diffB b = true then joinN a b 32 else []
theorem joinN_len (a b : List Ent) (n : Nat) : (joinN a b n).length ≤ n := by
  induction n with
  | zero => simp [joinN]
  | succ n ih =>
    rw [joinN, List.length_append]
    split
    · simp; omega
    · split <;> simp <;> omega
theorem joinL_len (a b : List Ent) : (joinL a b).length ≤ 32 := by
  unfold joinL
  split
  · exact joinN_len a b 32
  · simp
/-- what the program's values and bits say of a key -/
theorem join_at {a b : List Ent} (ha : diffB a = true) (hb : diffB b = true) (k : Nat) (hk : k < 32) :
    (match findL b (k : Int) with | some y => [⟨(k : Int), y⟩] | none => match findL a (k : Int) with | some x => [(⟨(k : Int), x⟩ : Ent)] | none => []) = if (hasOf 0 (a ++ b)).testBit k = true then [⟨(k : Int), (setAll zeroV (a ++ b)).getD k 0⟩] else [] := by
  have hka := diff_keys ha
  have hkb := diff_keys hb
  rw [hasOf_bit, Nat.zero_testBit, Bool.false_or, List.any_append, find_any hka, find_any hkb, setAll_append, setAll_get (show evOk 0 (-1) b = true from hb) (by omega) _ k (by rw [setAll_len]; simpa [zeroV] using hk), setAll_get (show evOk 0 (-1) a = true from ha) (by omega) zeroV k (by simpa [zeroV] using hk)]
  cases findL b (k : Int) <;> cases findL a (k : Int) <;> simp
theorem bit_and (h k : Nat) (hh : h < 4294967296) : bits .and .i64 ((h : Int) / 2 ^ k) 1 = if h.testBit k = true then 1 else 0 := by
  have e : (h : Int) / 2 ^ k = ((h / 2 ^ k : Nat) : Int) := by simp
  have hl : h / 2 ^ k ≤ h := Nat.div_le_self _ _
  rw [e, show (1 : Int) = ((1 : Nat) : Int) from rfl, i64_and_nat _ _ (by omega) (by omega)]
  have : h / 2 ^ k &&& 1 = if h.testBit k = true then 1 else 0 := by
    rw [Nat.and_one_is_mod, Nat.testBit_eq_decide_div_mod_eq]
    simp only [decide_eq_true_eq]
    split <;> omega
  rw [this]
  split <;> rfl
theorem or_bit (h q : Nat) (hh : h < 4294967296) (hq : q < 32) : bits .or .i64 (h : Int) (wrap64 (2 ^ q)) = ((h ||| 2 ^ q : Nat) : Int) := by
  have h1 : 2 ^ q ≤ 2 ^ 31 := Nat.pow_le_pow_right (by omega) (by omega)
  have h2 : (2 : Nat) ^ 31 = 2147483648 := by decide
  have e : wrap64 ((2 : Int) ^ q) = ((2 ^ q : Nat) : Int) := by
    have e1 : (2 : Int) ^ q = ((2 ^ q : Nat) : Int) := by simp
    rw [e1]
    generalize (2 : Nat) ^ q = p at *
    unfold wrap64
    omega
  rw [e, i64_or_nat _ _ (by omega) (by omega)]
set_option maxRecDepth 100000 in
set_option maxHeartbeats 2000000 in
theorem joinDiffs_impl (A B : Option Addr) (ca cb : Nat) (a b : List Ent) (w : World) (ha : Rd w A (a.flatMap encE)) (hb : Rd w B (b.flatMap encE)) (hla : a.length ≤ 4611686018427387904) (hlb : b.length ≤ 4611686018427387904) :
    Calls Try.prog 12 #[.slice A a.length ca, .slice B b.length cb] w fun e w' => ∃ A' c', e = .returned (.slice A' (joinL a b).length c') ∧ w'.ownsRow w.heap.size 36 2 (.slice A' (joinL a b).length c') (joinL a b).length ((joinL a b).flatMap encE) ∧ Below w.heap.size w w' := by
  cases hsa : diffB a
  · have HL := hide (show joinL a b = [] by simp [joinL, hsa])
    go_enter Try.func12, Try.ntmps12
    go_wp2_with fail
    refine (diffB_impl A ca a w ha hla).mono ?_
    rintro e w1 ⟨rfl, b1⟩
    rw [hsa]
    go_wp2
    go_ret
    rw [unhide HL]
    exact ⟨none, 0, rfl, own_nil _ _ _ _, b1⟩
  cases hsb : diffB b
  · have HL := hide (show joinL a b = [] by simp [joinL, hsb])
    go_enter Try.func12, Try.ntmps12
    go_wp2_with fail
    refine (diffB_impl A ca a w ha hla).mono ?_
    rintro e w1 ⟨rfl, b1⟩
    rw [hsa]
    go_wp2_with fail
    refine (diffB_impl B cb b _ (hb.new b1) hlb).mono ?_
    rintro e w2 ⟨rfl, b2⟩
    rw [hsb]
    go_wp2
    go_ret
    rw [unhide HL]
    exact ⟨none, 0, rfl, own_nil _ _ _ _, bthen b1 b2⟩
  have HL := hide (show joinL a b = joinN a b 32 by unfold joinL; rw [if_pos ⟨hsa, hsb⟩])
  have HKA := hide (diff_keys hsa)
  have HKB := hide (diff_keys hsb)
  have HAT := hide (fun k hk => join_at hsa hsb k hk)
  go_enter Try.func12, Try.ntmps12
  go_wp2_with fail
  refine (diffB_impl A ca a w ha hla).mono ?_
  rintro e w1 ⟨rfl, b1⟩
  rw [hsa]
  go_wp2_with fail
  refine (diffB_impl B cb b _ (hb.new b1) hlb).mono ?_
  rintro e w2 ⟨rfl, b2⟩
  rw [hsb]
  have hB2 := bthen b1 b2
  go_wp2
  have kV : Blk ((w2.alloc (.cells zA 45)).alloc (.cells #[.slice A a.length ca, .slice B b.length cb] 24)) w2.heap.size 45 (vA (setAll zeroV [])) := (Blk.new _ _ _).alloc _
  have kL : Blk ((w2.alloc (.cells zA 45)).alloc (.cells #[.slice A a.length ca, .slice B b.length cb] 24)) (w2.heap.size + 1) 24 #[.slice A a.length ca, .slice B b.length cb] := by
    have := Blk.new (w2.alloc (.cells zA 45)) 24 #[.slice A a.length ca, .slice B b.length cb]
    simpa using this
  have hbF : Below w.heap.size w ((w2.alloc (.cells zA 45)).alloc (.cells #[.slice A a.length ca, .slice B b.length cb] 24)) := (hB2.alloc hB2.size _).alloc (by have := hB2.size; simp; omega) _
  refine at_world (C := fun w => Code.wp _ _ _ _ w) (F := fun x => Blk x w2.heap.size 45 (vA (setAll zeroV [])) ∧ Blk x (w2.heap.size + 1) 24 #[.slice A a.length ca, .slice B b.length cb] ∧ Below w.heap.size w x) ⟨kV, kL, hbF⟩ ?_
  clear kV kL hbF b1 b2
  rintro wF ⟨kV, kL, hbF⟩
  have hs2 := hB2.size
  go_loopw [6, 26] (fun h i wr => ∃ j : Nat, j ≤ 2 ∧ i = .int .i64 j ∧ h = .int .i64 (hasOf 0 (if j = 0 then [] else if j = 1 then a else a ++ b) : Nat) ∧ Blk wr w2.heap.size 45 (vA (setAll zeroV (if j = 0 then [] else if j = 1 then a else a ++ b))) ∧ Chg (fun q => q = w2.heap.size) wF wr) (fun _ i _ => 2 - (intOf i).toNat)
  case atStart => exact ⟨0, by omega, rfl, rfl, kV, Chg.refl _ _⟩
  case round =>
    obtain ⟨j, hj, rfl, rfl, kv, hch⟩ := hrel
    have hB : Below w.heap.size w wr := hbF.trans (hch.below (fun q hq e => by omega) hbF.size)
    by_cases hj2 : j < 2
    · obtain ⟨X, cx, cur, hcell, hX, hcl, hcur, hkc⟩ : ∃ X cx, ∃ cur : List Ent, wr.cell? ⟨w2.heap.size + 1, j, none⟩ = some (.slice X cur.length cx) ∧ Rd w X (cur.flatMap encE) ∧ cur.length ≤ 4611686018427387904 ∧ (if j + 1 = 0 then [] else if j + 1 = 1 then a else a ++ b) = (if j = 0 then [] else if j = 1 then a else a ++ b) ++ cur ∧ ∀ e ∈ cur, 0 ≤ e.k ∧ e.k ≤ 31 := by
        have kl := kL.chg hch (by omega)
        rcases (show j = 0 ∨ j = 1 by omega) with rfl | rfl
        · exact ⟨A, ca, a, by rw [kl.cell]; rfl, ha, hla, rfl, unhide HKA⟩
        · exact ⟨B, cb, b, by rw [kl.cell]; rfl, hb, hlb, rfl, unhide HKB⟩
      have hhl : hasOf 0 (if j = 0 then [] else if j = 1 then a else a ++ b) < 4294967296 := hasOf_lt _ _ (by omega) (by
        intro e he
        split at he
        · cases he
        · split at he
          · exact unhide HKA e he
          · rcases List.mem_append.1 he with h | h
            · exact unhide HKA e h
            · exact unhide HKB e h)
      have HCUR := hide hcur
      have HKC := hide hkc
      clear hcur hkc
      generalize hL : (if j = 0 then [] else if j = 1 then a else a ++ b : List Ent) = L at *
      clear hL
      have i1 : (j : Int) < 2 := by omega
      have hhl2 : (hasOf 0 L : Int) < 4294967296 := by omega
      obtain ⟨wo, hwo⟩ : ∃ wo : World, wo = wr := ⟨_, rfl⟩
      subst hwo
      go_wp2
      go_loopw [6, 32] (fun h i wi => ∃ k : Nat, k ≤ cur.length ∧ i = .int .i64 k ∧ h = .int .i64 (hasOf 0 (L ++ cur.take k) : Nat) ∧ Blk wi w2.heap.size 45 (vA (setAll zeroV (L ++ cur.take k))) ∧ Chg (fun q => q = w2.heap.size) wF wi) (fun _ i _ => cur.length - (intOf i).toNat)
      case atStart => exact ⟨0, Nat.zero_le _, rfl, by simp, by simpa using kv, hch⟩
      case round =>
        clear kv
        obtain ⟨k, hk, rfl, rfl, kv, hch⟩ := hrel
        have hB : Below w.heap.size w wr := hbF.trans (hch.below (fun q hq e => by omega) hbF.size)
        by_cases hlt : k < cur.length
        · obtain ⟨b', off, rfl, hbb, c0, c1⟩ := (hX.new hB).ent hlt
          have hkb := unhide HKC cur[k] (List.getElem_mem hlt)
          have htk := List.take_succ_eq_append_getElem hlt
          have HS := hide (show setAll zeroV (L ++ cur.take (k + 1)) = (setAll zeroV (L ++ cur.take k)).set cur[k].k.toNat cur[k].v by rw [htk, ← List.append_assoc, setAll_snoc]; rfl)
          have HH := hide (show hasOf 0 (L ++ cur.take (k + 1)) = hasOf 0 (L ++ cur.take k) ||| 2 ^ cur[k].k.toNat by rw [htk, ← List.append_assoc, hasOf_snoc])
          have hlen : (setAll zeroV (L ++ cur.take k)).length = 32 := (setAll_len _ _).trans (by simp [zeroV])
          have hhl3 : hasOf 0 (L ++ cur.take k) < 4294967296 := by rw [hasOf_append]; exact hasOf_lt _ _ hhl (fun e he => unhide HKC e (List.mem_of_mem_take he))
          generalize setAll zeroV (L ++ cur.take k) = v at *
          generalize hasOf 0 (L ++ cur.take k) = hh at *
          generalize cur[k] = x at *
          clear htk
          obtain ⟨key, val⟩ := x
          simp only at c0 c1 hkb HS HH
          obtain ⟨q, rfl⟩ := Int.eq_ofNat_of_zero_le hkb.1
          have i1 : (k : Int) < (cur.length : Int) := by omega
          have i2 : (q : Int) < 32 := by omega
          have i3 : q < 32 := by omega
          have cv := vA_get kv (show q < v.length by omega)
          have zv := kv.frozen q
          have hvl := kv.lt
          have hne : w2.heap.size ≠ wr.heap.size := by omega
          go_wp2
          go_roundw
          case rel =>
            refine ⟨k + 1, by omega, by go_num, ?_, by rw [unhide HS]; exact (vA_set kv q val).alloc _, (hch.setCell (p := ⟨w2.heap.size, q, none⟩) (.inl rfl) _).alloc _⟩
            rw [unhide HH, or_bit hh q hhl3 i3]
            rfl
          case measure => simp [intOf]; omega
        · obtain rfl : k = cur.length := by omega
          rw [List.take_length] at kv ⊢
          go_wp2
          go_roundw
          case rel => exact ⟨j + 1, by omega, by go_num, by rw [unhide HCUR], by rw [unhide HCUR]; exact kv, hch⟩
          case measure => simp [intOf]; omega
    · obtain rfl : j = 2 := by omega
      simp only [show ((2 : Nat) = 0) = False by simp, show ((2 : Nat) = 1) = False by simp, if_false] at kv ⊢
      have hvl : (setAll zeroV (a ++ b)).length = 32 := (setAll_len _ _).trans (by simp [zeroV])
      have hhl : hasOf 0 (a ++ b) < 4294967296 := hasOf_lt _ _ (by omega) (fun e he => by
        rcases List.mem_append.1 he with h | h
        · exact unhide HKA e h
        · exact unhide HKB e h)
      generalize setAll zeroV (a ++ b) = v at *
      generalize hasOf 0 (a ++ b) = hh at *
      have hls : (vA v).size = 32 := by rw [vA_size, hvl]
      have hhl2 : (hh : Int) < 4294967296 := by omega
      go_wp2_with (refine wpList_load_row rfl 45 (.tmp 5) rfl w2.heap.size rfl 45 (vA v) (0, 0) _ kv Try.underlying45 rfl (by rw [hls]; exact info_vals) ?_)
      obtain ⟨wo, hwo⟩ : ∃ wo : World, wo = wr := ⟨_, rfl⟩
      subst hwo
      go_loopw [11, 49] (fun r i wr => ∃ (k : Nat) (A' : Option Addr) (c' : Nat), k ≤ 32 ∧ i = .int .i64 k ∧ r = .slice A' (joinN a b k).length c' ∧ wr.ownsRow wo.heap.size 36 2 (.slice A' (joinN a b k).length c') (joinN a b k).length ((joinN a b k).flatMap encE) ∧ Below wo.heap.size wo wr) (fun _ i _ => 32 - (intOf i).toNat)
      case atStart => exact ⟨0, none, 0, by omega, rfl, rfl, own_nil _ _ _ _, Below.refl _ _⟩
      case round =>
        obtain ⟨k, A', c', hk, rfl, rfl, hown, hB5⟩ := hrel
        have hgl := joinN_len a b k
        by_cases hlt : k < 32
        · have hix := index_vals v hvl k hlt
          have i1 : (k : Int) < 32 := by omega
          have hst := show joinN a b (k + 1) = joinN a b k ++ _ from rfl
          rw [unhide HAT k hlt] at hst
          have hba := bit_and hh k hhl
          generalize v.getD k 0 = x at *
          generalize joinN a b k = gs at *
          cases hbt : hh.testBit k
          · rw [hbt] at hst hba
            simp only [Bool.false_eq_true, if_false] at hba
            have HS := hide hst
            clear hst hbt
            go_wp2
            go_roundw
            case rel => exact ⟨k + 1, A', c', by omega, by go_num, by rw [unhide HS]; simp, by rw [unhide HS]; simpa using hown, hB5⟩
            case measure => simp [intOf]; omega
          · rw [hbt] at hst hba
            simp only [if_true] at hba
            have HS := hide hst
            clear hst hbt
            go_wp2_with (at_builtin; refine wpList_app rfl (.tmp 58) (.tmp 62) 24 rfl el_ent rfl (own_alloc hown _) rfl (rd_lit wr [.int .i64 (k : Int), .int .i64 x] _) rfl (one_ents [⟨(k : Int), x⟩]) (by simp only [maxLen]; omega) (by omega) (by have := hB5.size; simp; omega) ?_; intro A1 c1 w1 o1 ch1 _ _; rw [snoc_ents] at o1)
            have hB1 := app_below hB5 hown ch1 (Nat.le_refl _)
            go_roundw
            case rel => exact ⟨k + 1, A1, c1, by omega, by go_num, by rw [unhide HS]; simp, by rw [unhide HS]; simpa using o1, hB1⟩
            case measure => simp [intOf]; omega
        · obtain rfl : k = 32 := by omega
          go_wp2
          go_ret
          rw [unhide HL]
          exact ⟨A', c', rfl, own_base hown hB.size, bthen hB hB5⟩
theorem l4Find_any (A : Option Addr) (c : Nat) (es : List Ent) (key : Int) (w : World) (h : Rd w A (es.flatMap encE)) (hb : es.length ≤ 4611686018427387904) :
    Calls Try.prog 30 #[.slice A es.length c, .int .i64 key] w fun e w' => e = .returned (.tuple #[.int .i64 ((findL es key).getD 0), .bool (findL es key).isSome]) ∧ w = w' := by
  go_enter Try.func30, Try.ntmps30
  go_wp2
  go_loop [6] (fun i => ∃ k : Nat, k ≤ es.length ∧ i = .int .i64 k ∧ findL es key = findL (es.drop k) key) (fun i => es.length - (intOf i).toNat)
  case atStart => exact ⟨0, Nat.zero_le _, rfl, rfl⟩
  case round =>
    obtain ⟨k, hk, rfl, hat⟩ := hrel
    by_cases hlt : k < es.length
    · obtain ⟨b, off, rfl, hbb, hc1, hc2⟩ := h.ent hlt
      rw [drop_get es k hlt, findL] at hat
      generalize hek : es[k] = ek at *
      clear hek
      by_cases he : ek.k = key
      · have g : (ek.k == key) = true := by simp [he]
        rw [if_pos he] at hat
        have HA := hide hat
        clear hat he
        go_wp2
        go_ret2
        rw [unhide HA]
        exact ⟨rfl, rfl⟩
      · have g : (ek.k == key) = false := by simp [he]
        rw [if_neg he] at hat
        have HA := hide hat
        clear hat he
        go_wp2
        go_round
        case rel => exact ⟨k + 1, by omega, by go_num, unhide HA⟩
        case measure => simp [intOf]; omega
    · have hat' : findL es key = none := by rw [hat, List.drop_of_length_le (by omega)]; rfl
      clear hat
      have HA := hide hat'
      clear hat'
      go_wp2
      go_ret2
      rw [unhide HA]
      exact ⟨rfl, rfl⟩
set_option maxRecDepth 100000 in
set_option maxHeartbeats 1000000 in
theorem joinDiffs_spec (A B : Option Addr) (ca cb : Nat) (a b : List Ent) (w : World) (ha : Rd w A (a.flatMap encE)) (hb : Rd w B (b.flatMap encE)) (hla : a.length ≤ 4611686018427387904) (hlb : b.length ≤ 4611686018427387904) :
    Calls Try.prog 10 #[.slice A a.length ca, .slice B b.length cb] w fun e w' => ∃ A' c', e = .returned (.slice A' (joinL a b).length c') ∧ w'.ownsRow w.heap.size 36 2 (.slice A' (joinL a b).length c') (joinL a b).length ((joinL a b).flatMap encE) ∧ Below w.heap.size w w' := by
  have o0 : (w.alloc (.cells #[] 36)).ownsRow w.heap.size 36 2 (.slice (some ⟨w.heap.size, 0, none⟩) 0 0) 0 [] := own_made (base := w.heap.size) (e := 36) (size := 2) w #[] 0 (Nat.le_refl _) (by simp [maxLen]) rfl
  have b0 : Below w.heap.size w (w.alloc (.cells #[] 36)) := (Below.refl _ _).alloc (Nat.le_refl _) _
  cases hsa : diffB a
  · have HL := hide (show joinL a b = [] by simp [joinL, hsa])
    go_enter Try.func10, Try.ntmps10
    go_wp2
    refine wp_loop_rounds 1 ?_
    rw [rounds_succ]
    go_wp2_with fail
    refine (diffB_diff_spec A ca a _ (ha.alloc _) (by omega)).mono ?_
    rintro e w' ⟨rfl, m1, rfl⟩
    rw [hsa]
    go_wp2
    go_ret
    rw [unhide HL]
    exact ⟨_, _, rfl, own_drewN o0 m1, below_drewN b0 m1⟩
  cases hsb : diffB b
  · have HL := hide (show joinL a b = [] by simp [joinL, hsb])
    go_enter Try.func10, Try.ntmps10
    go_wp2
    refine wp_loop_rounds 1 ?_
    rw [rounds_succ]
    go_wp2_with fail
    refine (diffB_diff_spec A ca a _ (ha.alloc _) (by omega)).mono ?_
    rintro e w' ⟨rfl, m1, rfl⟩
    rw [hsa]
    go_wp2_with fail
    refine (diffB_diff_spec B cb b _ ((hb.alloc _).drewN m1) (by omega)).mono ?_
    rintro e w' ⟨rfl, m2, rfl⟩
    rw [hsb]
    go_wp2
    go_ret
    rw [unhide HL]
    exact ⟨_, _, rfl, own_drewN o0 (m1 + m2), below_drewN b0 (m1 + m2)⟩
  have HL := hide (show joinL a b = joinN a b 32 by unfold joinL; rw [if_pos ⟨hsa, hsb⟩])
  have HSA := hide hsa
  have HSB := hide hsb
  clear hsa hsb
  go_enter Try.func10, Try.ntmps10
  go_wp2
  go_loopw [5, 6] (fun r i wr => ∃ (k : Nat) (A' : Option Addr) (c' : Nat), k ≤ 32 ∧ i = .int .i64 k ∧ r = .slice A' (joinN a b k).length c' ∧ wr.ownsRow w.heap.size 36 2 (.slice A' (joinN a b k).length c') (joinN a b k).length ((joinN a b k).flatMap encE) ∧ Below w.heap.size w wr) (fun _ i _ => 32 - (intOf i).toNat)
  case atStart => exact ⟨0, _, 0, by omega, rfl, rfl, o0, b0⟩
  case round =>
    clear o0 b0
    obtain ⟨k, A', c', hk, rfl, rfl, hown, hB⟩ := hrel
    have hgl := joinN_len a b k
    by_cases hlt : k < 32
    · have i1 : decide (k ≤ 31) = true := by simp; omega
      have i2 : (k : Int) ≤ 31 := by omega
      go_wp2_with fail
      refine (diffB_diff_spec A ca a _ (ha.new hB) (by omega)).mono ?_
      rintro e w' ⟨rfl, m1, rfl⟩
      rw [unhide HSA]
      go_wp2_with fail
      refine (diffB_diff_spec B cb b _ ((hb.new hB).drewN m1) (by omega)).mono ?_
      rintro e w' ⟨rfl, m2, rfl⟩
      rw [unhide HSB]
      rw [World.drewN_drewN]
      have ho2 : (wr.drewN (m1 + m2)).ownsRow w.heap.size 36 2 (.slice A' (joinN a b k).length c') (joinN a b k).length ((joinN a b k).flatMap encE) := hown
      have hB2 : Below w.heap.size w (wr.drewN (m1 + m2)) := below_drewN hB (m1 + m2)
      generalize wr.drewN (m1 + m2) = w2 at *
      clear hown hB
      have hst := show joinN a b (k + 1) = joinN a b k ++ _ from rfl
      generalize joinN a b k = gs at *
      go_wp2_with fail
      refine (l4Find_any A ca a (k : Int) _ (ha.new hB2) hla).mono ?_
      rintro e w' ⟨rfl, rfl⟩
      go_wp2_with fail
      refine (l4Find_any B cb b (k : Int) _ (hb.new hB2) hlb).mono ?_
      rintro e w' ⟨rfl, rfl⟩
      cases hfb : findL b (k : Int) with
      | some y =>
        rw [hfb] at hst
        have HS := hide hst
        clear hst hfb
        simp only [Option.getD_some, Option.isSome_some]
        go_wp2_with (at_builtin; refine wpList_app rfl (.tmp 38) (.tmp 42) 24 rfl el_ent rfl (own_alloc ho2 _) rfl (rd_lit w2 [.int .i64 (k : Int), .int .i64 y] _) rfl (one_ents [⟨(k : Int), y⟩]) (by simp only [maxLen]; omega) (by omega) (by have := hB2.size; simp; omega) ?_; intro A1 c1 w3 o3 ch3 _ _; rw [snoc_ents] at o3)
        have hB3 := app_below hB2 ho2 ch3 (Nat.le_refl _)
        go_roundw
        case rel => exact ⟨k + 1, A1, c1, by omega, by go_num, by rw [unhide HS]; simp, by rw [unhide HS]; simpa using o3, hB3⟩
        case measure => simp [intOf]; omega
      | none =>
        rw [hfb] at hst
        simp only [Option.getD_none, Option.isSome_none]
        cases hfa : findL a (k : Int) with
        | some x =>
          rw [hfa] at hst
          have HS := hide hst
          clear hst hfb hfa
          simp only [Option.getD_some, Option.isSome_some]
          go_wp2_with (at_builtin; refine wpList_app rfl (.tmp 46) (.tmp 50) 24 rfl el_ent rfl (own_alloc ho2 _) rfl (rd_lit w2 [.int .i64 (k : Int), .int .i64 x] _) rfl (one_ents [⟨(k : Int), x⟩]) (by simp only [maxLen]; omega) (by omega) (by have := hB2.size; simp; omega) ?_; intro A1 c1 w3 o3 ch3 _ _; rw [snoc_ents] at o3)
          have hB3 := app_below hB2 ho2 ch3 (Nat.le_refl _)
          go_roundw
          case rel => exact ⟨k + 1, A1, c1, by omega, by go_num, by rw [unhide HS]; simp, by rw [unhide HS]; simpa using o3, hB3⟩
          case measure => simp [intOf]; omega
        | none =>
          rw [hfa] at hst
          have HS := hide hst
          clear hst hfb hfa
          simp only [Option.getD_none, Option.isSome_none]
          go_wp2
          go_roundw
          case rel => exact ⟨k + 1, A', c', by omega, by go_num, by rw [unhide HS]; simp, by rw [unhide HS]; simpa using ho2, hB2⟩
          case measure => simp [intOf]; omega
    · obtain rfl : k = 32 := by omega
      go_wp2
      go_ret
      rw [unhide HL]
      exact ⟨A', c', rfl, hown, hB⟩
theorem evOk_take {l z : Int} {es : List Ent} (h : evOk l z es = true) (n : Nat) : evOk l z (es.take n) = true := by
  induction es generalizing z n with
  | nil => simp [evOk]
  | cons e es ih =>
    cases n with
    | zero => rfl
    | succ n =>
      obtain ⟨h1, h2, h3, h4, h5⟩ := evOk_cons h
      exact evOk_mk h1 h2 h3 h4 (ih h5 n)
theorem putAll_snoc (s es : List Ent) (e : Ent) : putAll s (es ++ [e]) = putL (putAll s es) e.k e.v := by unfold putAll; rw [List.foldl_append]; rfl
/-- a store with the values of a difference -/
def applyL (s d : List Ent) : List Ent := if storeB s = true ∧ diffB d = true then putAll s d else []
theorem applyL_len (s d : List Ent) : (applyL s d).length ≤ 32 := by
  unfold applyL
  split
  · rename_i h
    exact store_len (putAll_ok h.1 (show evOk 0 (-1) d = true from h.2) (by omega) (by omega)).1
  · simp
theorem applyDiff_impl (A B : Option Addr) (ca cb : Nat) (a b : List Ent) (w : World) (ha : Rd w A (a.flatMap encE)) (hb : Rd w B (b.flatMap encE)) (hla : a.length ≤ 4611686018427387904) (hlb : b.length ≤ 4611686018427387904) :
    Calls Try.prog 19 #[.slice A a.length ca, .slice B b.length cb] w fun e w' => ∃ A' c', e = .returned (.slice A' (applyL a b).length c') ∧ w'.ownsRow w.heap.size 36 2 (.slice A' (applyL a b).length c') (applyL a b).length ((applyL a b).flatMap encE) ∧ Below w.heap.size w w' := by
  cases hsa : storeB a
  · have HL := hide (show applyL a b = [] by simp [applyL, hsa])
    go_enter Try.func19, Try.ntmps19
    go_wp2_with fail
    refine (storeB_impl A ca a w ha hla).mono ?_
    rintro e w1 ⟨rfl, b1⟩
    rw [hsa]
    go_wp2
    go_ret
    rw [unhide HL]
    exact ⟨none, 0, rfl, own_nil _ _ _ _, b1⟩
  cases hsb : diffB b
  · have HL := hide (show applyL a b = [] by simp [applyL, hsb])
    go_enter Try.func19, Try.ntmps19
    go_wp2_with fail
    refine (storeB_impl A ca a w ha hla).mono ?_
    rintro e w1 ⟨rfl, b1⟩
    rw [hsa]
    go_wp2_with fail
    refine (diffB_impl B cb b _ (hb.new b1) hlb).mono ?_
    rintro e w2 ⟨rfl, b2⟩
    rw [hsb]
    go_wp2
    go_ret
    rw [unhide HL]
    exact ⟨none, 0, rfl, own_nil _ _ _ _, bthen b1 b2⟩
  have HL := hide (show applyL a b = writeL a b by unfold applyL writeL; rw [if_pos ⟨hsa, hsb⟩, write_eq hsa hsb])
  have HKA := hide (store_keys hsa)
  have HKB := hide (diff_keys hsb)
  go_enter Try.func19, Try.ntmps19
  go_wp2_with fail
  refine (storeB_impl A ca a w ha hla).mono ?_
  rintro e w1 ⟨rfl, b1⟩
  rw [hsa]
  go_wp2_with fail
  refine (diffB_impl B cb b _ (hb.new b1) hlb).mono ?_
  rintro e w2 ⟨rfl, b2⟩
  rw [hsb]
  go_wp2_with fail
  refine (write_any A B ca cb a b _ ((ha.new b1).new b2) ((hb.new b1).new b2) hla hlb (unhide HKA) (unhide HKB)).mono ?_
  rintro e w3 ⟨A3, c3, rfl, o3, b3⟩
  go_wp2
  go_ret
  rw [unhide HL]
  exact ⟨A3, c3, rfl, own_base o3 (bthen b1 b2).size, bthen (bthen b1 b2) b3⟩
set_option maxHeartbeats 1000000 in
theorem applyDiff_spec (A B : Option Addr) (ca cb : Nat) (a b : List Ent) (w : World) (ha : Rd w A (a.flatMap encE)) (hb : Rd w B (b.flatMap encE)) (hla : a.length ≤ 4611686018427387904) (hlb : b.length ≤ 4611686018427387904) :
    Calls Try.prog 18 #[.slice A a.length ca, .slice B b.length cb] w fun e w' => ∃ A' c', e = .returned (.slice A' (applyL a b).length c') ∧ w'.ownsRow w.heap.size 36 2 (.slice A' (applyL a b).length c') (applyL a b).length ((applyL a b).flatMap encE) ∧ Below w.heap.size w w' := by
  cases hsa : storeB a
  · have HL := hide (show applyL a b = [] by simp [applyL, hsa])
    go_enter Try.func18, Try.ntmps18
    go_wp2_with fail
    refine (storeB_store_spec A ca a w ha (by omega)).mono ?_
    rintro e w' ⟨rfl, m1, rfl⟩
    rw [hsa]
    go_wp2
    go_ret
    rw [unhide HL]
    exact ⟨_, _, rfl, own_made (w.drewN m1) #[] 0 (Nat.le_refl _) (by simp [maxLen]) rfl, (below_drewN (Below.refl _ _) m1).alloc (Nat.le_refl _) _⟩
  cases hsb : diffB b
  · have HL := hide (show applyL a b = [] by simp [applyL, hsb])
    go_enter Try.func18, Try.ntmps18
    go_wp2_with fail
    refine (storeB_store_spec A ca a w ha (by omega)).mono ?_
    rintro e w' ⟨rfl, m1, rfl⟩
    rw [hsa]
    go_wp2_with fail
    refine (diffB_diff_spec B cb b _ (hb.drewN m1) (by omega)).mono ?_
    rintro e w' ⟨rfl, m2, rfl⟩
    rw [hsb]
    go_wp2
    go_ret
    rw [unhide HL]
    exact ⟨_, _, rfl, own_made (w.drewN (m1 + m2)) #[] 0 (Nat.le_refl _) (by simp [maxLen]) rfl, (below_drewN (Below.refl _ _) (m1 + m2)).alloc (Nat.le_refl _) _⟩
  have HL := hide (show applyL a b = putAll a b by unfold applyL; rw [if_pos ⟨hsa, hsb⟩])
  have HPL := hide (show ∀ k, (putAll a (b.take k)).length ≤ 32 from fun k => store_len (putAll_ok hsa (show evOk 0 (-1) (b.take k) = true from evOk_take hsb k) (by omega) (by omega)).1)
  have hal := store_len hsa
  have hbl := diff_len hsb
  have HSA := hide hsa
  have HSB := hide hsb
  clear hsa hsb
  go_enter Try.func18, Try.ntmps18
  go_wp2_with fail
  refine (storeB_store_spec A ca a w ha (by omega)).mono ?_
  rintro e w' ⟨rfl, m1, rfl⟩
  rw [unhide HSA]
  go_wp2_with fail
  refine (diffB_diff_spec B cb b _ (hb.drewN m1) (by omega)).mono ?_
  rintro e w' ⟨rfl, m2, rfl⟩
  rw [unhide HSB]
  rw [World.drewN_drewN]
  have ha2 := ha.drewN (m1 + m2)
  have hb2 := hb.drewN (m1 + m2)
  have hB2 : Below w.heap.size w (w.drewN (m1 + m2)) := below_drewN (Below.refl _ _) (m1 + m2)
  have HSZ := hide (show (w.drewN (m1 + m2)).heap.size = w.heap.size from rfl)
  generalize w.drewN (m1 + m2) = w2 at *
  clear ha hb
  have o2 := own_made (base := w2.heap.size) (e := 36) (size := 2) w2 #[] 0 (Nat.le_refl _) (by simp [maxLen]) rfl
  go_wp2_with (at_builtin; refine wpList_app rfl (.tmp 16) (.tmp 17) 24 rfl el_ent rfl o2 rfl (ha2.alloc _) (length_flat encE 2 encE_len a) (one_ents a) (by simp only [maxLen]; omega) (by omega) (by simp) ?_; intro A3 c3 w3 o3 ch3 _ _)
  have hb23 : Below w2.heap.size w2 w3 := ((Below.refl _ _).alloc (Nat.le_refl _) _).trans (ch3.below (fun q hq e => by injection e with e; injection e with e; omega) (by simp))
  rw [show (0 : Nat) + a.length = a.length by omega] at o3
  have hb3 := hb2.new hb23
  have hB3 : Below w.heap.size w w3 := bthen hB2 hb23
  have o4 : w3.ownsRow w.heap.size 36 2 (.slice A3 a.length c3) a.length (a.flatMap encE) := by rw [← unhide HSZ]; simpa using o3
  clear o3 ch3 o2 ha2 hb2
  go_loopw [5, 6] (fun v i wr => ∃ (k : Nat) (A' : Option Addr) (c' : Nat), k ≤ b.length ∧ i = .int .i64 k ∧ v = .slice A' (putAll a (b.take k)).length c' ∧ wr.ownsRow w.heap.size 36 2 (.slice A' (putAll a (b.take k)).length c') (putAll a (b.take k)).length ((putAll a (b.take k)).flatMap encE) ∧ Below w3.heap.size w3 wr) (fun _ i _ => b.length - (intOf i).toNat)
  case atStart => exact ⟨0, A3, c3, by omega, rfl, rfl, o4, Below.refl _ _⟩
  case round =>
    obtain ⟨k, A', c', hk, rfl, rfl, hown, hB⟩ := hrel
    by_cases hlt : k < b.length
    · obtain ⟨b', off, rfl, hbb, d1, d2⟩ := (hb3.new hB).ent hlt
      have HS := hide (show putAll a (b.take (k + 1)) = putL (putAll a (b.take k)) b[k].k b[k].v by rw [List.take_succ_eq_append_getElem hlt, putAll_snoc])
      have hln := unhide HPL k
      generalize putAll a (b.take k) = cur at *
      generalize b[k] = x at *
      have i1 : (k : Int) < (b.length : Int) := by omega
      have hrd := (own_rd hown).drew
      have hB' : Below w3.heap.size w3 wr.drew := hB.drew
      go_wp2
      go_still_tail 11, (by kernel_rfl)
      change wpList _ _ _ _ _ wr.drew
      go_wp2_with fail
      refine (l2Put_any A' c' cur x.k x.v wr.drew hrd (by omega)).mono ?_
      rintro e w5 ⟨A5, c5, rfl, o5, b5⟩
      go_wp2
      go_roundw
      case rel => exact ⟨k + 1, A5, c5, by omega, by go_num, by rw [unhide HS], by rw [unhide HS]; exact own_base o5 (show w.heap.size ≤ wr.heap.size by have := hB.size; have := hB3.size; omega), hB'.trans (b5.mono (show w3.heap.size ≤ wr.heap.size from hB.size))⟩
      case measure => simp [intOf]; omega
    · obtain rfl : k = b.length := by omega
      rw [List.take_length] at hown ⊢
      go_wp2
      go_ret
      rw [unhide HL]
      exact ⟨A', c', rfl, hown, bthen hB3 hB⟩
end Go.Proofs.Ytpfdhbomcoafdaa
