/- The laws FnTakeNumber, FnTakeNumbers. -/
import Derived.Test.YthddcinpacaacaaDrawN
import Derived.Test.YthddcinpacaacaaSums
namespace Go.Proofs.Ythddcinpacaacaa
open Go.RowKit
set_option linter.unusedVariables false
set_option linter.unusedSimpArgs false

theorem take_yes {xs : List Int} {n : Nbd} (hc : countersB xs = true) (h : takeOk xs n = true) : 0 ≤ n.num ∧ n.num < 1000000 ∧ takeOk (takeL xs n) n = false ∧ takeOk (takeL xs n) ⟨n.who, n.num + 1⟩ = !(n.num + 1 == 1000000) := by
  obtain ⟨hl, hv⟩ := counters_yes hc
  have h' := h
  unfold takeOk at h'
  simp only [Bool.and_eq_true, beq_iff_eq, bne_iff_ne, ne_eq] at h'
  obtain ⟨h1, h2, h3⟩ := h'
  obtain ⟨m1, m2⟩ := inB_true.1 h1
  have hb : 0 ≤ xs.getD n.who.toNat 0 ∧ xs.getD n.who.toNat 0 ≤ 1000000 := by
    rw [List.getD_eq_getElem?_getD]
    rcases hj : xs[n.who.toNat]? with _ | y
    · simp
    · exact hv y (List.mem_of_getElem? hj)
  have hs : (takeL xs n).getD n.who.toNat 0 = n.num + 1 := by
    unfold takeL
    rw [if_pos h, List.getD_eq_getElem?_getD, List.getElem?_set_self (by omega)]
    rfl
  refine ⟨by omega, by omega, ?_, ?_⟩
  · unfold takeOk
    rw [hs]
    have : (n.num + 1 == n.num) = false := by rw [beq_eq_false_iff_ne]; omega
    rw [this]
    simp
  · unfold takeOk
    rw [hs, h1]
    simp
    rfl
theorem takeL_no {xs : List Int} {n : Nbd} (h : takeOk xs n = false) : takeL xs n = xs := by unfold takeL; rw [if_neg (by simp [h])]
theorem tn_again {xs : List Int} {n : Nbd} (hc : countersB xs = true) (h : takeOk xs n = true) :
    tnB (takeL xs n) n = false ∧ tnL (takeL xs n) n = takeL xs n ∧ tnB (takeL xs n) ⟨n.who, n.num + 1⟩ = !(n.num + 1 == 1000000) := by
  obtain ⟨_, _, h1, h2⟩ := take_yes hc h
  have hc' := takeL_ok n hc
  refine ⟨by rw [(tn_yes hc').2, h1], ?_, by rw [(tn_yes hc').2, h2]⟩
  rw [(tn_yes hc').1, takeL_no h1]

set_option maxHeartbeats 4000000 in
theorem law_FnTakeNumber (A : Option Addr) (c : Nat) (bs : List Int) (w : World) (h : Rd w A (bs.map (.int .u8))) (hw : ∀ b ∈ bs, 0 ≤ b ∧ b ≤ 255) (hc : bs.length ≤ c) (hm : c ≤ maxLen) :
    Calls Try.prog 5 #[.slice A bs.length c] w fun e w' => e = .returned (.bool true) ∧ Below w.heap.size w w' := by
  have hm2 : bs.length ≤ 9223372036854775807 := by simp only [maxLen] at hm; omega
  by_cases hl : (1048576 : Int) < (bs.length : Int)
  · clear hw
    go_enter Try.func5, Try.ntmps5
    go_wp2
    go_ret
    exact ⟨rfl, Below.refl _ _⟩
  · have HW := hide hw
    have HC := hide hc
    have HM := hide hm
    clear hw hc hm
    go_enter Try.func5, Try.ntmps5
    go_wp2_with fail
    refine (drawTake_any A c bs w h (unhide HW) (unhide HC) (unhide HM)).mono ?_
    rintro e w1 ⟨A1, c1, xs, n, hxl, hnb, rfl, r1, b1⟩
    have k1 := Blk.new w1 28 #[.int .i64 n.who, .int .i64 n.num]
    have q1 := r1.alloc (.cells #[.int .i64 n.who, .int .i64 n.num] 28)
    have hB := b1.alloc b1.size (.cells #[.int .i64 n.who, .int .i64 n.num] 28)
    go_wp2_with fail
    refine (takeNumber_impl A1 c1 xs n _ q1 (by omega)).mono ?_
    rintro e w2 ⟨A2, c2, rfl, o2, b2⟩
    replace k1 := k1.new_ b2
    replace q1 := q1.new b2
    replace hB := bthen hB b2
    have z0 : w2.cell? ⟨w1.heap.size, 0, none⟩ = some (.int .i64 n.who) := k1.cell 0
    have z1 : w2.cell? ⟨w1.heap.size, 1, none⟩ = some (.int .i64 n.num) := k1.cell 1
    go_wp2_with fail
    refine (takeNumber_spec A1 c1 xs n w2 q1 (by omega)).mono ?_
    rintro e w3 ⟨A3, c3, rfl, o3, b3⟩
    replace k1 := k1.new_ b3
    replace q1 := q1.new b3
    replace hB := bthen hB b3
    have o4 := own_new o2 b3
    have hle : (tnL xs n).length ≤ 4 := by
      cases hx : countersB xs
      · rw [(tn_no hx).1]; simp
      · rw [(tn_yes hx).1, takeL_len]; exact hxl
    go_wp2_with fail
    refine (sameInts_any A2 A3 c2 c3 _ _ w3 (own_rd o4) (own_rd o3) (by omega)).mono ?_
    rintro e w' ⟨rfl, m, rfl⟩
    replace hB := below_drewN hB m
    replace k1 : Blk (w3.drewN m) w1.heap.size 28 #[.int .i64 n.who, .int .i64 n.num] := k1
    have R1 : Rd (w3.drewN m) A1 (xs.map (.int .i64)) := q1
    have R2 : Rd (w3.drewN m) A2 ((tnL xs n).map (.int .i64)) := own_rd o4
    clear z0 z1 q1 o2 o3 o4 b1 b2 b3 r1
    generalize w3.drewN m = w4 at *
    clear w3 w2
    have HR1 := hide R1
    have HB := hide hB
    clear hB
    cases hx : countersB xs
    · have HN := hide (tn_no (n := n) hx)
      clear hx
      rw [(unhide HN).1] at R2
      rw [(unhide HN).1, (unhide HN).2]
      go_wp2_with fail
      refine (sameInts_any A2 A1 c2 c1 [] xs w4 R2 (unhide HR1) (by simp)).mono ?_
      rintro e w' ⟨rfl, m, rfl⟩
      have hB := below_drewN (unhide HB) m
      cases decide (([] : List Int) = xs)
      all_goals
        go_wp2_with fail
        refine (alive_any _).mono ?_
        rintro e w5 ⟨rfl, b5⟩
        go_wp2
        go_ret
        exact ⟨rfl, bthen hB b5⟩
    · have HY := hide (tn_yes (n := n) hx)
      have HX := hide hx
      cases ht : takeOk xs n
      · have HT := hide (show takeL xs n = xs by unfold takeL; rw [if_neg (by simp [ht])])
        have HT2 := hide ht
        clear hx ht
        rw [(unhide HY).1, unhide HT] at R2
        rw [(unhide HY).1, (unhide HY).2, unhide HT, unhide HT2]
        go_wp2_with fail
        refine (sameInts_any A2 A1 c2 c1 xs xs w4 R2 (unhide HR1) (by omega)).mono ?_
        rintro e w' ⟨rfl, m, rfl⟩
        have hB := below_drewN (unhide HB) m
        go_wp2_with fail
        refine (alive_any _).mono ?_
        rintro e w5 ⟨rfl, b5⟩
        go_wp2
        go_ret
        exact ⟨rfl, bthen hB b5⟩
      · have HA := hide (tn_again hx ht)
        have hn2 := (take_yes hx ht).1
        have hn3 := (take_yes hx ht).2.1
        have HL4 := hide ((takeL_len xs n).trans (len4 hx))
        have HCV := hide (takeL_ok n hx)
        have HT2 := hide ht
        clear hx ht
        rw [(unhide HY).1] at R2 hle
        rw [(unhide HY).1, (unhide HY).2, unhide HT2]
        generalize takeL xs n = zs at *
        rw [unhide HL4]
        have z0 : w4.cell? ⟨w1.heap.size, 0, none⟩ = some (.int .i64 n.who) := k1.cell 0
        have z1 : w4.cell? ⟨w1.heap.size, 1, none⟩ = some (.int .i64 n.num) := k1.cell 1
        go_wp2_with fail
        have K := takeNumber_impl A2 c2 zs n w4 R2 (by omega)
        rw [(unhide HA).1, (unhide HA).2.1, unhide HL4] at K
        refine K.mono ?_
        clear K
        rintro e w5 ⟨A5, c5, rfl, o5, b5⟩
        have k5 := k1.new_ b5
        have R5 := R2.new b5
        have y0 : w5.cell? ⟨w1.heap.size, 0, none⟩ = some (.int .i64 n.who) := k5.cell 0
        have y1 : w5.cell? ⟨w1.heap.size, 1, none⟩ = some (.int .i64 n.num) := k5.cell 1
        clear z0 z1
        go_wp2_with fail
        have K := takeNumber_impl A2 c2 zs ⟨n.who, n.num + 1⟩ w5 R5 (by omega)
        rw [(unhide HA).2.2, unhide HL4] at K
        refine K.mono ?_
        clear K
        rintro e w6 ⟨A6, c6, rfl, o6, b6⟩
        have k6 := k5.new_ b6
        have R6 := R5.new b6
        have o7 := own_new o5 b6
        have x0 : w6.cell? ⟨w1.heap.size, 0, none⟩ = some (.int .i64 n.who) := k6.cell 0
        have x1 : w6.cell? ⟨w1.heap.size, 1, none⟩ = some (.int .i64 n.num) := k6.cell 1
        clear y0 y1
        have hB6 := bthen (bthen (unhide HB) b5) b6
        go_wp2_with fail
        have K := counters_impl A2 c2 zs w6 R6 (by omega)
        rw [unhide HCV, unhide HL4] at K
        refine K.mono ?_
        clear K
        rintro e w7 ⟨rfl, rfl⟩
        go_wp2_with fail
        have K := sameInts_any A5 A2 c5 c2 zs zs w6 (own_rd o7) R6 (by omega)
        rw [unhide HL4] at K
        refine K.mono ?_
        clear K
        rintro e w8 ⟨rfl, m, rfl⟩
        cases hq : (n.num + 1 == 1000000)
        all_goals
          go_wp2
          go_ret
          exact ⟨rfl, below_drewN hB6 m⟩
def sum4 (xs : List Int) : Int := xs.getD 0 0 + xs.getD 1 0 + xs.getD 2 0 + xs.getD 3 0
def cntT (bs : List Bool) : Int := (bs.filter id).length
theorem cntT_snoc (bs : List Bool) (b : Bool) : cntT (bs ++ [b]) = cntT bs + if b then 1 else 0 := by cases b <;> simp [cntT]
theorem cntT_bd (bs : List Bool) : 0 ≤ cntT bs ∧ cntT bs ≤ bs.length := by
  unfold cntT
  have := List.length_filter_le id bs
  omega
theorem sum4_take {xs : List Int} {n : Nbd} (h : countersB xs = true) : sum4 (takeL xs n) = sum4 xs + if takeOk xs n then 1 else 0 := by
  cases ht : takeOk xs n
  · rw [takeL_no ht]; simp
  · have h' := ht
    unfold takeOk at h'
    simp only [Bool.and_eq_true, beq_iff_eq, bne_iff_ne, ne_eq] at h'
    obtain ⟨h1, h2, _⟩ := h'
    obtain ⟨m1, m2⟩ := inB_true.1 h1
    have h4 := len4 h
    unfold takeL
    rw [if_pos ht]
    match xs, h4 with
    | [a, b, c, d], _ =>
      have : n.who.toNat = 0 ∨ n.who.toNat = 1 ∨ n.who.toNat = 2 ∨ n.who.toNat = 3 := by omega
      rcases this with e | e | e | e <;> rw [e] at h2 ⊢ <;> simp [sum4] at h2 ⊢ <;> omega
theorem sum4_tk {xs : List Int} (ns : List Nbd) (h : countersB xs = true) : sum4 (tkL xs ns) = sum4 xs + cntT (tkB xs ns) := by
  induction ns generalizing xs with
  | nil => simp [tkL, tkB, cntT]
  | cons n ns ih =>
    show sum4 (tkL (takeL xs n) ns) = sum4 xs + cntT (takeOk xs n :: tkB (takeL xs n) ns)
    rw [ih (takeL_ok n h), sum4_take h]
    cases takeOk xs n <;> simp [cntT] <;> omega
theorem tkL_len' (xs : List Int) (ns : List Nbd) : (tkL xs ns).length = xs.length := by
  induction ns generalizing xs with
  | nil => rfl
  | cons m ns ih => exact (ih (takeL xs m)).trans (takeL_len xs m)
theorem take_flat {α : Type} (f : α → List Value) (s : Nat) (hf : ∀ x, (f x).length = s) (xs : List α) (k : Nat) : (xs.flatMap f).take (k * s) = (xs.take k).flatMap f := by
  induction xs generalizing k with
  | nil => simp
  | cons x xs ih =>
    cases k with
    | zero => simp
    | succ k =>
      rw [List.flatMap_cons, List.take_append, hf, List.take_of_length_le (by rw [hf, Nat.add_mul]; omega)]
      rw [show (k + 1) * s - s = k * s by rw [Nat.add_mul]; omega, ih k]
      rfl
theorem drop_flat {α : Type} (f : α → List Value) (s : Nat) (hf : ∀ x, (f x).length = s) (xs : List α) (k : Nat) : (xs.flatMap f).drop (k * s) = (xs.drop k).flatMap f := by
  induction xs generalizing k with
  | nil => simp
  | cons x xs ih =>
    cases k with
    | zero => simp
    | succ k =>
      rw [List.flatMap_cons, List.drop_append, hf, List.drop_of_length_le (by rw [hf, Nat.add_mul]; omega)]
      rw [show (k + 1) * s - s = k * s by rw [Nat.add_mul]; omega, ih k]
      rfl
def dif (xs zs : List Int) : Nat → Int
  | 0 => 0
  | k + 1 => dif xs zs k + xs.getD k 0 - zs.getD k 0
theorem dif_4 (xs zs : List Int) : dif xs zs 4 = sum4 xs - sum4 zs := by simp only [dif, sum4]; omega
theorem dif_bd {xs zs : List Int} (hx : ∀ x ∈ xs, 0 ≤ x ∧ x ≤ 1000000) (hz : ∀ x ∈ zs, 0 ≤ x ∧ x ≤ 1000000) (k : Nat) : -(k * 1000000 : Int) ≤ dif xs zs k ∧ dif xs zs k ≤ k * 1000000 := by
  induction k with
  | zero => simp [dif]
  | succ k ih =>
    have bd : ∀ ys : List Int, (∀ x ∈ ys, 0 ≤ x ∧ x ≤ 1000000) → 0 ≤ ys.getD k 0 ∧ ys.getD k 0 ≤ 1000000 := by
      intro ys hy
      rw [List.getD_eq_getElem?_getD]
      rcases hj : ys[k]? with _ | y
      · simp
      · exact hy y (List.mem_of_getElem? hj)
    have h1 := bd xs hx
    have h2 := bd zs hz
    unfold dif
    omega
theorem Rd.intD {w : World} {A : Option Addr} {zs : List Int} (h : Rd w A (zs.map (Value.int .i64))) {k : Nat} (hk : k < zs.length) :
    ∃ b off, A = some ⟨b, off, none⟩ ∧ b < w.heap.size ∧ ∀ k, k < zs.length → w.cell? ⟨b, off + k, none⟩ = some (.int .i64 (zs.getD k 0)) := by
  obtain ⟨b, off, rfl, hb, hc⟩ := h (by simp; omega)
  exact ⟨b, off, rfl, hb, fun k hk => hc k _ (by simp [hk])⟩

set_option maxHeartbeats 4000000 in
theorem law_FnTakeNumbers (A : Option Addr) (c : Nat) (bs : List Int) (w : World) (h : Rd w A (bs.map (.int .u8))) (hw : ∀ b ∈ bs, 0 ≤ b ∧ b ≤ 255) (hc : bs.length ≤ c) (hm : c ≤ maxLen) :
    Calls Try.prog 6 #[.slice A bs.length c] w fun e w' => e = .returned (.bool true) ∧ Below w.heap.size w w' := by
  have hm2 : bs.length ≤ 9223372036854775807 := by simp only [maxLen] at hm; omega
  by_cases hl : (1048576 : Int) < (bs.length : Int)
  · clear hw
    go_enter Try.func6, Try.ntmps6
    go_wp2
    go_ret
    exact ⟨rfl, Below.refl _ _⟩
  · have HW := hide hw
    have HC := hide hc
    have HM := hide hm
    clear hw hc hm
    go_enter Try.func6, Try.ntmps6
    go_wp2_with fail
    refine (drawTakes_any A c bs w h (unhide HW) (unhide HC) (unhide HM)).mono ?_
    rintro e w1 ⟨A1, c1, N1, e1, xs, ns, hxl, hnl, hne, hem, hnf, rfl, r1, rn, b1⟩
    go_wp2_with fail
    refine (takeNumbers_impl A1 N1 c1 e1 xs ns w1 r1 rn (by omega) (by omega)).mono ?_
    rintro e w2 ⟨A2, c2, B2, d2, rfl, o2, p2, _, b2⟩
    have hB := bthen b1 b2
    replace r1 := r1.new b2
    replace rn := rn.new b2
    go_wp2_with fail
    refine (takeNumbers_spec A1 N1 c1 e1 xs ns w2 r1 rn (by omega) (by omega)).mono ?_
    rintro e w3 ⟨A3, c3, B3, d3, rfl, o3, p3, _, b3⟩
    replace hB := bthen hB b3
    replace r1 := r1.new b3
    replace rn := rn.new b3
    have o4 := own_new o2 b3
    have p4 := own_new p2 b3
    have hle : (tnsL xs ns).length ≤ 4 := by
      cases hx : tnsOk xs ns
      · rw [(tns_no hx).1]; simp
      · rw [(tns_yes hx).1]
        unfold tnsOk at hx
        rw [Bool.and_eq_true] at hx
        rw [len4 (tkL_ok ns hx.1)]; omega
    go_wp2_with fail
    refine (sameInts_any A2 A3 c2 c3 _ _ w3 (own_rd o4) (own_rd o3) (by omega)).mono ?_
    rintro e w' ⟨rfl, m, rfl⟩
    replace hB := below_drewN hB m
    have R1 : Rd (w3.drewN m) A1 (xs.map (.int .i64)) := r1
    have RN : Rd (w3.drewN m) N1 (ns.flatMap encN) := rn
    have R2 : Rd (w3.drewN m) A2 ((tnsL xs ns).map (.int .i64)) := own_rd o4
    have P2 : Rd (w3.drewN m) B2 ((tnsB xs ns).map .bool) := own_rd p4
    have P3 : Rd (w3.drewN m) B3 ((tnsB xs ns).map .bool) := own_rd p3
    clear o2 o3 o4 p2 p3 p4 b1 b2 b3 r1 rn
    generalize w3.drewN m = w4 at *
    clear w3 w2
    cases hx : tnsOk xs ns
    · have HN := hide (tns_no hx)
      clear hx
      rw [(unhide HN).1, (unhide HN).2]
      go_wp2
      go_loop [9, 10] (fun a i => i = .int .i64 0 ∧ a = .int .i64 0) (fun _ _ => 0)
      case atStart => exact ⟨rfl, rfl⟩
      case round =>
        obtain ⟨rfl, rfl⟩ := hrel
        go_wp2_with fail
        refine (alive_any _).mono ?_
        rintro e w5 ⟨rfl, b5⟩
        go_wp2
        go_ret
        exact ⟨rfl, bthen hB b5⟩
    · have HY := hide (tns_yes hx)
      have hx' := hx
      unfold tnsOk at hx'
      rw [Bool.and_eq_true, decide_eq_true_eq] at hx'
      have HX := hide hx'.1
      have hl40 := hx'.2
      have H4 := hide (len4 hx'.1)
      have hx4 : 4 ≤ xs.length := by have := len4 hx'.1; omega
      have HZ4 := hide (len4 (tkL_ok ns hx'.1))
      have HSUM := hide (sum4_tk ns hx'.1)
      have HB1 := hide (counters_yes hx'.1).2
      have HB2 := hide (counters_yes (tkL_ok ns hx'.1)).2
      have HM4 := hide (tkB_len xs ns)
      clear hx hx' hle
      rw [(unhide HY).1] at R2
      rw [(unhide HY).2] at P2 P3
      rw [(unhide HY).1, (unhide HY).2]
      -- the second call's parts
      have HT := hide (fun k => show tkL (tkL xs (ns.take k)) (ns.drop k) = tkL xs ns by rw [← tkL_append, List.take_append_drop])
      have HTK := hide (fun k => tkL_ok (ns.take k) (unhide HX))
      generalize hzs : tkL xs ns = zs at *
      generalize hms : tkB xs ns = ms at *
      clear hms
      have HZS := hide hzs
      clear hzs
      rw [unhide HZ4, unhide HM4]
      have hms1 : ms.length ≤ 40 := by rw [unhide HM4]; exact hl40
      go_wp2
      go_loopw [9, 10] (fun a i wr => ∃ k : Nat, k ≤ ns.length ∧ i = .int .i64 k ∧ a = .int .i64 (cntT (ms.take k)) ∧ ∃ m, wr = w4.drewN m) (fun _ i _ => ns.length - (intOf i).toNat)
      case atStart => exact ⟨0, by omega, rfl, rfl, 0, rfl⟩
      case round =>
        obtain ⟨k, hk, rfl, rfl, m, rfl⟩ := hrel
        by_cases hlt : k < ns.length
        · have hlt' : k < ms.length := by rw [unhide HM4]; exact hlt
          obtain ⟨q2, f2, rfl, hq2, hc2⟩ := P2.boo hlt'
          obtain ⟨q3, f3, rfl, hq3, hc3⟩ := P3.boo hlt'
          have HS := hide (show cntT (ms.take (k + 1)) = cntT (ms.take k) + if ms[k] then 1 else 0 by rw [List.take_succ_eq_append_getElem hlt', cntT_snoc])
          obtain ⟨a0, a1⟩ := cntT_bd (ms.take k)
          have a2 : cntT (ms.take k) ≤ 40 := by have : (ms.take k).length ≤ ms.length := List.length_take_le' _ _; omega
          clear a1
          generalize cntT (ms.take k) = t at *
          generalize ms[k] = b at *
          have i1 : (k : Int) < (ns.length : Int) := by omega
          have f1' : (!b == b) = false := by cases b <;> rfl
          have f2' : (b != b) = false := by cases b <;> rfl
          cases b
          · go_wp2
            go_quiet (fail)
            go_wp2
            go_roundw
            case rel => exact ⟨k + 1, by omega, by go_num, by rw [unhide HS]; simp, _, rfl⟩
            case measure => simp [intOf]; omega
          · go_wp2
            go_quiet (fail)
            go_wp2
            go_roundw
            case rel => exact ⟨k + 1, by omega, by go_num, by rw [unhide HS]; simp, _, rfl⟩
            case measure => simp [intOf]; omega
        · obtain rfl : k = ns.length := by omega
          have HE := hide (show ms.take ns.length = ms from List.take_of_length_le (by rw [unhide HM4]; omega))
          rw [unhide HE]
          obtain ⟨a0, a1⟩ := cntT_bd ms
          have a2 : cntT ms ≤ 40 := by omega
          clear a1
          obtain ⟨g1, f1, rfl, hg1, hc1⟩ := R1.intD (k := 0) (by omega)
          obtain ⟨g2, f2, rfl, hg2, hc2⟩ := R2.intD (k := 0) (by rw [unhide HZ4]; omega)
          have HC1 := hide hc1
          have HC2 := hide hc2
          have HR1 := hide R1
          have HR2 := hide R2
          clear hc1 hc2 R1 R2
          generalize cntT ms = t at *
          rw [unhide H4]
          have HCV := hide (show t + dif xs zs 4 = 0 by rw [dif_4]; have := unhide HSUM; omega)
          obtain ⟨w5, hw5⟩ : ∃ z, z = w4.drewN m := ⟨_, rfl⟩
          rw [← hw5]
          have HW5 := hide hw5
          clear hw5
          have hB5 : Below w.heap.size w w5 := by rw [unhide HW5]; exact below_drewN hB m
          have RN5 : Rd w5 N1 (ns.flatMap encN) := by rw [unhide HW5]; exact RN
          have HC15 := hide (show ∀ k, k < xs.length → w5.cell? ⟨g1, f1 + k, none⟩ = some (.int .i64 (xs.getD k 0)) by rw [unhide HW5]; exact unhide HC1)
          have HC25 := hide (show ∀ k, k < zs.length → w5.cell? ⟨g2, f2 + k, none⟩ = some (.int .i64 (zs.getD k 0)) by rw [unhide HW5]; exact unhide HC2)
          have HR15 := hide (show Rd w5 (some ⟨g1, f1, none⟩) (xs.map (.int .i64)) by rw [unhide HW5]; exact unhide HR1)
          have HR25 := hide (show Rd w5 (some ⟨g2, f2, none⟩) (zs.map (.int .i64)) by rw [unhide HW5]; exact unhide HR2)
          clear HC1 HC2 HR1 HR2 HW5 hB RN P2 P3 hg1 hg2
          have HDB := hide (fun k => dif_bd (unhide HB1) (unhide HB2) k)
          go_wp2
          go_loopw [9, 11] (fun a i wr => ∃ k : Nat, k ≤ 4 ∧ i = .int .i64 k ∧ a = .int .i64 (t + dif xs zs k) ∧ ∃ m, wr = w5.drewN m) (fun _ i _ => 4 - (intOf i).toNat)
          case atStart => exact ⟨0, by omega, rfl, by simp [dif], 0, rfl⟩
          case round =>
            obtain ⟨k, hk, rfl, rfl, m2, rfl⟩ := hrel
            by_cases hlk : k < 4
            · have ck1 := unhide HC15 k (by omega)
              have ck2 := unhide HC25 k (by rw [unhide HZ4]; omega)
              obtain ⟨d0, d1⟩ := unhide HDB k
              have HD := hide (show dif xs zs (k + 1) = dif xs zs k + xs.getD k 0 - zs.getD k 0 from rfl)
              have bd : ∀ ys : List Int, (∀ x ∈ ys, 0 ≤ x ∧ x ≤ 1000000) → 0 ≤ ys.getD k 0 ∧ ys.getD k 0 ≤ 1000000 := by
                intro ys hy
                rw [List.getD_eq_getElem?_getD]
                rcases hj : ys[k]? with _ | y
                · simp
                · exact hy y (List.mem_of_getElem? hj)
              obtain ⟨x0, x1⟩ := bd xs (unhide HB1)
              obtain ⟨y0, y1⟩ := bd zs (unhide HB2)
              clear bd
              generalize xs.getD k 0 = x at *
              generalize zs.getD k 0 = y at *
              generalize dif xs zs k = dd at *
              have i1 : (k : Int) < (xs.length : Int) := by omega
              have i4 : (k : Int) < 4 := by omega
              have e1' : IntKind.i64.wrap (t + dd + x) = t + dd + x := Go.IntWalk.i64_in _ (by omega)
              have e2' : IntKind.i64.wrap (t + dd + x - y) = t + dd + x - y := Go.IntWalk.i64_in _ (by omega)
              go_wp2
              go_quiet (fail)
              go_wp2
              go_roundw
              case rel => exact ⟨k + 1, by omega, by go_num, by rw [unhide HD]; congr 1; omega, _, rfl⟩
              case measure => simp [intOf]; omega
            · obtain rfl : k = 4 := by omega
              rw [unhide HCV]
              have hB6 := below_drewN hB5 m2
              have RN6 : Rd (w5.drewN m2) N1 (ns.flatMap encN) := RN5
              have HR16 := hide (show Rd (w5.drewN m2) (some ⟨g1, f1, none⟩) (xs.map (.int .i64)) from unhide HR15)
              have HR26 := hide (show Rd (w5.drewN m2) (some ⟨g2, f2, none⟩) (zs.map (.int .i64)) from unhide HR25)
              generalize w5.drewN m2 = w6 at *
              clear HC15 HC25 HR15 HR25 hB5 RN5 HDB
              have HK1 := hide (show ∀ k, tnsL xs (ns.take k) = tkL xs (ns.take k) from fun k => (tns_yes (show tnsOk xs (ns.take k) = true by
                unfold tnsOk
                rw [unhide HX, Bool.true_and, decide_eq_true_eq]
                have : (ns.take k).length ≤ ns.length := List.length_take_le' _ _
                omega)).1)
              have HK2 := hide (show ∀ k, tnsL (tkL xs (ns.take k)) (ns.drop k) = zs from fun k => ((tns_yes (show tnsOk (tkL xs (ns.take k)) (ns.drop k) = true by
                unfold tnsOk
                rw [unhide HTK k, Bool.true_and, decide_eq_true_eq]
                simp
                omega)).1).trans (unhide HT k))
              by_cases hn0 : ns.length = 0
              · obtain rfl : ns = [] := List.eq_nil_of_length_eq_zero hn0
                have HX0 := hide (show tnsL xs [] = xs from unhide HK1 0)
                have HZ0 := hide (show tnsL xs [] = zs from unhide HK2 0)
                have hc1b : xs.length ≤ 4 := hxl
                rcases hnf with ⟨rfl, rfl⟩ | ⟨gn, rfl⟩
                · go_wp2_with fail
                  have K := takeNumbers_impl (some ⟨g1, f1, none⟩) none c1 0 xs [] w6 (unhide HR16) (Rd.nil _ _) (by omega) (by simp)
                  rw [unhide HX0, unhide H4] at K
                  simp only [List.length_nil] at K
                  refine K.mono ?_
                  clear K
                  rintro e w7 ⟨A7, c7, B7, d7, rfl, o7, _, _, b7⟩
                  have hB7 := bthen hB6 b7
                  have R27 := (unhide HR26).new b7
                  go_wp2_with fail
                  have K := takeNumbers_impl A7 none c7 0 xs [] w7 (own_rd o7) (Rd.nil _ _) (by omega) (by simp)
                  rw [unhide HZ0, unhide H4, unhide HZ4] at K
                  simp only [List.length_nil] at K
                  refine K.mono ?_
                  clear K
                  rintro e w8 ⟨A8, c8, B8, d8, rfl, o8, _, _, b8⟩
                  have hB8 := bthen hB7 b8
                  have R28 := R27.new b8
                  go_wp2_with fail
                  have K := sameInts_any A8 (some ⟨g2, f2, none⟩) c8 c2 zs zs w8 (own_rd o8) R28 (by rw [unhide HZ4]; omega)
                  rw [unhide HZ4] at K
                  refine K.mono ?_
                  clear K
                  rintro e w9 ⟨rfl, m3, rfl⟩
                  go_wp2
                  go_ret
                  exact ⟨rfl, below_drewN hB8 m3⟩
                · by_cases he0 : e1 = 0
                  · subst he0
                    go_wp2_with fail
                    have K := takeNumbers_impl (some ⟨g1, f1, none⟩) (some ⟨gn, 0, none⟩) c1 0 xs [] w6 (unhide HR16) (Rd.nil _ _) (by omega) (by simp)
                    rw [unhide HX0, unhide H4] at K
                    simp only [List.length_nil] at K
                    refine K.mono ?_
                    clear K
                    rintro e w7 ⟨A7, c7, B7, d7, rfl, o7, _, _, b7⟩
                    have hB7 := bthen hB6 b7
                    have R27 := (unhide HR26).new b7
                    go_wp2_with fail
                    have K := takeNumbers_impl A7 (some ⟨gn, 0, none⟩) c7 0 xs [] w7 (own_rd o7) (Rd.nil _ _) (by omega) (by simp)
                    rw [unhide HZ0, unhide H4, unhide HZ4] at K
                    simp only [List.length_nil] at K
                    refine K.mono ?_
                    clear K
                    rintro e w8 ⟨A8, c8, B8, d8, rfl, o8, _, _, b8⟩
                    have hB8 := bthen hB7 b8
                    have R28 := R27.new b8
                    go_wp2_with fail
                    have K := sameInts_any A8 (some ⟨g2, f2, none⟩) c8 c2 zs zs w8 (own_rd o8) R28 (by rw [unhide HZ4]; omega)
                    rw [unhide HZ4] at K
                    refine K.mono ?_
                    clear K
                    rintro e w9 ⟨rfl, m3, rfl⟩
                    go_wp2
                    go_ret
                    exact ⟨rfl, below_drewN hB8 m3⟩
                  · go_wp2_with fail
                    have K := takeNumbers_impl (some ⟨g1, f1, none⟩) (some ⟨gn, 0, none⟩) c1 e1 xs [] w6 (unhide HR16) (Rd.nil _ _) (by omega) (by simp)
                    rw [unhide HX0, unhide H4] at K
                    simp only [List.length_nil] at K
                    refine K.mono ?_
                    clear K
                    rintro e w7 ⟨A7, c7, B7, d7, rfl, o7, _, _, b7⟩
                    have hB7 := bthen hB6 b7
                    have R27 := (unhide HR26).new b7
                    go_wp2_with fail
                    have K := takeNumbers_impl A7 (some ⟨gn, 0, none⟩) c7 e1 xs [] w7 (own_rd o7) (Rd.nil _ _) (by omega) (by simp)
                    rw [unhide HZ0, unhide H4, unhide HZ4] at K
                    simp only [List.length_nil] at K
                    refine K.mono ?_
                    clear K
                    rintro e w8 ⟨A8, c8, B8, d8, rfl, o8, _, _, b8⟩
                    have hB8 := bthen hB7 b8
                    have R28 := R27.new b8
                    go_wp2_with fail
                    have K := sameInts_any A8 (some ⟨g2, f2, none⟩) c8 c2 zs zs w8 (own_rd o8) R28 (by rw [unhide HZ4]; omega)
                    rw [unhide HZ4] at K
                    refine K.mono ?_
                    clear K
                    rintro e w9 ⟨rfl, m3, rfl⟩
                    go_wp2
                    go_ret
                    exact ⟨rfl, below_drewN hB8 m3⟩
              · obtain ⟨gn, fn, rfl, hgn, -⟩ := RN6 (by rw [length_flat encN 2 encN_len]; omega)
                have hq2 : (ns.length : Int) / 2 = ((ns.length / 2 : Nat) : Int) := by omega
                have hle1 : ns.length / 2 ≤ ns.length := by omega
                have hle2 : ns.length / 2 < ns.length := by omega
                have HL1 := hide (show (ns.take (ns.length / 2)).length = ns.length / 2 by simp; omega)
                have HL2 := hide (show (ns.drop (ns.length / 2)).length = ns.length - ns.length / 2 by simp)
                have T1 : Rd w6 (some ⟨gn, fn, none⟩) ((ns.take (ns.length / 2)).flatMap encN) := by rw [← take_flat encN 2 encN_len]; exact RN6.take _
                have T2 : Rd w6 (some ⟨gn, fn + ns.length / 2 * 2, none⟩) ((ns.drop (ns.length / 2)).flatMap encN) := by rw [← drop_flat encN 2 encN_len]; exact RN6.drop _
                have HKA := hide (unhide HK1 (ns.length / 2))
                have HKB := hide (unhide HK2 (ns.length / 2))
                clear HK1 HK2
                generalize ns.take (ns.length / 2) = n1 at *
                generalize ns.drop (ns.length / 2) = n2 at *
                generalize ns.length / 2 = q at *
                have i1 : (q : Int) ≤ (ns.length : Int) := by omega
                have i2 : (q : Int) ≤ (e1 : Int) := by omega
                have i3 : (ns.length : Int) ≤ (e1 : Int) := by omega
                have i4 : ¬ e1 = q := by omega
                go_wp2_with fail
                have K := takeNumbers_impl (some ⟨g1, f1, none⟩) (some ⟨gn, fn, none⟩) c1 e1 xs n1 w6 (unhide HR16) T1 (by omega) (by rw [unhide HL1]; omega)
                rw [unhide HL1, unhide HKA, unhide H4] at K
                refine K.mono ?_
                clear K
                rintro e w7 ⟨A7, c7, B7, d7, rfl, o7, _, _, b7⟩
                have hB7 := bthen hB6 b7
                have R27 := (unhide HR26).new b7
                have T27 := T2.new b7
                have HLA := hide (show (tkL xs n1).length ≤ 4 by rw [tkL_len']; exact hxl)
                generalize tkL xs n1 = ks at *
                go_wp2_with fail
                have K := takeNumbers_impl A7 (some ⟨gn, fn + q * 2, none⟩) c7 (e1 - q) ks n2 w7 (own_rd o7) T27 (by have := unhide HLA; omega) (by rw [unhide HL2]; omega)
                rw [unhide HL2, unhide HKB] at K
                refine K.mono ?_
                clear K
                rintro e w8 ⟨A8, c8, B8, d8, rfl, o8, _, _, b8⟩
                have hB8 := bthen hB7 b8
                have R28 := R27.new b8
                go_wp2_with fail
                have K := sameInts_any A8 (some ⟨g2, f2, none⟩) c8 c2 zs zs w8 (own_rd o8) R28 (by rw [unhide HZ4]; omega)
                rw [unhide HZ4] at K
                rw [unhide HZ4]
                refine K.mono ?_
                clear K
                rintro e w9 ⟨rfl, m3, rfl⟩
                go_wp2
                go_ret
                exact ⟨rfl, below_drewN hB8 m3⟩
end Go.Proofs.Ythddcinpacaacaa
