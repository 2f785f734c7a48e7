/- The law FnFirstWrong (printed by gen_lawsx.py from lawsx.in). -/
import Derived.Test.YtiaodcjocogkkaaDrawEf
import Derived.Test.YtiaodcjocogkkaaSameE
import Derived.Test.YtiaodcjocogkkaaRunFw
import Derived.Test.YtiaodcjocogkkaaLocB
import Derived.Test.YtiaodcjocogkkaaSums
namespace Go.Proofs.Ytiaodcjocogkkaa
open Go.RowKit
set_option linter.unusedVariables false
set_option linter.unusedSimpArgs false

theorem fwGo_spec (es ws : List Eff) (n : Nat) (hl : es.length = ws.length) : ∃ k, fwGo n es ws = n + k ∧ k ≤ es.length ∧ (∀ j (h1 : j < es.length) (h2 : j < ws.length), j < k → es[j] = ws[j]) ∧ (∀ (h1 : k < es.length) (h2 : k < ws.length), es[k] ≠ ws[k]) := by
  induction es generalizing n ws with
  | nil =>
    cases ws with
    | nil => exact ⟨0, rfl, Nat.le_refl _, fun j h1 => absurd h1 (by simp), fun h1 => absurd h1 (by simp)⟩
    | cons y ys => simp at hl
  | cons x xs ih =>
    cases ws with
    | nil => simp at hl
    | cons y ys =>
      by_cases hxy : x = y
      · obtain ⟨k, h1, h2, h3, h4⟩ := ih ys (n + 1) (by simpa using hl)
        refine ⟨k + 1, by rw [fwGo, if_pos hxy, h1]; omega, by simpa using h2, fun j g1 g2 hj => ?_, fun g1 g2 => ?_⟩
        · cases j with
          | zero => simpa using hxy
          | succ j => simpa using h3 j (by simpa using g1) (by simpa using g2) (by omega)
        · simpa using h4 (by simpa using g1) (by simpa using g2)
      · exact ⟨0, by rw [fwGo, if_neg hxy]; rfl, Nat.zero_le _, fun j _ _ hj => absurd hj (by omega), fun _ _ => by simpa using hxy⟩
theorem firstW_cases (s : List Ent) (al : List Act) (es : List Eff) : firstW s al es = -1 ∨ ∃ k : Nat, firstW s al es = (k : Int) ∧ k ≤ al.length ∧ es.length = al.length ∧ (serialE s al).length = al.length ∧ firstW s al (serialE s al) = (al.length : Int) ∧ (∀ j (h1 : j < es.length) (h2 : j < (serialE s al).length), j < k → es[j] = (serialE s al)[j]) ∧ (∀ (h1 : k < es.length) (h2 : k < (serialE s al).length), es[k] ≠ (serialE s al)[k]) := by
  by_cases h : storeB s = true ∧ actsB al = true ∧ es.length = al.length
  · obtain ⟨hs, ha, hl⟩ := h
    have hsl : (serialE s al).length = al.length := by unfold serialE; rw [if_pos ⟨hs, ha⟩, runAllE_len]
    obtain ⟨k, h1, h2, h3, h4⟩ := fwGo_spec es (serialE s al) 0 (by omega)
    refine Or.inr ⟨k, ?_, by omega, hl, hsl, ?_, h3, h4⟩
    · unfold firstW
      rw [if_pos ⟨hs, ha, hl⟩, h1]
      simp
    · unfold firstW
      rw [if_pos ⟨hs, ha, hsl⟩, fwGo_all 0 rfl (fun _ _ _ => rfl), hsl]
      simp
  · exact Or.inl (by unfold firstW; rw [if_neg h])
set_option maxRecDepth 100000 in
set_option maxHeartbeats 4000000 in
theorem law_FnFirstWrong (A : Option Addr) (c : Nat) (bs : List Int) (w : World) (h : Rd w A (bs.map (.int .u8))) (hw : ∀ b ∈ bs, 0 ≤ b ∧ b ≤ 255) (hc : bs.length ≤ c) (hm : c ≤ maxLen) :
    Calls Try.prog 8 #[.slice A bs.length c] w fun e w' => e = .returned (.bool true) ∧ Below w.heap.size w w' := by
  have hm2 : bs.length ≤ 9223372036854775807 := by simp only [maxLen] at hm; omega
  by_cases hl : (1048576 : Int) < (bs.length : Int)
  · clear hw
    go_enter Try.func8, Try.ntmps8
    go_wp2
    go_ret
    exact ⟨rfl, Below.refl _ _⟩
  have HW := hide hw
  have HC := hide hc
  have HM := hide hm
  clear hw hc hm
  go_enter Try.func8, Try.ntmps8
  go_wp2_with fail
  refine (DrawFirstWrong_any A c bs w h (unhide HW) (unhide HC) (unhide HM)).mono ?_
  rintro e w1 ⟨A1, c1, s, A2, c2, al, A3, c3, es, hl1, hl2, hl3, hsm, hcc, rfl, r1, r2, r3, hB⟩
  have HBS := hide (fun x (hx : x ∈ es) => show x.reads.length ≤ 1048576 ∧ x.writes.length ≤ 1048576 by have := hsm x hx; omega)
  clear hsm hcc
  go_wp2_with fail
  refine (firstWrong_impl A1 c1 s A2 c2 al A3 c3 es _ w1 r1 (by omega) r2 (by omega) r3 (by omega) (unhide HBS)).mono ?_
  rintro e w2 ⟨rfl, b2⟩
  replace hB := bthen hB b2
  replace r1 := r1.new b2
  replace r2 := r2.new b2
  replace r3 := r3.new eff_good b2
  have HFC := hide (firstW_cases s al es)
  generalize hn : firstW s al es = n at *
  have HN := hide hn
  clear hn
  go_wp2_with fail
  refine (firstWrong_spec A1 c1 s A2 c2 al A3 c3 es _ w2 r1 (by omega) r2 (by omega) r3 (by omega) (unhide HBS)).mono ?_
  rintro e w3 ⟨rfl, b3⟩
  rw [unhide HN]
  replace hB := bthen hB b3
  replace r1 := r1.new b3
  replace r2 := r2.new b3
  replace r3 := r3.new eff_good b3
  clear b2 b3
  have hnn : (n != n) = false := by simp
  rcases unhide HFC with rfl | ⟨k, rfl, hk1, hk2, hk3, hk4, hk5, hk6⟩
  · clear HFC
    go_wp2_with fail
    refine (alive_any _).mono ?_
    rintro e w8 ⟨rfl, b8⟩
    go_wp2
    go_ret
    exact ⟨rfl, bthen hB b8⟩
  clear HFC
  have HK5 := hide hk5
  have HK6 := hide hk6
  have HK4 := hide hk4
  have HK2 := hide hk2
  have HK3 := hide hk3
  clear hk5 hk6 hk4 hk2 hk3
  have hneg : decide ((k : Int) < 0) = false := by simp
  go_wp2_with fail
  refine (runSerial_impl A1 c1 s A2 c2 al w3 r1 (by omega) r2 (by omega)).mono ?_
  rintro e w4 ⟨A4, c4, A5, c5, rfl, o4, hc5, r5, b4⟩
  clear o4 hc5
  have HWS := hide (fun x (hx : x ∈ serialE s al) => show x.reads.length ≤ 1048576 ∧ x.writes.length ≤ 1048576 by have := serialE_small s al x hx; omega)
  replace hB := bthen hB b4
  replace r1 := r1.new b4
  replace r2 := r2.new b4
  replace r3 := r3.new eff_good b4
  clear b4
  generalize serialE s al = ws at *
  generalize serialS s al = ss at *
  go_wp2
  go_loopw [9] (fun i wr => ∃ j : Nat, j ≤ k ∧ i = .int .i64 j ∧ Below w4.heap.size w4 wr) (fun i _ => k - (intOf i).toNat)
  case atStart => exact ⟨0, Nat.zero_le _, rfl, Below.refl _ _⟩
  case round =>
    obtain ⟨j, hj, rfl, hbel⟩ := hrel
    by_cases hlt : j < k
    · have h1 : j < es.length := by have := unhide HK2; omega
      have h2 : j < ws.length := by have := unhide HK3; omega
      have i0 : (j : Int) < (k : Int) := by omega
      have i1 : (j : Int) < (es.length : Int) := by omega
      have i2 : (j : Int) < (ws.length : Int) := by omega
      have HEQ := hide (unhide HK5 j h1 h2 hlt)
      obtain ⟨b, off, B1, d1, B2, d2, rfl, hbP, hbb, e0, e1, e2, -, -, q1, q2⟩ := (r3.new eff_good hbel).eff h1
      obtain ⟨b', off', E1, f1, E2, f2, rfl, hbP', hbb', g0, g1, g2, -, -, p1, p2⟩ := (r5.new eff_good hbel).eff h2
      obtain ⟨hx1, hx2⟩ := unhide HWS ws[j] (List.getElem_mem h2)
      generalize hxe : es[j] = x at *
      generalize hye : ws[j] = y at *
      have hbel2 := hbel.drew
      have K := hide (sameEffect_any y x E1 f1 E2 f2 B1 d1 B2 d2 wr.drew p1.rd.drew p2.rd.drew q1.rd.drew q2.rd.drew (by omega) (by omega))
      rw [show decide (y = x) = true by simp [unhide HEQ]] at K
      clear q1 q2 p1 p2 HEQ hxe hye
      go_wp2
      go_still_tail 8, (by kernel_rfl)
      change wpList _ _ _ _ _ wr.drew
      go_wp2_with fail
      refine (unhide K).mono ?_
      rintro e w6 ⟨rfl, b6⟩
      go_wp2
      go_roundw
      case rel => exact ⟨j + 1, by omega, by go_num, bthen hbel2 b6⟩
      case measure => simp [intOf]; omega
    · obtain rfl : k = j := by omega
      replace hB := bthen hB hbel
      replace r1 := r1.new hbel
      replace r2 := r2.new hbel
      replace r3 := r3.new eff_good hbel
      replace r5 := r5.new eff_good hbel
      have i0 : ¬ (k : Int) < (k : Int) := by omega
      have HFW := hide (unhide HK4)
      have i3 : (k : Int) ≤ (al.length : Int) := by omega
      by_cases hkl : k = al.length
      · have i4 : ((k : Int) == (al.length : Int)) = true := by simp [hkl]
        clear hkl HK6
        have hF : StBL [bV (.int .i64 (k : Int)), bV (.slice A2 al.length c2), bV (.int .i64 (al.length : Int)), bV (.bool true), bV (.bool true), bV (.slice A1 s.length c1), bV (.slice A2 al.length c2), bV (.slice A5 ws.length c5), bV (.int .i64 (al.length : Int)), bV (.slice A2 al.length c2), bV (.int .i64 (al.length : Int)), bV (.bool true), bV (.bool true), bV (.bool true), bV (.int .i64 (k : Int)), bV (.slice A2 al.length c2), bV (.int .i64 (al.length : Int)), bV (.bool true), bV (.bool true), bV (undef), bV (undef), bV (undef), bV (undef), bV (undef), bV (undef), bV (undef), bV (undef)] :=
          ⟨sb_V _, sb_V _, sb_V _, sb_V _, sb_V _, sb_V _, sb_V _, sb_V _, sb_V _, sb_V _, sb_V _, sb_V _, sb_V _, sb_V _, sb_V _, sb_V _, sb_V _, sb_V _, sb_V _, sb_V _, sb_V _, sb_V _, sb_V _, sb_V _, sb_V _, sb_V _, sb_V _, trivial⟩
        go_upto_region 15 with fail
        refine wp_region_loc (by kernel_rfl) [(0, some 63), (1, some 64), (2, some 65), (3, some 66), (4, some 67), (5, some 68), (6, some 69), (7, some 70), (8, some 71), (9, some 72), (10, some 73), (11, some 74), (12, some 75), (13, some 76), (14, some 77), (15, some 78), (16, some 79), (17, some 80), (18, some 81), (19, some 82), (20, some 83), (21, some 84), (22, some 85), (23, some 86), (24, some 87), (25, some 88), (26, some 89)] [[], [], [(1, some 64)], [(0, some 63), (2, some 65)], [(3, some 66)], [(4, some 67)], [(4, some 67)], [(4, some 67)], [(4, some 67), (5, some 68), (6, some 69), (7, some 70)], [(4, some 67)], [(4, some 67), (9, some 72)], [(4, some 67), (8, some 71), (10, some 73)], [(4, some 67), (11, some 74)], [(12, some 75)], [(13, some 76)], [(13, some 76)], [(13, some 76), (15, some 78)], [(13, some 76), (14, some 77), (16, some 79)], [(13, some 76), (17, some 80)], [(18, some 81)], [(18, some 81)], [(18, some 81), (19, some 82), (20, some 83)], [(18, some 81), (21, some 84)], [(18, some 81)], [(18, some 81)], [(18, some 81), (23, some 86), (24, some 87)], [(18, some 81), (25, some 88)]] (by kernel_rfl)
          (locB _) (fun a b => Below a.heap.size a b) noR [0, 0, 0, 0, 0, 0, 0, 0, 0, 0, 0, 0, 0, 0, 0, 0, 0, 0, 0, 0, 0, 0, 0, 0, 0, 0, 0] 0 (by kernel_rfl) (fun _ => Below.refl _ _) (fun _ _ _ => bthen) (locB_st hF _) trivial ?_ ?_
        · refine steps_cons ?s0 ( steps_cons ?s1 ( steps_cons ?s2 ( steps_cons ?s3 ( steps_cons ?s4 ( steps_cons ?s5 ( steps_cons ?s6 ( steps_cons ?s7 ( steps_cons ?s8 ( steps_cons ?s9 ( steps_cons ?s10 ( steps_cons ?s11 ( steps_cons ?s12 ( steps_cons ?s13 ( steps_cons ?s14 ( steps_cons ?s15 ( steps_cons ?s16 ( steps_cons ?s17 ( steps_cons ?s18 ( steps_cons ?s19 ( steps_cons ?s20 ( steps_cons ?s21 ( steps_cons ?s22 ( steps_cons ?s23 ( steps_cons ?s24 ( steps_cons ?s25 ( steps_cons ?s26 steps_nil))))))))))))))))))))))))))
          case s0 =>
            intro w' m hE hR
            intro Q hQ
            go_wp2
            exact hQ _ _ _ rfl rfl (Below.refl _ _) trivial
          case s1 =>
            intro w' m hE hR
            intro Q hQ
            go_wp2
            exact hQ _ _ _ rfl rfl (Below.refl _ _) trivial
          case s2 =>
            intro w' m hE hR
            rintro _ rfl Q hQ
            go_wp2
            exact hQ _ _ _ rfl rfl (Below.refl _ _) trivial
          case s3 =>
            intro w' m hE hR
            rintro _ rfl _ rfl Q hQ
            go_wp2
            exact hQ _ _ _ rfl rfl (Below.refl _ _) trivial
          case s4 =>
            intro w' m hE hR
            rintro _ rfl Q hQ
            go_wp2
            exact hQ _ _ _ rfl rfl (Below.refl _ _) trivial
          case s5 =>
            intro w' m hE hR
            rintro _ rfl Q hQ
            go_wp2
            exact hQ _ _ _ rfl rfl (Below.refl _ _) trivial
          case s6 =>
            intro w' m hE hR
            rintro _ rfl Q hQ
            go_wp2
            exact hQ _ _ _ rfl rfl (Below.refl _ _) trivial
          case s7 =>
            intro w' m hE hR
            rintro _ rfl Q hQ
            go_wp2
            exact hQ _ _ _ rfl rfl (Below.refl _ _) trivial
          case s8 =>
            intro w' m hE hR
            rintro _ rfl _ rfl _ rfl _ rfl Q hQ
            go_wp2_with fail
            refine (firstWrong_impl A1 c1 s A2 c2 al A5 c5 ws _ w' (r1.new (below_undrew hE)) (by omega) (r2.new (below_undrew hE)) (by omega) (r5.new eff_good (below_undrew hE)) (by have := unhide HK3; omega) (unhide HWS)).mono ?_
            rintro e w1 ⟨rfl, b1⟩
            rw [unhide HFW]
            go_wp2
            exact hQ _ _ _ rfl rfl b1 trivial
          case s9 =>
            intro w' m hE hR
            rintro _ rfl Q hQ
            go_wp2
            exact hQ _ _ _ rfl rfl (Below.refl _ _) trivial
          case s10 =>
            intro w' m hE hR
            rintro _ rfl _ rfl Q hQ
            go_wp2
            exact hQ _ _ _ rfl rfl (Below.refl _ _) trivial
          case s11 =>
            intro w' m hE hR
            rintro _ rfl _ rfl _ rfl Q hQ
            go_wp2
            exact hQ _ _ _ rfl rfl (Below.refl _ _) trivial
          case s12 =>
            intro w' m hE hR
            rintro _ rfl _ rfl Q hQ
            go_wp2
            exact hQ _ _ _ rfl rfl (Below.refl _ _) trivial
          case s13 =>
            intro w' m hE hR
            rintro _ rfl Q hQ
            go_wp2
            exact hQ _ _ _ rfl rfl (Below.refl _ _) trivial
          case s14 =>
            intro w' m hE hR
            rintro _ rfl Q hQ
            go_wp2
            exact hQ _ _ _ rfl rfl (Below.refl _ _) trivial
          case s15 =>
            intro w' m hE hR
            rintro _ rfl Q hQ
            go_wp2
            exact hQ _ _ _ rfl rfl (Below.refl _ _) trivial
          case s16 =>
            intro w' m hE hR
            rintro _ rfl _ rfl Q hQ
            go_wp2
            exact hQ _ _ _ rfl rfl (Below.refl _ _) trivial
          case s17 =>
            intro w' m hE hR
            rintro _ rfl _ rfl _ rfl Q hQ
            go_wp2
            exact hQ _ _ _ rfl rfl (Below.refl _ _) trivial
          case s18 =>
            intro w' m hE hR
            rintro _ rfl _ rfl Q hQ
            go_wp2
            exact hQ _ _ _ rfl rfl (Below.refl _ _) trivial
          case s19 =>
            intro w' m hE hR
            rintro _ rfl Q hQ
            go_wp2
            exact hQ _ _ _ rfl rfl (Below.refl _ _) trivial
          case s20 =>
            intro w' m hE hR
            rintro _ rfl Q hQ
            go_wp2
            exact hQ _ _ _ rfl rfl (Below.refl _ _) trivial
          case s21 =>
            intro w' m hE hR
            rintro _ rfl _ rfl _ rfl Q hQ
            go_wp2
            exact hQ _ _ _ rfl rfl (Below.refl _ _) trivial
          case s22 =>
            intro w' m hE hR
            rintro _ rfl _ rfl Q hQ
            go_wp2
            exact hQ _ _ _ rfl rfl (Below.refl _ _) trivial
          case s23 =>
            intro w' m hE hR
            rintro _ rfl Q hQ
            go_wp2
            exact hQ _ _ _ rfl rfl (Below.refl _ _) trivial
          case s24 =>
            intro w' m hE hR
            rintro _ rfl Q hQ
            go_wp2
            exact hQ _ _ _ rfl rfl (Below.refl _ _) trivial
          case s25 =>
            intro w' m hE hR
            rintro _ rfl _ rfl _ rfl Q hQ
            go_wp2
            exact hQ _ _ _ rfl rfl (Below.refl _ _) trivial
          case s26 =>
            intro w' m hE hR
            rintro _ rfl _ rfl Q hQ
            go_wp2
            exact hQ _ _ _ rfl rfl (Below.refl _ _) trivial
        intro w9 hE _
        rintro v0 - v1 - v2 - v3 - v4 - v5 - v6 - v7 - v8 - v9 - v10 - v11 - v12 - v13 hv13 v14 - v15 - v16 - v17 - v18 hv18 v19 - v20 - v21 - v22 - v23 - v24 - v25 - v26 -
        obtain rfl : v13 = _ := hv13
        obtain rfl : v18 = _ := hv18
        have b9 := below_undrew hE
        change wpList _ _ _ [_, _, _, _, _] _ _
        simp only [Act.put, List.setIfInBounds_toArray, List.set_cons_succ, List.set_cons_zero]
        go_wp2
        go_ret
        exact ⟨rfl, bthen hB b9⟩
      · have i4 : ((k : Int) == (al.length : Int)) = false := by simp; omega
        have h1 : k < es.length := by have := unhide HK2; omega
        have h2 : k < ws.length := by have := unhide HK3; omega
        have i1 : (k : Int) < (es.length : Int) := by omega
        have i2 : (k : Int) < (ws.length : Int) := by omega
        have HNE := hide (unhide HK6 h1 h2)
        obtain ⟨b, off, B1, d1, B2, d2, rfl, hbP, hbb, e0, e1, e2, -, -, q1, q2⟩ := r3.eff h1
        obtain ⟨b', off', E1, f1, E2, f2, rfl, hbP', hbb', g0, g1, g2, -, -, p1, p2⟩ := r5.eff h2
        obtain ⟨hx1, hx2⟩ := unhide HWS ws[k] (List.getElem_mem h2)
        generalize hxe : es[k] = x at *
        generalize hye : ws[k] = y at *
        replace q1 := q1.rd
        replace q2 := q2.rd
        replace p1 := p1.rd
        replace p2 := p2.rd
        have ED := hide (fun w' (hb : Below wr.heap.size wr w') => (⟨(hb.cell (p := ⟨b, off + k * 3, none⟩) hbb).trans e0, (hb.cell (p := ⟨b, off + k * 3 + 1, none⟩) hbb).trans e1, (hb.cell (p := ⟨b, off + k * 3 + 2, none⟩) hbb).trans e2⟩ : _ ∧ _ ∧ _))
        have RD := hide (fun w' (hb : Below wr.heap.size wr w') => (⟨(hb.cell (p := ⟨b', off' + k * 3, none⟩) hbb').trans g0, (hb.cell (p := ⟨b', off' + k * 3 + 1, none⟩) hbb').trans g1, (hb.cell (p := ⟨b', off' + k * 3 + 2, none⟩) hbb').trans g2⟩ : _ ∧ _ ∧ _))
        clear e0 e1 e2 g0 g1 g2 hxe hye HK5 HK6
        have hF : StBL [bV (.int .i64 (k : Int)), bV (.slice A2 al.length c2), bV (.int .i64 (al.length : Int)), bV (.bool true), bV (.bool true), bV (.slice A1 s.length c1), bV (.slice A2 al.length c2), bV (.slice (some ⟨b', off', none⟩) ws.length c5), bV (.int .i64 (al.length : Int)), bV (.slice A2 al.length c2), bV (.int .i64 (al.length : Int)), bV (.bool true), bV (.bool true), bV (.bool true), bV (.int .i64 (k : Int)), bV (.slice A2 al.length c2), bV (.int .i64 (al.length : Int)), bV (.bool false), bV (.bool false), bV (.slice (some ⟨b', off', none⟩) ws.length c5), bV (.int .i64 (k : Int)), bV (.pointer (some ⟨b', off' + k * 3, none⟩)), bV (.agg #[.bool y.done, .slice E1 y.reads.length f1, .slice E2 y.writes.length f2]), bV (.slice (some ⟨b, off, none⟩) es.length c3), bV (.int .i64 (k : Int)), bV (.pointer (some ⟨b, off + k * 3, none⟩)), bV (.agg #[.bool x.done, .slice B1 x.reads.length d1, .slice B2 x.writes.length d2])] :=
          ⟨sb_V _, sb_V _, sb_V _, sb_V _, sb_V _, sb_V _, sb_V _, sb_V _, sb_V _, sb_V _, sb_V _, sb_V _, sb_V _, sb_V _, sb_V _, sb_V _, sb_V _, sb_V _, sb_V _, sb_V _, sb_V _, sb_V _, sb_V _, sb_V _, sb_V _, sb_V _, sb_V _, trivial⟩
        go_upto_region 15 with fail
        refine wp_region_loc (by kernel_rfl) [(0, some 63), (1, some 64), (2, some 65), (3, some 66), (4, some 67), (5, some 68), (6, some 69), (7, some 70), (8, some 71), (9, some 72), (10, some 73), (11, some 74), (12, some 75), (13, some 76), (14, some 77), (15, some 78), (16, some 79), (17, some 80), (18, some 81), (19, some 82), (20, some 83), (21, some 84), (22, some 85), (23, some 86), (24, some 87), (25, some 88), (26, some 89)] [[], [], [(1, some 64)], [(0, some 63), (2, some 65)], [(3, some 66)], [(4, some 67)], [(4, some 67)], [(4, some 67)], [(4, some 67), (5, some 68), (6, some 69), (7, some 70)], [(4, some 67)], [(4, some 67), (9, some 72)], [(4, some 67), (8, some 71), (10, some 73)], [(4, some 67), (11, some 74)], [(12, some 75)], [(13, some 76)], [(13, some 76)], [(13, some 76), (15, some 78)], [(13, some 76), (14, some 77), (16, some 79)], [(13, some 76), (17, some 80)], [(18, some 81)], [(18, some 81)], [(18, some 81), (19, some 82), (20, some 83)], [(18, some 81), (21, some 84)], [(18, some 81)], [(18, some 81)], [(18, some 81), (23, some 86), (24, some 87)], [(18, some 81), (25, some 88)]] (by kernel_rfl)
          (locB _) (fun a b => Below a.heap.size a b) noR [0, 0, 0, 0, 0, 0, 0, 0, 0, 0, 0, 0, 0, 0, 0, 0, 0, 0, 0, 0, 0, 0, 0, 0, 0, 0, 0] 0 (by kernel_rfl) (fun _ => Below.refl _ _) (fun _ _ _ => bthen) (locB_st hF _) trivial ?_ ?_
        · refine steps_cons ?s0 ( steps_cons ?s1 ( steps_cons ?s2 ( steps_cons ?s3 ( steps_cons ?s4 ( steps_cons ?s5 ( steps_cons ?s6 ( steps_cons ?s7 ( steps_cons ?s8 ( steps_cons ?s9 ( steps_cons ?s10 ( steps_cons ?s11 ( steps_cons ?s12 ( steps_cons ?s13 ( steps_cons ?s14 ( steps_cons ?s15 ( steps_cons ?s16 ( steps_cons ?s17 ( steps_cons ?s18 ( steps_cons ?s19 ( steps_cons ?s20 ( steps_cons ?s21 ( steps_cons ?s22 ( steps_cons ?s23 ( steps_cons ?s24 ( steps_cons ?s25 ( steps_cons ?s26 steps_nil))))))))))))))))))))))))))
          case s0 =>
            intro w' m hE hR
            intro Q hQ
            go_wp2
            exact hQ _ _ _ rfl rfl (Below.refl _ _) trivial
          case s1 =>
            intro w' m hE hR
            intro Q hQ
            go_wp2
            exact hQ _ _ _ rfl rfl (Below.refl _ _) trivial
          case s2 =>
            intro w' m hE hR
            rintro _ rfl Q hQ
            go_wp2
            exact hQ _ _ _ rfl rfl (Below.refl _ _) trivial
          case s3 =>
            intro w' m hE hR
            rintro _ rfl _ rfl Q hQ
            go_wp2
            exact hQ _ _ _ rfl rfl (Below.refl _ _) trivial
          case s4 =>
            intro w' m hE hR
            rintro _ rfl Q hQ
            go_wp2
            exact hQ _ _ _ rfl rfl (Below.refl _ _) trivial
          case s5 =>
            intro w' m hE hR
            rintro _ rfl Q hQ
            go_wp2
            exact hQ _ _ _ rfl rfl (Below.refl _ _) trivial
          case s6 =>
            intro w' m hE hR
            rintro _ rfl Q hQ
            go_wp2
            exact hQ _ _ _ rfl rfl (Below.refl _ _) trivial
          case s7 =>
            intro w' m hE hR
            rintro _ rfl Q hQ
            go_wp2
            exact hQ _ _ _ rfl rfl (Below.refl _ _) trivial
          case s8 =>
            intro w' m hE hR
            rintro _ rfl _ rfl _ rfl _ rfl Q hQ
            go_wp2_with fail
            refine (firstWrong_impl A1 c1 s A2 c2 al (some ⟨b', off', none⟩) c5 ws _ w' (r1.new (below_undrew hE)) (by omega) (r2.new (below_undrew hE)) (by omega) (r5.new eff_good (below_undrew hE)) (by have := unhide HK3; omega) (unhide HWS)).mono ?_
            rintro e w1 ⟨rfl, b1⟩
            rw [unhide HFW]
            go_wp2
            exact hQ _ _ _ rfl rfl b1 trivial
          case s9 =>
            intro w' m hE hR
            rintro _ rfl Q hQ
            go_wp2
            exact hQ _ _ _ rfl rfl (Below.refl _ _) trivial
          case s10 =>
            intro w' m hE hR
            rintro _ rfl _ rfl Q hQ
            go_wp2
            exact hQ _ _ _ rfl rfl (Below.refl _ _) trivial
          case s11 =>
            intro w' m hE hR
            rintro _ rfl _ rfl _ rfl Q hQ
            go_wp2
            exact hQ _ _ _ rfl rfl (Below.refl _ _) trivial
          case s12 =>
            intro w' m hE hR
            rintro _ rfl _ rfl Q hQ
            go_wp2
            exact hQ _ _ _ rfl rfl (Below.refl _ _) trivial
          case s13 =>
            intro w' m hE hR
            rintro _ rfl Q hQ
            go_wp2
            exact hQ _ _ _ rfl rfl (Below.refl _ _) trivial
          case s14 =>
            intro w' m hE hR
            rintro _ rfl Q hQ
            go_wp2
            exact hQ _ _ _ rfl rfl (Below.refl _ _) trivial
          case s15 =>
            intro w' m hE hR
            rintro _ rfl Q hQ
            go_wp2
            exact hQ _ _ _ rfl rfl (Below.refl _ _) trivial
          case s16 =>
            intro w' m hE hR
            rintro _ rfl _ rfl Q hQ
            go_wp2
            exact hQ _ _ _ rfl rfl (Below.refl _ _) trivial
          case s17 =>
            intro w' m hE hR
            rintro _ rfl _ rfl _ rfl Q hQ
            go_wp2
            exact hQ _ _ _ rfl rfl (Below.refl _ _) trivial
          case s18 =>
            intro w' m hE hR
            rintro _ rfl _ rfl Q hQ
            go_wp2
            exact hQ _ _ _ rfl rfl (Below.refl _ _) trivial
          case s19 =>
            intro w' m hE hR
            rintro _ rfl Q hQ
            go_wp2
            exact hQ _ _ _ rfl rfl (Below.refl _ _) trivial
          case s20 =>
            intro w' m hE hR
            rintro _ rfl Q hQ
            go_wp2
            exact hQ _ _ _ rfl rfl (Below.refl _ _) trivial
          case s21 =>
            intro w' m hE hR
            rintro _ rfl _ rfl _ rfl Q hQ
            go_wp2
            exact hQ _ _ _ rfl rfl (Below.refl _ _) trivial
          case s22 =>
            intro w' m hE hR
            rintro _ rfl _ rfl Q hQ
            obtain ⟨d0, d1, d2⟩ := unhide RD w' (below_undrew hE)
            go_wp2
            exact hQ _ _ _ rfl rfl (Below.refl _ _) trivial
          case s23 =>
            intro w' m hE hR
            rintro _ rfl Q hQ
            go_wp2
            exact hQ _ _ _ rfl rfl (Below.refl _ _) trivial
          case s24 =>
            intro w' m hE hR
            rintro _ rfl Q hQ
            go_wp2
            exact hQ _ _ _ rfl rfl (Below.refl _ _) trivial
          case s25 =>
            intro w' m hE hR
            rintro _ rfl _ rfl _ rfl Q hQ
            go_wp2
            exact hQ _ _ _ rfl rfl (Below.refl _ _) trivial
          case s26 =>
            intro w' m hE hR
            rintro _ rfl _ rfl Q hQ
            obtain ⟨d0, d1, d2⟩ := unhide ED w' (below_undrew hE)
            go_wp2
            exact hQ _ _ _ rfl rfl (Below.refl _ _) trivial
        intro w9 hE _
        rintro v0 - v1 - v2 - v3 - v4 - v5 - v6 - v7 - v8 - v9 - v10 - v11 - v12 - v13 hv13 v14 - v15 - v16 - v17 - v18 hv18 v19 - v20 - v21 - v22 hv22 v23 - v24 - v25 - v26 hv26
        obtain rfl : v13 = _ := hv13
        obtain rfl : v18 = _ := hv18
        obtain rfl : v22 = _ := hv22
        obtain rfl : v26 = _ := hv26
        have b9 := below_undrew hE
        have K := hide (sameEffect_any y x E1 f1 E2 f2 B1 d1 B2 d2 w9 (p1.new b9) (p2.new b9) (q1.new b9) (q2.new b9) (by omega) (by omega))
        rw [show decide (y = x) = false from decide_eq_false (fun e => unhide HNE e.symm)] at K
        clear p1 p2 q1 q2
        replace hB := bthen hB b9
        clear b9 hE RD ED
        change wpList _ _ _ [_, _, _, _, _] _ _
        simp only [Act.put, List.setIfInBounds_toArray, List.set_cons_succ, List.set_cons_zero]
        go_wp2_with fail
        refine (unhide K).mono ?_
        rintro e w6 ⟨rfl, b6⟩
        go_wp2
        go_ret
        exact ⟨rfl, bthen hB b6⟩
end Go.Proofs.Ytiaodcjocogkkaa
