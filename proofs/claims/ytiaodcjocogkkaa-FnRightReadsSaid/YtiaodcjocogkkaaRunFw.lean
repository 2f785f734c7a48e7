/- FirstWrong of the reference. -/
import Derived.Test.YtiaodcjocogkkaaRunSer
namespace Go.Proofs.Ytiaodcjocogkkaa
open Go.RowKit
set_option linter.unusedVariables false
set_option linter.unusedSimpArgs false
attribute [local go_sem ↓] Go.wp_at_zero Go.wp_at_succ

set_option maxHeartbeats 1000000 in
theorem l10Same_any (A B : Option Addr) (c d : Nat) (xs ys : List Ent) (w : World) (hx : Rd w A (xs.flatMap encE)) (hy : Rd w B (ys.flatMap encE)) (hbx : xs.length ≤ 4611686018427387904) :
    Calls Try.prog 63 #[.slice A xs.length c, .slice B ys.length d] w fun e w' => e = .returned (.bool (decide (xs = ys))) ∧ ∃ m, w.drewN m = w' := by
  by_cases hl : xs.length = ys.length
  · have hd : ((xs.length : Int) != (ys.length : Int)) = false := by simp [hl]
    have HL := hide hl
    have hl1 : xs.length ≤ ys.length := by omega
    have hl2 : ys.length ≤ xs.length := by omega
    clear hl
    go_enter Try.func63, Try.ntmps63
    go_wp2
    go_loopw [5] (fun i wr => ∃ k : Nat, k ≤ xs.length ∧ i = .int .i64 k ∧ (∀ j (h1 : j < xs.length) (h2 : j < ys.length), j < k → xs[j] = ys[j]) ∧ ∃ m, w.drewN m = wr) (fun i _ => xs.length - (intOf i).toNat)
    case atStart => exact ⟨0, Nat.zero_le _, rfl, fun j _ _ h => absurd h (by omega), 0, rfl⟩
    case round =>
      obtain ⟨k, hk, rfl, hsame, m, rfl⟩ := hrel
      have HS := hide hsame
      clear hsame
      by_cases hlt : k < xs.length
      · have hlt2 : k < ys.length := by omega
        obtain ⟨b, off, rfl, hbb, c0, c1⟩ := hx.ent hlt
        obtain ⟨b', off', rfl, hbb', d0, d1⟩ := hy.ent hlt2
        generalize hxk : xs[k] = xk at *
        generalize hyk : ys[k] = yk at *
        have HX := hide hxk
        have HY := hide hyk
        clear hxk hyk
        have i1 : (k : Int) < (xs.length : Int) := by omega
        have i2 : (k : Int) < (ys.length : Int) := by omega
        have e0 := eqIn_ent xk yk
        have e1 := hm_ent
        by_cases he : xk = yk
        · have e2 : decide (xk = yk) = true := by simpa using he
          have HE := hide he
          clear he
          rw [e2] at e0
          clear e2
          go_wp2
          go_quiet (fail)
          go_wp2
          go_roundw
          case rel =>
            refine ⟨k + 1, by omega, by go_num, fun j h1 h2 h3 => ?_, m + nq, rfl⟩
            rcases Nat.lt_or_ge j k with h4 | h4
            · exact unhide HS j h1 h2 h4
            · have : j = k := by omega
              subst this
              rw [unhide HX, unhide HY]
              exact unhide HE
          case measure => simp [intOf]; omega
        · have e2 : decide (xk = yk) = false := by simpa using he
          have HR := hide (show decide (xs = ys) = false by
            rw [decide_eq_false_iff_not]
            intro hh
            apply he
            subst hh
            rw [← unhide HX, ← unhide HY])
          clear he
          rw [e2] at e0
          clear e2
          go_wp2
          go_quiet (fail)
          go_wp2
          go_ret
          exact ⟨retb (unhide HR).symm, _, (World.drewN_drewN _ _ _).symm⟩
      · have HR := hide (show decide (xs = ys) = true by
          rw [decide_eq_true_eq]
          exact List.ext_getElem (unhide HL) fun j h1 h2 => unhide HS j h1 h2 (by omega))
        go_wp2
        go_ret
        exact ⟨retb (unhide HR).symm, m, rfl⟩
  · have hd : ((xs.length : Int) != (ys.length : Int)) = true := by simp; omega
    have HR := hide (show decide (xs = ys) = false by rw [decide_eq_false_iff_not]; intro hh; exact hl (by rw [hh]))
    clear hl
    go_enter Try.func63, Try.ntmps63
    go_wp2
    go_ret
    exact ⟨retb (unhide HR).symm, 0, rfl⟩
set_option maxRecDepth 100000 in
set_option maxHeartbeats 8000000 in
theorem firstWrong_spec (A : Option Addr) (ca : Nat) (s : List Ent) (B : Option Addr) (cb : Nat) (al : List Act) (C : Option Addr) (cc : Nat) (es : List Eff) (P : Nat → Prop) (w : World) (ha : Rd w A (s.flatMap encE)) (hla : s.length ≤ 1099511627776) (hb : Rd w B (al.flatMap encA)) (hlb : al.length ≤ 1099511627776) (hc : RdD effR P w C es) (hlc : es.length ≤ 1099511627776) (hbs : ∀ x ∈ es, x.reads.length ≤ 1048576 ∧ x.writes.length ≤ 1048576) :
    Calls Try.prog 24 #[.slice A s.length ca, .slice B al.length cb, .slice C es.length cc] w fun e w' => e = .returned (.int .i64 (firstW s al es)) ∧ Below w.heap.size w w' := by
  have HBS := hide hbs
  clear hbs
  have hb0 := Below.refl w.heap.size w
  cases hsa : storeB s
  · have HL := hide (show firstW s al es = -1 by unfold firstW; rw [if_neg (by simp [hsa])])
    go_enter Try.func24, Try.ntmps24
    go_wp2_with fail
    refine (storeB_store_spec A ca s w ha (by omega)).mono ?_
    rintro e w1 ⟨rfl, m1, rfl⟩
    rw [hsa]
    replace hb0 := below_drewN hb0 m1
    generalize w.drewN m1 = w1 at *
    go_wp2
    go_ret
    exact ⟨reti (unhide HL).symm, hb0⟩
  cases hab : actsB al
  · have HL := hide (show firstW s al es = -1 by unfold firstW; rw [if_neg (by simp [hab])])
    go_enter Try.func24, Try.ntmps24
    go_wp2_with fail
    refine (storeB_store_spec A ca s w ha (by omega)).mono ?_
    rintro e w1 ⟨rfl, m1, rfl⟩
    rw [hsa]
    replace hb0 := below_drewN hb0 m1
    generalize w.drewN m1 = w1 at *
    go_wp2_with fail
    refine (actionsValid_spec B cb al w1 (hb.new hb0) (by omega)).mono ?_
    rintro e w2 ⟨rfl, b2⟩
    rw [hab]
    go_wp2
    go_ret
    exact ⟨reti (unhide HL).symm, bthen hb0 b2⟩
  by_cases hln : es.length = al.length
  rotate_left
  · have HL := hide (show firstW s al es = -1 by unfold firstW; rw [if_neg (by rintro ⟨_, _, h⟩; exact hln h)])
    have hd : ((es.length : Int) != (al.length : Int)) = true := by simp; omega
    clear hln
    go_enter Try.func24, Try.ntmps24
    go_wp2_with fail
    refine (storeB_store_spec A ca s w ha (by omega)).mono ?_
    rintro e w1 ⟨rfl, m1, rfl⟩
    rw [hsa]
    replace hb0 := below_drewN hb0 m1
    generalize w.drewN m1 = w1 at *
    go_wp2_with fail
    refine (actionsValid_spec B cb al w1 (hb.new hb0) (by omega)).mono ?_
    rintro e w2 ⟨rfl, b2⟩
    rw [hab]
    go_wp2
    go_ret
    exact ⟨reti (unhide HL).symm, bthen hb0 b2⟩
  have hd : ((es.length : Int) != (al.length : Int)) = false := by simp [hln]
  have HLN := hide hln
  have HL := hide (show firstW s al es = (fwGo 0 es (serialE s al) : Int) by
    unfold firstW
    rw [if_pos ⟨hsa, hab, hln⟩])
  have HEL := hide (show (serialE s al).length = al.length by
    unfold serialE; rw [if_pos ⟨hsa, hab⟩, runAllE_len])
  have HSM := hide (serialE_small s al)
  have hal := (actsB_yes hab).1
  clear hln
  go_enter Try.func24, Try.ntmps24
  go_wp2_with fail
  refine (storeB_store_spec A ca s w ha (by omega)).mono ?_
  rintro e w1 ⟨rfl, m1, rfl⟩
  rw [hsa]
  replace hb0 := below_drewN hb0 m1
  generalize w.drewN m1 = w1 at *
  go_wp2_with fail
  refine (actionsValid_spec B cb al w1 (hb.new hb0) (by omega)).mono ?_
  rintro e w2 ⟨rfl, b2⟩
  rw [hab]
  have hB2 := bthen hb0 b2
  clear hsa hab b2 hb0
  go_wp2_with fail
  refine (runSerial_spec A ca s B cb al w2 (ha.new hB2) (by omega) (hb.new hB2) (by omega)).mono ?_
  rintro e w4 ⟨A3, c3, A4, c4, rfl, -, hc4, r4, b4⟩
  have hB4 := bthen hB2 b4
  have hc4' := hc.new eff_good hB4
  clear ha hb hc b4 hB2
  generalize hrs : serialE s al = rs at *
  have HRS := hide hrs
  clear hrs
  have hrl : rs.length = al.length := unhide HEL
  have HRL := hide hrl
  go_wp2
  go_loopw [9] (fun i wr => ∃ (k : Nat), k ≤ al.length ∧ i = .int .i64 k ∧ Hid (∀ j (h1 : j < es.length) (h2 : j < rs.length), j < k → es[j] = rs[j]) ∧ ∃ m, w4.drewN m = wr) (fun i _ => al.length - (intOf i).toNat)
  case atStart => exact ⟨0, Nat.zero_le _, rfl, hide fun j _ _ hj => absurd hj (by omega), 0, rfl⟩
  case round =>
    obtain ⟨k, hk, rfl, HS, m, rfl⟩ := hrel
    by_cases hlt : k < al.length
    · have hlt1 : k < es.length := by rw [unhide HLN]; exact hlt
      have hlt2 : k < rs.length := by rw [unhide HRL]; exact hlt
      obtain ⟨b, off, A1, c1, A2, c2, rfl, -, hbb, d0, d1, d2, -, -, q1, q3⟩ := hc4'.eff hlt1
      obtain ⟨b', off', E1, f1, E3, f3, rfl, -, hbb', g0, g1, g2, -, -, p1, p3⟩ := r4.eff hlt2
      obtain ⟨hx1, hx2⟩ := unhide HBS es[k] (List.getElem_mem hlt1)
      obtain ⟨hy1, hy2⟩ := unhide HSM rs[k] (List.getElem_mem hlt2)
      have HNX := hide (fun (hh : es[k] = rs[k]) => show ∀ j (h1 : j < es.length) (h2 : j < rs.length), j < k + 1 → es[j] = rs[j] from fun j h1 h2 hj => by
        rcases Nat.lt_or_ge j k with h3 | h3
        · exact unhide HS j h1 h2 h3
        · have : j = k := by omega
          subst this
          exact hh)
      have HHIT := hide (fun (hh : es[k] ≠ rs[k]) => show firstW s al es = (k : Int) by rw [unhide HL, fwGo_hit 0 k hlt1 hlt2 (unhide HS) hh, Nat.zero_add])
      generalize es[k] = x at *
      generalize rs[k] = y at *
      obtain ⟨xd, xr, xw⟩ := x
      obtain ⟨yd, yr, yw⟩ := y
      simp only at hx1 hx2 hy1 hy2 d0 d1 d2 g0 g1 g2 q1 q3 p1 p3
      have i1 : (k : Int) < (es.length : Int) := by omega
      have i2 : (k : Int) < (rs.length : Int) := by omega
      have i3 : (k : Int) < (al.length : Int) := by omega
      replace q1 := q1.rd
      replace q3 := q3.rd
      replace p1 := p1.rd
      replace p3 := p3.rd
      have HEQ := hide (show (⟨xd, xr, xw⟩ : Eff) = ⟨yd, yr, yw⟩ ↔ (xd = yd ∧ yr = xr ∧ yw = xw) by
        constructor
        · intro h; injection h with h1 h2 h3; exact ⟨h1, h2.symm, h3.symm⟩
        · rintro ⟨h1, h2, h3⟩; rw [h1, h2, h3])
      cases hr : decide (yr = xr) <;> cases hw : decide (yw = xw) <;> cases xd <;> cases yd
      all_goals
        first
        | (have HN := hide (unhide HNX ((unhide HEQ).2 ⟨rfl, of_decide_eq_true hr, of_decide_eq_true hw⟩))
           clear HNX HHIT HEQ
           go_wp2
           go_quiet ((go_at_call 63; first | exact quiet_draws (l10Same_any _ _ _ _ _ _ _ (p1.drewN _) (q1.drewN _) (by omega)) | exact quiet_add (l10Same_any _ _ _ _ _ _ _ (p1.drewN _) (q1.drewN _) (by omega)) | exact quiet_draws (l10Same_any _ _ _ _ _ _ _ (p3.drewN _) (q3.drewN _) (by omega)) | exact quiet_add (l10Same_any _ _ _ _ _ _ _ (p3.drewN _) (q3.drewN _) (by omega))))
           go_wp2
           go_roundw
           case rel => exact ⟨k + 1, by omega, by go_num, HN, m + nq, rfl⟩
           case measure => simp [intOf]; omega)
        | (have HN := hide (unhide HHIT (fun h => by have h2 := (unhide HEQ).1 h; simp [h2.2.1, h2.2.2] at hr hw h2))
           clear HNX HHIT HEQ
           go_wp2
           go_quiet ((go_at_call 63; first | exact quiet_draws (l10Same_any _ _ _ _ _ _ _ (p1.drewN _) (q1.drewN _) (by omega)) | exact quiet_add (l10Same_any _ _ _ _ _ _ _ (p1.drewN _) (q1.drewN _) (by omega)) | exact quiet_draws (l10Same_any _ _ _ _ _ _ _ (p3.drewN _) (q3.drewN _) (by omega)) | exact quiet_add (l10Same_any _ _ _ _ _ _ _ (p3.drewN _) (q3.drewN _) (by omega))))
           go_wp2
           go_ret
           exact ⟨reti (unhide HN).symm, by rw [World.drewN_drewN]; exact below_drewN hB4 _⟩)
    · obtain rfl : k = al.length := by omega
      have HN := hide (show firstW s al es = (al.length : Int) by
        rw [unhide HL, fwGo_all 0 ((unhide HLN).trans (unhide HRL).symm) (fun j h1 h2 => unhide HS j h1 h2 (by rw [← unhide HLN]; exact h1)), Nat.zero_add, unhide HLN])
      go_wp2
      go_ret
      exact ⟨reti (unhide HN).symm, below_drewN hB4 _⟩
end Go.Proofs.Ytiaodcjocogkkaa
