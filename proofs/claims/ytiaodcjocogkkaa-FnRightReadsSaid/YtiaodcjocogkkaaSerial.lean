/- Serial runs of the program: RunSerial, RunAction; effects compared; FirstWrong. -/
import Derived.Test.YtiaodcjocogkkaaRunAll
import Derived.Test.YtiaodcjocogkkaaSameS
namespace Go.Proofs.Ytiaodcjocogkkaa
open Go.RowKit
set_option linter.unusedVariables false
set_option linter.unusedSimpArgs false
attribute [local go_sem ↓] Go.wp_at_zero Go.wp_at_succ

def serialS (s : List Ent) (al : List Act) : List Ent := if storeB s = true ∧ actsB al = true then storeL (runAllV (valsL s) al) else []
def serialE (s : List Ent) (al : List Act) : List Eff := if storeB s = true ∧ actsB al = true then runAllE (valsL s) al else []
theorem serialE_small (s : List Ent) (al : List Act) : ∀ x ∈ serialE s al, x.reads.length ≤ 2 ∧ x.writes.length ≤ 2 := by
  unfold serialE
  split
  · exact runAllE_small _ _
  · intro x hx; cases hx
theorem serialE_len (s : List Ent) (al : List Act) : (serialE s al).length ≤ 10 := by
  unfold serialE
  split
  · rename_i h
    rw [runAllE_len]
    exact (actsB_yes h.2).1
  · simp
theorem serialS_len (s : List Ent) (al : List Act) : (serialS s al).length ≤ 32 := by
  unfold serialS
  split
  · exact storeL_len _
  · simp
theorem acts_all {al : List Act} (h : actsB al = true) : ∀ a ∈ al, actB a = true := fun a ha => by
  obtain ⟨k, hk, rfl⟩ := List.getElem_of_mem ha
  exact (actsB_yes h).2 k hk
set_option maxRecDepth 100000 in
set_option maxHeartbeats 1000000 in
theorem runSerial_impl (A : Option Addr) (ca : Nat) (s : List Ent) (B : Option Addr) (cb : Nat) (al : List Act) (w : World) (ha : Rd w A (s.flatMap encE)) (hla : s.length ≤ 4611686018427387904) (hb : Rd w B (al.flatMap encA)) (hlb : al.length ≤ 4611686018427387904) :
    Calls Try.prog 41 #[.slice A s.length ca, .slice B al.length cb] w fun e w' => ∃ A1 c1 A2 c2, e = .returned (.tuple #[.slice A1 (serialS s al).length c1, .slice A2 (serialE s al).length c2]) ∧ w'.ownsRow w.heap.size 80 2 (.slice A1 (serialS s al).length c1) (serialS s al).length ((serialS s al).flatMap encE) ∧ ((serialE s al).length ≤ c2 ∧ c2 ≤ maxLen) ∧ RdD effR (fun k => w.heap.size ≤ k) w' A2 (serialE s al) ∧ Below w.heap.size w w' := by
  cases hsa : storeB s
  · have HL := hide (show serialS s al = [] by simp [serialS, hsa])
    have HM := hide (show serialE s al = [] by simp [serialE, hsa])
    go_enter Try.func41, Try.ntmps41
    go_wp2_with fail
    refine (storeB_impl A ca s w ha hla).mono ?_
    rintro e w1 ⟨rfl, b1⟩
    rw [hsa]
    go_wp2
    go_ret2
    rw [unhide HL, unhide HM]
    exact ⟨none, 0, none, 0, rfl, own_nil _ _ _ _, ⟨Nat.le_refl _, by simp [maxLen]⟩, RdD.nil _ _ _ _, b1⟩
  cases hab : actsB al
  · have HL := hide (show serialS s al = [] by simp [serialS, hab])
    have HM := hide (show serialE s al = [] by simp [serialE, hab])
    go_enter Try.func41, Try.ntmps41
    go_wp2_with fail
    refine (storeB_impl A ca s w ha hla).mono ?_
    rintro e w1 ⟨rfl, b1⟩
    rw [hsa]
    go_wp2_with fail
    refine (actionsValid_impl B cb al w1 (hb.new b1) hlb).mono ?_
    rintro e w2 ⟨rfl, b2⟩
    rw [hab]
    go_wp2
    go_ret2
    rw [unhide HL, unhide HM]
    exact ⟨none, 0, none, 0, rfl, own_nil _ _ _ _, ⟨Nat.le_refl _, by simp [maxLen]⟩, RdD.nil _ _ _ _, bthen b1 b2⟩
  have HL := hide (show serialS s al = storeL (runAllV (valsL s) al) by unfold serialS; rw [if_pos ⟨hsa, hab⟩])
  have HM := hide (show serialE s al = runAllE (valsL s) al by unfold serialE; rw [if_pos ⟨hsa, hab⟩])
  have HKS := hide (store_keys hsa)
  have HV := hide (show valOk (valsL s) from valOk_vals (show evOk 1 (-1) s = true from hsa) (by omega))
  have HA := hide (acts_all hab)
  have hal := (actsB_yes hab).1
  go_enter Try.func41, Try.ntmps41
  go_wp2_with fail
  refine (storeB_impl A ca s w ha hla).mono ?_
  rintro e w1 ⟨rfl, b1⟩
  rw [hsa]
  go_wp2_with fail
  refine (actionsValid_impl B cb al w1 (hb.new b1) hlb).mono ?_
  rintro e w2 ⟨rfl, b2⟩
  rw [hab]
  have hB2 := bthen b1 b2
  clear hsa hab
  go_wp2_with fail
  refine (valuesOf_any A ca s w2 (ha.new hB2) hla (unhide HKS)).mono ?_
  rintro e w3 ⟨rfl, b3⟩
  have hB3 := bthen hB2 b3
  generalize valsL s = v at *
  go_wp2_with fail
  refine (runAll_any v B cb al w3 (unhide HV) (hb.new hB3) (unhide HA) (by omega)).mono ?_
  rintro e w4 ⟨A4, c4, rfl, hc4, r4, b4⟩
  have hs3 := hB3.size
  replace r4 := r4.mono eff_good (Q := fun k => w.heap.size ≤ k) fun q hq _ => by omega
  have hB4 := bthen hB3 b4
  have HVO := hide (valOk_runAll (unhide HV) (unhide HA))
  generalize runAllV v al = u at *
  have hul := (unhide HVO).1
  have hsU : (vA u).size = 32 := by rw [vA_size, hul]
  obtain ⟨k0, kU, bU⟩ := one_vals w4 87 u
  have hB5 := bthen hB4 bU
  have r5 := r4.new eff_good bU
  go_wp2_with (first | (refine wpList_store_row rfl 87 (.tmp 6) (.tmp 21) rfl w4.heap.size (vA u) rfl rfl 87 _ k0 (by rw [hsU]; exact info_vals) (by rw [hsU]; rfl) (vA_one _) ?_) | (refine wpList_load_row rfl 87 (.tmp 6) rfl w4.heap.size rfl 87 (vA u) (0, 0) _ kU Try.underlying87 rfl (by rw [hsU]; exact info_vals) ?_))
  refine (store_any u _ hul).mono ?_
  rintro e w6 ⟨A6, c6, rfl, o6, b6⟩
  go_wp2
  go_ret2
  rw [unhide HL, unhide HM]
  exact ⟨A6, c6, A4, c4, rfl, own_base o6 hB5.size, hc4, r5.new eff_good b6, bthen hB5 b6⟩
theorem equalE_any (A B : Option Addr) (c d : Nat) (xs ys : List Ent) (w : World) (hx : Rd w A (xs.flatMap encE)) (hy : Rd w B (ys.flatMap encE)) (hbx : xs.length ≤ 4611686018427387904) :
    Calls Try.prog 88 #[.slice A xs.length c, .slice B ys.length d] w fun e w' => e = .returned (.bool (decide (xs = ys))) ∧ ∃ m, w.drewN m = w' := by
  by_cases hl : xs.length = ys.length
  · have hd : ((xs.length : Int) != (ys.length : Int)) = false := by simp [hl]
    have HL := hide hl
    have hl1 : xs.length ≤ ys.length := by omega
    have hl2 : ys.length ≤ xs.length := by omega
    clear hl
    go_enter Try.func88, Try.ntmps88
    go_wp2
    go_loopw [5, 13] (fun _ i wr => ∃ k : Nat, k ≤ xs.length ∧ i = .int .i64 k ∧ (∀ j (h1 : j < xs.length) (h2 : j < ys.length), j < k → xs[j] = ys[j]) ∧ ∃ m, w.drewN m = wr) (fun _ i _ => xs.length - (intOf i).toNat)
    case atStart => exact ⟨0, Nat.zero_le _, rfl, fun j _ _ h => absurd h (by omega), 0, rfl⟩
    case round =>
      obtain ⟨k, hk, rfl, hsame, m, rfl⟩ := hrel
      have HS := hide hsame
      clear hsame
      by_cases hlt : k < xs.length
      · have hlt2 : k < ys.length := by omega
        obtain ⟨b, off, rfl, hbb, c0, c1⟩ := hx.ent hlt
        obtain ⟨b', off', rfl, hbb', d0, d1⟩ := hy.ent hlt2
        generalize hxk : xs[k] = xk at *
        generalize hyk : ys[k] = yk at *
        have HX := hide hxk
        have HY := hide hyk
        clear hxk hyk
        have i1 : (k : Int) < (xs.length : Int) := by omega
        have i2 : (k : Int) < (ys.length : Int) := by omega
        have e0 := eqIn_ent xk yk
        have e1 := hm_ent
        by_cases he : xk = yk
        · have e2 : decide (xk = yk) = true := by simpa using he
          have HE := hide he
          clear he
          rw [e2] at e0
          clear e2
          go_wp2
          go_quiet (fail)
          go_wp2
          go_roundw
          case rel =>
            refine ⟨k + 1, by omega, by go_num, fun j h1 h2 h3 => ?_, m + nq, rfl⟩
            rcases Nat.lt_or_ge j k with h4 | h4
            · exact unhide HS j h1 h2 h4
            · have : j = k := by omega
              subst this
              rw [unhide HX, unhide HY]
              exact unhide HE
          case measure => simp [intOf]; omega
        · have e2 : decide (xk = yk) = false := by simpa using he
          have HR := hide (show decide (xs = ys) = false by
            rw [decide_eq_false_iff_not]
            intro hh
            apply he
            subst hh
            rw [← unhide HX, ← unhide HY])
          clear he
          rw [e2] at e0
          clear e2
          go_wp2
          go_quiet (fail)
          go_wp2
          go_ret
          exact ⟨retb (unhide HR).symm, _, (World.drewN_drewN _ _ _).symm⟩
      · have HR := hide (show decide (xs = ys) = true by
          rw [decide_eq_true_eq]
          exact List.ext_getElem (unhide HL) fun j h1 h2 => unhide HS j h1 h2 (by omega))
        go_wp2
        go_ret
        exact ⟨retb (unhide HR).symm, m, rfl⟩
  · have hd : ((xs.length : Int) != (ys.length : Int)) = true := by simp; omega
    have HR := hide (show decide (xs = ys) = false by rw [decide_eq_false_iff_not]; intro hh; exact hl (by rw [hh]))
    clear hl
    go_enter Try.func88, Try.ntmps88
    go_wp2
    go_ret
    exact ⟨retb (unhide HR).symm, 0, rfl⟩
theorem eff_ext {x y : Eff} (h0 : x.done = y.done) (h1 : x.reads = y.reads) (h2 : x.writes = y.writes) : x = y := by cases x; cases y; simp_all
set_option maxHeartbeats 1000000 in
theorem same_any (x y : Eff) (A1 : Option Addr) (c1 : Nat) (A2 : Option Addr) (c2 : Nat) (B1 : Option Addr) (d1 : Nat) (B2 : Option Addr) (d2 : Nat) (w : World) (h1 : Rd w A1 (x.reads.flatMap encE)) (h2 : Rd w A2 (x.writes.flatMap encE)) (k1 : Rd w B1 (y.reads.flatMap encE)) (k2 : Rd w B2 (y.writes.flatMap encE)) (hb1 : x.reads.length ≤ 4611686018427387904) (hb2 : x.writes.length ≤ 4611686018427387904) :
    Calls Try.prog 67 #[.agg #[.bool x.done, .slice A1 x.reads.length c1, .slice A2 x.writes.length c2], .agg #[.bool y.done, .slice B1 y.reads.length d1, .slice B2 y.writes.length d2]] w fun e w' => e = .returned (.bool (decide (x = y))) ∧ Below w.heap.size w w' := by
  have hb0 : Below w.heap.size w ((w.alloc (.cells #[.bool x.done, .slice A1 x.reads.length c1, .slice A2 x.writes.length c2] 71)).alloc (.cells #[.bool y.done, .slice B1 y.reads.length d1, .slice B2 y.writes.length d2] 71)) := ((Below.refl _ _).alloc (Nat.le_refl _) _).alloc (by simp) _
  have K0 := (Blk.new w 71 #[.bool x.done, .slice A1 x.reads.length c1, .slice A2 x.writes.length c2]).alloc (.cells #[.bool y.done, .slice B1 y.reads.length d1, .slice B2 y.writes.length d2] 71)
  have K1 := Blk.new (w.alloc (.cells #[.bool x.done, .slice A1 x.reads.length c1, .slice A2 x.writes.length c2] 71)) 71 #[.bool y.done, .slice B1 y.reads.length d1, .slice B2 y.writes.length d2]
  simp only [World.size_alloc] at K1
  cases hd : (x.done == y.done)
  · have HR := hide (show decide (x = y) = false by
      rw [decide_eq_false_iff_not]; rintro rfl; simp at hd)
    go_enter Try.func67, Try.ntmps67
    go_wp2
    go_ret
    exact ⟨retb (unhide HR).symm, hb0⟩
  have HD := hide (show x.done = y.done by simpa using hd)
  go_enter Try.func67, Try.ntmps67
  go_wp2_with fail
  refine (equalE_any A1 B1 c1 d1 x.reads y.reads _ (h1.new hb0) (k1.new hb0) hb1).mono ?_
  rintro e w' ⟨rfl, m1, rfl⟩
  replace K0 := K0.drewN m1
  replace K1 := K1.drewN m1
  have hB1 := below_drewN hb0 m1
  generalize World.drewN _ m1 = w1 at *
  have z2 : w1.cell? ⟨w.heap.size, 2, none⟩ = some (.slice A2 x.writes.length c2) := K0.cell 2
  have y2 : w1.cell? ⟨w.heap.size + 1, 2, none⟩ = some (.slice B2 y.writes.length d2) := K1.cell 2
  by_cases hr : x.reads = y.reads
  · rw [decide_eq_true hr]
    have HRR := hide hr
    clear hr
    go_wp2_with fail
    refine (equalE_any A2 B2 c2 d2 x.writes y.writes _ (h2.new hB1) (k2.new hB1) hb2).mono ?_
    rintro e w' ⟨rfl, m2, rfl⟩
    have HR := hide (show decide (x = y) = decide (x.writes = y.writes) by
      by_cases hw : x.writes = y.writes
      · rw [decide_eq_true hw, decide_eq_true (eff_ext (unhide HD) (unhide HRR) hw)]
      · rw [decide_eq_false hw, decide_eq_false (fun e => hw (by rw [e]))])
    go_wp2
    go_ret
    exact ⟨retb (unhide HR).symm, below_drewN hB1 m2⟩
  · rw [decide_eq_false hr]
    have HR := hide (show decide (x = y) = false from decide_eq_false (fun e => hr (by rw [e])))
    clear hr
    go_wp2
    go_ret
    exact ⟨retb (unhide HR).symm, hB1⟩
/-- the first effect that is not right -/
def fwGo : Nat → List Eff → List Eff → Nat
  | n, x :: xs, y :: ys => if x = y then fwGo (n + 1) xs ys else n
  | n, _, _ => n
def firstW (s : List Ent) (al : List Act) (es : List Eff) : Int := if storeB s = true ∧ actsB al = true ∧ es.length = al.length then (fwGo 0 es (serialE s al) : Int) else -1
theorem fwGo_hit {es ws : List Eff} (n k : Nat) (hk : k < es.length) (hw : k < ws.length) (h : ∀ j (h1 : j < es.length) (h2 : j < ws.length), j < k → es[j] = ws[j]) (hne : es[k] ≠ ws[k]) : fwGo n es ws = n + k := by
  induction k generalizing n es ws with
  | zero =>
    cases es with
    | nil => simp at hk
    | cons x xs => cases ws with | nil => simp at hw | cons y ys => rw [fwGo, if_neg (by simpa using hne)]; rfl
  | succ k ih =>
    cases es with
    | nil => simp at hk
    | cons x xs =>
      cases ws with
      | nil => simp at hw
      | cons y ys =>
        have h0 := h 0 (by simp) (by simp) (by omega)
        simp only [List.getElem_cons_zero] at h0
        rw [fwGo, if_pos h0, ih (n + 1) (by simpa using hk) (by simpa using hw) (fun j h1 h2 hj => by have := h (j + 1) (by simpa using h1) (by simpa using h2) (by omega); simpa using this) (by simpa using hne)]
        omega
theorem fwGo_all {es ws : List Eff} (n : Nat) (hl : es.length = ws.length) (h : ∀ j (h1 : j < es.length) (h2 : j < ws.length), es[j] = ws[j]) : fwGo n es ws = n + es.length := by
  induction es generalizing n ws with
  | nil => cases ws <;> rfl
  | cons x xs ih =>
    cases ws with
    | nil => simp at hl
    | cons y ys =>
      have h0 := h 0 (by simp) (by simp)
      simp only [List.getElem_cons_zero] at h0
      rw [fwGo, if_pos h0, ih (n + 1) (by simpa using hl) (fun j h1 h2 => by have := h (j + 1) (by simpa using h1) (by simpa using h2); simpa using this), List.length_cons]
      omega
set_option maxRecDepth 100000 in
set_option maxHeartbeats 2000000 in
theorem firstWrong_impl (A : Option Addr) (ca : Nat) (s : List Ent) (B : Option Addr) (cb : Nat) (al : List Act) (C : Option Addr) (cc : Nat) (es : List Eff) (P : Nat → Prop) (w : World) (ha : Rd w A (s.flatMap encE)) (hla : s.length ≤ 1099511627776) (hb : Rd w B (al.flatMap encA)) (hlb : al.length ≤ 1099511627776) (hc : RdD effR P w C es) (hlc : es.length ≤ 1099511627776) (hbs : ∀ x ∈ es, x.reads.length ≤ 1048576 ∧ x.writes.length ≤ 1048576) :
    Calls Try.prog 26 #[.slice A s.length ca, .slice B al.length cb, .slice C es.length cc] w fun e w' => e = .returned (.int .i64 (firstW s al es)) ∧ Below w.heap.size w w' := by
  have HBS := hide hbs
  clear hbs
  cases hsa : storeB s
  · have HL := hide (show firstW s al es = -1 by unfold firstW; rw [if_neg (by simp [hsa])])
    go_enter Try.func26, Try.ntmps26
    go_wp2_with fail
    refine (storeB_impl A ca s w ha (by omega)).mono ?_
    rintro e w1 ⟨rfl, b1⟩
    rw [hsa]
    go_wp2
    go_ret
    exact ⟨reti (unhide HL).symm, b1⟩
  cases hab : actsB al
  · have HL := hide (show firstW s al es = -1 by unfold firstW; rw [if_neg (by simp [hab])])
    go_enter Try.func26, Try.ntmps26
    go_wp2_with fail
    refine (storeB_impl A ca s w ha (by omega)).mono ?_
    rintro e w1 ⟨rfl, b1⟩
    rw [hsa]
    go_wp2_with fail
    refine (actionsValid_impl B cb al w1 (hb.new b1) (by omega)).mono ?_
    rintro e w2 ⟨rfl, b2⟩
    rw [hab]
    go_wp2
    go_ret
    exact ⟨reti (unhide HL).symm, bthen b1 b2⟩
  by_cases hln : es.length = al.length
  rotate_left
  · have HL := hide (show firstW s al es = -1 by unfold firstW; rw [if_neg (by rintro ⟨_, _, h⟩; exact hln h)])
    have hd : ((es.length : Int) != (al.length : Int)) = true := by simp; omega
    clear hln
    go_enter Try.func26, Try.ntmps26
    go_wp2_with fail
    refine (storeB_impl A ca s w ha (by omega)).mono ?_
    rintro e w1 ⟨rfl, b1⟩
    rw [hsa]
    go_wp2_with fail
    refine (actionsValid_impl B cb al w1 (hb.new b1) (by omega)).mono ?_
    rintro e w2 ⟨rfl, b2⟩
    rw [hab]
    go_wp2
    go_ret
    exact ⟨reti (unhide HL).symm, bthen b1 b2⟩
  have hd : ((es.length : Int) != (al.length : Int)) = false := by simp [hln]
  have HLN := hide hln
  have HL := hide (show firstW s al es = (fwGo 0 es (runAllE (valsL s) al) : Int) by
    unfold firstW serialE
    rw [if_pos ⟨hsa, hab, hln⟩, if_pos ⟨hsa, hab⟩])
  have HKS := hide (store_keys hsa)
  have HV := hide (show valOk (valsL s) from valOk_vals (show evOk 1 (-1) s = true from hsa) (by omega))
  have HA := hide (acts_all hab)
  have hal := (actsB_yes hab).1
  clear hln
  go_enter Try.func26, Try.ntmps26
  go_wp2_with fail
  refine (storeB_impl A ca s w ha (by omega)).mono ?_
  rintro e w1 ⟨rfl, b1⟩
  rw [hsa]
  go_wp2_with fail
  refine (actionsValid_impl B cb al w1 (hb.new b1) (by omega)).mono ?_
  rintro e w2 ⟨rfl, b2⟩
  rw [hab]
  have hB2 := bthen b1 b2
  clear hsa hab
  go_wp2_with fail
  refine (valuesOf_any A ca s w2 (ha.new hB2) (by omega) (unhide HKS)).mono ?_
  rintro e w3 ⟨rfl, b3⟩
  have hB3 := bthen hB2 b3
  generalize valsL s = v at *
  go_wp2_with fail
  refine (runAll_any v B cb al w3 (unhide HV) (hb.new hB3) (unhide HA) (by omega)).mono ?_
  rintro e w4 ⟨A4, c4, rfl, hc4, r4, b4⟩
  have hB4 := bthen hB3 b4
  have HVO := hide (valOk_runAll (unhide HV) (unhide HA))
  have HEL := hide (runAllE_len v al)
  have HSM := hide (runAllE_small v al)
  generalize hrs : runAllE v al = rs at *
  have HRS := hide hrs
  clear hrs
  generalize runAllV v al = u at *
  have hul := (unhide HVO).1
  have hsU : (vA u).size = 32 := by rw [vA_size, hul]
  obtain ⟨k0, kU, bU⟩ := one_vals w4 87 u
  have hB5 := bthen hB4 bU
  have r5 := r4.new eff_good bU
  go_wp2_with (first | (refine wpList_store_row rfl 87 (.tmp 7) (.tmp 31) rfl w4.heap.size (vA u) rfl rfl 87 _ k0 (by rw [hsU]; exact info_vals) (by rw [hsU]; rfl) (vA_one _) ?_) | fail)
  refine at_world (C := fun w => Code.wp _ _ _ _ w) (F := fun x => Below w.heap.size w x ∧ RdD effR (fun k => w3.heap.size ≤ k) x A4 rs) ⟨hB5, r5⟩ ?_
  clear r4 r5 hB5 bU kU k0 b4 b3 b1 b2
  rintro wF ⟨hB5, r5⟩
  go_loopw [9, 10, 35] (fun _ _ i wr => ∃ (k : Nat), k ≤ es.length ∧ i = .int .i64 k ∧ Hid (∀ j (h1 : j < es.length) (h2 : j < rs.length), j < k → es[j] = rs[j]) ∧ Below wF.heap.size wF wr) (fun _ _ i _ => es.length - (intOf i).toNat)
  case atStart => exact ⟨0, Nat.zero_le _, rfl, hide fun j _ _ hj => absurd hj (by omega), Below.refl _ _⟩
  case round =>
    obtain ⟨k, hk, rfl, HS, hB⟩ := hrel
    have hBr := bthen hB5 hB
    by_cases hlt : k < es.length
    · have hlt2 : k < rs.length := by rw [unhide HEL, ← unhide HLN]; exact hlt
      obtain ⟨b, off, A1, c1, A3, c3, rfl, hbP, hbb, d0, d1, d2, -, -, q1, q3⟩ := (hc.new eff_good hBr).eff hlt
      obtain ⟨b', off', E1, f1, E3, f3, rfl, hbP', hbb', g0, g1, g2, -, -, p1, p3⟩ := (r5.new eff_good hB).eff hlt2
      obtain ⟨hx1, hx2⟩ := unhide HBS es[k] (List.getElem_mem hlt)
      have HNX := hide (fun (hh : es[k] = rs[k]) => show ∀ j (h1 : j < es.length) (h2 : j < rs.length), j < k + 1 → es[j] = rs[j] from fun j h1 h2 hj => by
        rcases Nat.lt_or_ge j k with h3 | h3
        · exact unhide HS j h1 h2 h3
        · have : j = k := by omega
          subst this
          exact hh)
      have HHIT := hide (fun (hh : es[k] ≠ rs[k]) => show firstW s al es = (k : Int) by rw [unhide HL, fwGo_hit 0 k hlt hlt2 (unhide HS) hh, Nat.zero_add])
      generalize es[k] = x at *
      generalize rs[k] = y at *
      have i1 : (k : Int) < (es.length : Int) := by omega
      have i2 : (k : Int) < (rs.length : Int) := by omega
      have hbx : Below wr.heap.size wr (wr.alloc (.cells #[.bool x.done, .slice A1 x.reads.length c1, .slice A3 x.writes.length c3] 71)) := (Below.refl _ _).alloc (Nat.le_refl _) _
      have kx := Blk.new wr 71 #[.bool x.done, .slice A1 x.reads.length c1, .slice A3 x.writes.length c3]
      replace q1 := q1.rd
      replace q3 := q3.rd
      replace p1 := p1.rd
      replace p3 := p3.rd
      go_wp2
      refine at_world (C := fun w => Code.wp _ _ _ _ w) (F := fun W => Blk W wr.heap.size 71 #[.bool x.done, .slice A1 x.reads.length c1, .slice A3 x.writes.length c3] ∧ Below wr.heap.size wr W) ⟨kx, hbx⟩ ?_
      clear kx hbx
      rintro w5 ⟨kx, hbx⟩
      have e0 : w5.cell? ⟨wr.heap.size, 0, none⟩ = some (.bool x.done) := kx.cell 0
      have e1 : w5.cell? ⟨wr.heap.size, 1, none⟩ = some (.slice A1 x.reads.length c1) := kx.cell 1
      have e2 : w5.cell? ⟨wr.heap.size, 2, none⟩ = some (.slice A3 x.writes.length c3) := kx.cell 2
      have g0' : w5.cell? ⟨b', off' + k * 3, none⟩ = some (.bool y.done) := (hbx.cell (p := ⟨b', off' + k * 3, none⟩) hbb').trans g0
      have g1' : w5.cell? ⟨b', off' + k * 3 + 1, none⟩ = some (.slice E1 y.reads.length f1) := (hbx.cell (p := ⟨b', off' + k * 3 + 1, none⟩) hbb').trans g1
      have g2' : w5.cell? ⟨b', off' + k * 3 + 2, none⟩ = some (.slice E3 y.writes.length f3) := (hbx.cell (p := ⟨b', off' + k * 3 + 2, none⟩) hbb').trans g2
      have hbd : Below wr.heap.size wr w5.drew := hbx.drew
      have K := hide (same_any x y A1 c1 A3 c3 E1 f1 E3 f3 w5.drew (q1.new hbd) (q3.new hbd) (p1.new hbd) (p3.new hbd) (by omega) (by omega))
      clear q1 q3 p1 p3 g0 g1 g2 d0 d1 d2 kx hbx
      by_cases hxy : x = y
      · rw [decide_eq_true hxy] at K
        have HN := hide (unhide HNX hxy)
        clear HNX HHIT hxy
        go_still_tail 5, (by kernel_rfl)
        change wpList _ _ _ _ _ w5.drew
        go_wp2_with fail
        refine (unhide K).mono ?_
        rintro e w6 ⟨rfl, b6⟩
        go_wp2
        go_roundw
        case rel => exact ⟨k + 1, by omega, by go_num, HN, bthen hB (bthen hbd b6)⟩
        case measure => simp [intOf]; omega
      · rw [decide_eq_false hxy] at K
        have HN := hide (unhide HHIT hxy)
        clear HNX HHIT hxy
        go_still_tail 5, (by kernel_rfl)
        change wpList _ _ _ _ _ w5.drew
        go_wp2_with fail
        refine (unhide K).mono ?_
        rintro e w6 ⟨rfl, b6⟩
        go_wp2
        go_ret
        exact ⟨reti (unhide HN).symm, bthen hBr (bthen hbd b6)⟩
    · obtain rfl : k = es.length := by omega
      have HN := hide (show firstW s al es = (al.length : Int) by rw [unhide HL, fwGo_all 0 (by rw [unhide HEL, unhide HLN]) (fun j h1 h2 => unhide HS j h1 h2 h1), Nat.zero_add, unhide HLN])
      go_wp2
      go_ret
      exact ⟨reti (unhide HN).symm, hBr⟩
end Go.Proofs.Ytiaodcjocogkkaa
