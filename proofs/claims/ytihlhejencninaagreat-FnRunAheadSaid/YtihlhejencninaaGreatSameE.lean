/- sameEffect and sameEffects of the laws: two effects, or two slices of effects, are equal. -/
import Derived.Test.YtihlhejencninaaGreatGrun
import Derived.Test.YtihlhejencninaaGreatGact
import Derived.Test.YtihlhejencninaaGreatGeff
namespace Go.Proofs.YtihlhejencninaaGreat
open Go.RowKit
set_option linter.unusedVariables false
set_option linter.unusedSimpArgs false

set_option maxHeartbeats 1000000 in
theorem sameEffect_any (x y : Eff) (A1 : Option Addr) (c1 : Nat) (A2 : Option Addr) (c2 : Nat) (B1 : Option Addr) (d1 : Nat) (B2 : Option Addr) (d2 : Nat) (w : World) (h1 : Rd w A1 (x.reads.flatMap encE)) (h2 : Rd w A2 (x.writes.flatMap encE)) (k1 : Rd w B1 (y.reads.flatMap encE)) (k2 : Rd w B2 (y.writes.flatMap encE)) (hb1 : x.reads.length ≤ 4611686018427387904) (hb2 : x.writes.length ≤ 4611686018427387904) :
    Calls Tryz.prog 81 #[.agg #[.bool x.done, .slice A1 x.reads.length c1, .slice A2 x.writes.length c2], .agg #[.bool y.done, .slice B1 y.reads.length d1, .slice B2 y.writes.length d2]] w fun e w' => e = .returned (.bool (decide (x = y))) ∧ Below w.heap.size w w' := by
  have hb0 : Below w.heap.size w ((w.alloc (.cells #[.bool x.done, .slice A1 x.reads.length c1, .slice A2 x.writes.length c2] 107)).alloc (.cells #[.bool y.done, .slice B1 y.reads.length d1, .slice B2 y.writes.length d2] 107)) := ((Below.refl _ _).alloc (Nat.le_refl _) _).alloc (by simp) _
  have K0 := (Blk.new w 107 #[.bool x.done, .slice A1 x.reads.length c1, .slice A2 x.writes.length c2]).alloc (.cells #[.bool y.done, .slice B1 y.reads.length d1, .slice B2 y.writes.length d2] 107)
  have K1 := Blk.new (w.alloc (.cells #[.bool x.done, .slice A1 x.reads.length c1, .slice A2 x.writes.length c2] 107)) 107 #[.bool y.done, .slice B1 y.reads.length d1, .slice B2 y.writes.length d2]
  simp only [World.size_alloc] at K1
  cases hd : (x.done == y.done)
  · have HR := hide (show decide (x = y) = false by
      rw [decide_eq_false_iff_not]; rintro rfl; simp at hd)
    go_enter Tryz.func81, Tryz.ntmps81
    go_wp2
    go_ret
    exact ⟨retb (unhide HR).symm, hb0⟩
  have HD := hide (show x.done = y.done by simpa using hd)
  go_enter Tryz.func81, Tryz.ntmps81
  go_wp2_with fail
  refine (sameStore_any A1 B1 c1 d1 x.reads y.reads _ (h1.new hb0) (k1.new hb0) hb1).mono ?_
  rintro e w' ⟨rfl, m1, rfl⟩
  replace K0 := K0.drewN m1
  replace K1 := K1.drewN m1
  have hB1 := below_drewN hb0 m1
  generalize World.drewN _ m1 = w1 at *
  have z2 : w1.cell? ⟨w.heap.size, 2, none⟩ = some (.slice A2 x.writes.length c2) := K0.cell 2
  have y2 : w1.cell? ⟨w.heap.size + 1, 2, none⟩ = some (.slice B2 y.writes.length d2) := K1.cell 2
  by_cases hr : x.reads = y.reads
  · rw [decide_eq_true hr]
    have HRR := hide hr
    clear hr
    go_wp2_with fail
    refine (sameStore_any A2 B2 c2 d2 x.writes y.writes _ (h2.new hB1) (k2.new hB1) hb2).mono ?_
    rintro e w' ⟨rfl, m2, rfl⟩
    have HR := hide (show decide (x = y) = decide (x.writes = y.writes) by
      by_cases hw : x.writes = y.writes
      · rw [decide_eq_true hw, decide_eq_true (eff_ext (unhide HD) (unhide HRR) hw)]
      · rw [decide_eq_false hw, decide_eq_false (fun e => hw (by rw [e]))])
    go_wp2
    go_ret
    exact ⟨retb (unhide HR).symm, below_drewN hB1 m2⟩
  · rw [decide_eq_false hr]
    have HR := hide (show decide (x = y) = false from decide_eq_false (fun e => hr (by rw [e])))
    clear hr
    go_wp2
    go_ret
    exact ⟨retb (unhide HR).symm, hB1⟩
set_option maxRecDepth 100000 in
set_option maxHeartbeats 1000000 in
theorem sameEffects_any (A B : Option Addr) (c d : Nat) (xs ys : List Eff) (w : World) (P Q : Nat → Prop) (hx : RdD effR P w A xs) (hy : RdD effR Q w B ys) (hbx : xs.length ≤ 4611686018427387904) (hbs : ∀ x ∈ xs, x.reads.length ≤ 4611686018427387904 ∧ x.writes.length ≤ 4611686018427387904) :
    Calls Tryz.prog 41 #[.slice A xs.length c, .slice B ys.length d] w fun e w' => e = .returned (.bool (decide (xs = ys))) ∧ Below w.heap.size w w' := by
  have HBS := hide hbs
  clear hbs
  by_cases hl : xs.length = ys.length
  · have hd : ((xs.length : Int) != (ys.length : Int)) = false := by simp [hl]
    have HL := hide hl
    have hl1 : xs.length ≤ ys.length := by omega
    have hl2 : ys.length ≤ xs.length := by omega
    clear hl
    go_enter Tryz.func41, Tryz.ntmps41
    go_wp2
    go_loopw [5] (fun i wr => ∃ k : Nat, k ≤ xs.length ∧ i = .int .i64 k ∧ (∀ j (h1 : j < xs.length) (h2 : j < ys.length), j < k → xs[j] = ys[j]) ∧ Below w.heap.size w wr) (fun i _ => xs.length - (intOf i).toNat)
    case atStart => exact ⟨0, Nat.zero_le _, rfl, fun j _ _ h => absurd h (by omega), Below.refl _ _⟩
    case round =>
      obtain ⟨k, hk, rfl, hsame, hbel⟩ := hrel
      have HS := hide hsame
      clear hsame
      by_cases hlt : k < xs.length
      · have hlt2 : k < ys.length := by omega
        obtain ⟨b, off, A1, c1, A2, c2, rfl, hbP, hbb, d0, d1, d2, hl1', hl2', r1, r2⟩ := (hx.new eff_good hbel).eff hlt
        obtain ⟨b', off', B1, e1, B2, e2, rfl, hbP', hbb', f0, f1, f2, _, _, q1, q2⟩ := (hy.new eff_good hbel).eff hlt2
        obtain ⟨hx1, hx2⟩ := unhide HBS xs[k] (List.getElem_mem hlt)
        generalize hxk : xs[k] = xk at *
        generalize hyk : ys[k] = yk at *
        have HX := hide hxk
        have HY := hide hyk
        clear hxk hyk
        have i1 : (k : Int) < (xs.length : Int) := by omega
        have i2 : (k : Int) < (ys.length : Int) := by omega
        have hbel2 := hbel.drew
        have K := hide (sameEffect_any xk yk A1 c1 A2 c2 B1 e1 B2 e2 wr.drew r1.rd.drew r2.rd.drew q1.rd.drew q2.rd.drew hx1 hx2)
        clear r1 r2 q1 q2 hl1' hl2'
        by_cases he : xk = yk
        · have hn : decide (xk = yk) = true := by simp [he]
          have HE := hide he
          rw [hn] at K
          clear he hn
          go_wp2
          go_still_tail 8, (by kernel_rfl)
          change wpList _ _ _ _ _ wr.drew
          go_wp2_with fail
          refine (unhide K).mono ?_
          rintro e w1 ⟨rfl, hb1⟩
          go_wp2
          go_roundw
          case rel =>
            refine ⟨k + 1, by omega, by go_num, fun j h1 h2 hj => ?_, below_then hbel2 hb1 hbel2.size⟩
            rcases Nat.lt_or_ge j k with h3 | h3
            · exact unhide HS j h1 h2 h3
            · have : j = k := by omega
              subst this
              exact (unhide HX).trans ((unhide HE).trans (unhide HY).symm)
          case measure => simp [intOf]; omega
        · have hn : decide (xk = yk) = false := by simp [he]
          have HE := hide he
          rw [hn] at K
          clear he hn
          go_wp2
          go_still_tail 8, (by kernel_rfl)
          change wpList _ _ _ _ _ wr.drew
          go_wp2_with fail
          refine (unhide K).mono ?_
          rintro e w1 ⟨rfl, hb1⟩
          go_wp2
          go_ret
          refine ⟨retb ?_, below_then hbel2 hb1 hbel2.size⟩
          symm
          rw [decide_eq_false_iff_not]
          intro hxy
          apply unhide HE
          have h1 := unhide HX
          have h2 := unhide HY
          subst hxy
          exact h1.symm.trans h2
      · go_wp2
        go_ret
        refine ⟨retb ?_, hbel⟩
        symm
        rw [decide_eq_true_iff]
        exact List.ext_getElem (unhide HL) fun j h1 h2 => unhide HS j h1 h2 (by omega)
  · have hd : ((xs.length : Int) != (ys.length : Int)) = true := by simp; omega
    have HL := hide hl
    clear hl
    go_enter Tryz.func41, Tryz.ntmps41
    go_wp2
    go_ret
    refine ⟨retb ?_, Below.refl _ _⟩
    symm
    rw [decide_eq_false_iff_not]
    exact fun h => unhide HL (by rw [h])
end Go.Proofs.YtihlhejencninaaGreat
