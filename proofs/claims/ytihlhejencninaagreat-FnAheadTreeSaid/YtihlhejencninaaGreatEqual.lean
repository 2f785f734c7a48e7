/- slices.Equal at versions and at numbers. -/
import Derived.Test.YtihlhejencninaaGreatVersI
import Derived.Test.YtihlhejencninaaGreatGact
import Derived.Test.YtihlhejencninaaGreatGint
namespace Go.Proofs.YtihlhejencninaaGreat
open Go.RowKit
set_option linter.unusedVariables false
set_option linter.unusedSimpArgs false

theorem hm_ver : Tryz.prog.eqGuardType Tryz.prog.depth 166 = false := by kernel_rfl
theorem hs_ver : Tryz.prog.stoodInHeld 166 = false := by kernel_rfl
theorem hS_ver : Tryz.prog.underlying 166 = some (.struct (Tryz.prog.fieldsOf 166)) := by kernel_rfl
theorem eqIn_ver (a b : Ver) (w : World) : (Op.equalIn 10000 166 (.agg #[.int .i64 a.k, .int .i64 a.n, .int .i64 a.v]) (.agg #[.int .i64 b.k, .int .i64 b.n, .int .i64 b.v])).run Tryz.prog w = .ok (decide (a = b)) w := by
 have h3 : Tryz.prog.underlying 3 = some (.int .i64) := Tryz.underlying3
 rw [show (10000 : Nat) = 9998 + 2 from rfl, run_equalIn_agg w _ _ _ _ hS_ver hs_ver]
 simp only [Program.fieldsOf, Tryz.underlying166]
 obtain ⟨a1, a2, a3⟩ := a
 obtain ⟨b1, b2, b3⟩ := b
 simp [go_sem, h3]
 by_cases h1 : a1 = b1 <;> by_cases h2 : a2 = b2 <;> by_cases h3 : a3 = b3 <;> simp [h1, h2, h3]
theorem equalV_any (A B : Option Addr) (c d : Nat) (xs ys : List Ver) (w : World) (hx : Rd w A (xs.flatMap encV)) (hy : Rd w B (ys.flatMap encV)) (hbx : xs.length ≤ 4611686018427387904) :
   Calls Tryz.prog 165 #[.slice A xs.length c, .slice B ys.length d] w fun e w' => e = .returned (.bool (decide (xs = ys))) ∧ ∃ m, w.drewN m = w' := by
 by_cases hl : xs.length = ys.length
 · have hd : ((xs.length : Int) != (ys.length : Int)) = false := by simp [hl]
   have HL := hide hl
   have hl1 : xs.length ≤ ys.length := by omega
   have hl2 : ys.length ≤ xs.length := by omega
   clear hl
   go_enter Tryz.func165, Tryz.ntmps165
   go_wp2
   go_loopw [5, 13] (fun _ i wr => ∃ k : Nat, k ≤ xs.length ∧ i = .int .i64 k ∧ (∀ j (h1 : j < xs.length) (h2 : j < ys.length), j < k → xs[j] = ys[j]) ∧ ∃ m, w.drewN m = wr) (fun _ i _ => xs.length - (intOf i).toNat)
   case atStart => exact ⟨0, Nat.zero_le _, rfl, fun j _ _ h => absurd h (by omega), 0, rfl⟩
   case round =>
     obtain ⟨k, hk, rfl, hsame, m, rfl⟩ := hrel
     have HS := hide hsame
     clear hsame
     by_cases hlt : k < xs.length
     · have hlt2 : k < ys.length := by omega
       obtain ⟨b, off, rfl, hbb, c0, c1, c2⟩ := hx.ver hlt
       obtain ⟨b', off', rfl, hbb', d0, d1, d2⟩ := hy.ver hlt2
       generalize hxk : xs[k] = xk at *
       generalize hyk : ys[k] = yk at *
       have HX := hide hxk
       have HY := hide hyk
       clear hxk hyk
       have i1 : (k : Int) < (xs.length : Int) := by omega
       have i2 : (k : Int) < (ys.length : Int) := by omega
       have e0 := eqIn_ver xk yk
       have e1 := hm_ver
       by_cases he : xk = yk
       · have e2 : decide (xk = yk) = true := by simpa using he
         have HE := hide he
         clear he
         rw [e2] at e0
         clear e2
         go_wp2
         go_quiet (fail)
         go_wp2
         go_roundw
         case rel =>
           refine ⟨k + 1, by omega, by go_num, fun j h1 h2 h3 => ?_, m + nq, rfl⟩
           rcases Nat.lt_or_ge j k with h4 | h4
           · exact unhide HS j h1 h2 h4
           · have : j = k := by omega
             subst this
             rw [unhide HX, unhide HY]
             exact unhide HE
         case measure => simp [intOf]; omega
       · have e2 : decide (xk = yk) = false := by simpa using he
         have HR := hide (show decide (xs = ys) = false by
           rw [decide_eq_false_iff_not]
           intro hh
           apply he
           subst hh
           rw [← unhide HX, ← unhide HY])
         clear he
         rw [e2] at e0
         clear e2
         go_wp2
         go_quiet (fail)
         go_wp2
         go_ret
         exact ⟨retb (unhide HR).symm, _, (World.drewN_drewN _ _ _).symm⟩
     · have HR := hide (show decide (xs = ys) = true by
         rw [decide_eq_true_eq]
         exact List.ext_getElem (unhide HL) fun j h1 h2 => unhide HS j h1 h2 (by omega))
       go_wp2
       go_ret
       exact ⟨retb (unhide HR).symm, m, rfl⟩
 · have hd : ((xs.length : Int) != (ys.length : Int)) = true := by simp; omega
   have HR := hide (show decide (xs = ys) = false by rw [decide_eq_false_iff_not]; intro hh; exact hl (by rw [hh]))
   clear hl
   go_enter Tryz.func165, Tryz.ntmps165
   go_wp2
   go_ret
   exact ⟨retb (unhide HR).symm, 0, rfl⟩
theorem equalI_any (A B : Option Addr) (c d : Nat) (xs ys : List Int) (w : World) (hx : Rd w A (xs.map (.int .i64))) (hy : Rd w B (ys.map (.int .i64))) (hbx : xs.length ≤ 4611686018427387904) :
   Calls Tryz.prog 188 #[.slice A xs.length c, .slice B ys.length d] w fun e w' => e = .returned (.bool (decide (xs = ys))) ∧ ∃ m, w.drewN m = w' := by
 by_cases hl : xs.length = ys.length
 · have hd : ((xs.length : Int) != (ys.length : Int)) = false := by simp [hl]
   have HL := hide hl
   have hl1 : xs.length ≤ ys.length := by omega
   have hl2 : ys.length ≤ xs.length := by omega
   clear hl
   go_enter Tryz.func188, Tryz.ntmps188
   go_wp2
   go_loopw [5, 13] (fun _ i wr => ∃ k : Nat, k ≤ xs.length ∧ i = .int .i64 k ∧ (∀ j (h1 : j < xs.length) (h2 : j < ys.length), j < k → xs[j] = ys[j]) ∧ ∃ m, w.drewN m = wr) (fun _ i _ => xs.length - (intOf i).toNat)
   case atStart => exact ⟨0, Nat.zero_le _, rfl, fun j _ _ h => absurd h (by omega), 0, rfl⟩
   case round =>
     obtain ⟨k, hk, rfl, hsame, m, rfl⟩ := hrel
     have HS := hide hsame
     clear hsame
     by_cases hlt : k < xs.length
     · have hlt2 : k < ys.length := by omega
       obtain ⟨b, off, rfl, hbb, c0⟩ := hx.int hlt
       obtain ⟨b', off', rfl, hbb', d0⟩ := hy.int hlt2
       generalize hxk : xs[k] = xk at *
       generalize hyk : ys[k] = yk at *
       have HX := hide hxk
       have HY := hide hyk
       clear hxk hyk
       have i1 : (k : Int) < (xs.length : Int) := by omega
       have i2 : (k : Int) < (ys.length : Int) := by omega
       by_cases he : xk = yk
       · have e2 : (xk != yk) = false := by simp [he]
         have HE := hide he
         clear he
         go_wp2
         go_quiet (fail)
         go_wp2
         go_roundw
         case rel =>
           refine ⟨k + 1, by omega, by go_num, fun j h1 h2 h3 => ?_, m + nq, rfl⟩
           rcases Nat.lt_or_ge j k with h4 | h4
           · exact unhide HS j h1 h2 h4
           · have : j = k := by omega
             subst this
             rw [unhide HX, unhide HY]
             exact unhide HE
         case measure => simp [intOf]; omega
       · have e2 : (xk != yk) = true := by simp [he]
         have HR := hide (show decide (xs = ys) = false by
           rw [decide_eq_false_iff_not]
           intro hh
           apply he
           subst hh
           rw [← unhide HX, ← unhide HY])
         clear he
         go_wp2
         go_quiet (fail)
         go_wp2
         go_ret
         exact ⟨retb (unhide HR).symm, _, (World.drewN_drewN _ _ _).symm⟩
     · have HR := hide (show decide (xs = ys) = true by
         rw [decide_eq_true_eq]
         exact List.ext_getElem (unhide HL) fun j h1 h2 => unhide HS j h1 h2 (by omega))
       go_wp2
       go_ret
       exact ⟨retb (unhide HR).symm, m, rfl⟩
 · have hd : ((xs.length : Int) != (ys.length : Int)) = true := by simp; omega
   have HR := hide (show decide (xs = ys) = false by rw [decide_eq_false_iff_not]; intro hh; exact hl (by rw [hh]))
   clear hl
   go_enter Tryz.func188, Tryz.ntmps188
   go_wp2
   go_ret
   exact ⟨retb (unhide HR).symm, 0, rfl⟩
end Go.Proofs.YtihlhejencninaaGreat
