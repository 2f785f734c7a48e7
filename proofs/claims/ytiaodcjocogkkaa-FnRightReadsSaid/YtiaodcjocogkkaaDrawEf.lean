/- Stores, actions and effects that are drawn: DrawEffectsStore, DrawRightReads, DrawFirstWrong. -/
import Derived.Test.YtiaodcjocogkkaaDrawCl
namespace Go.Proofs.Ytiaodcjocogkkaa
open Go.RowKit
set_option linter.unusedVariables false
set_option linter.unusedSimpArgs false

theorem DrawEffectsStore_any (A : Option Addr) (c : Nat) (bs : List Int) (w : World) (h : Rd w A (bs.map (.int .u8))) (hw : ∀ b ∈ bs, 0 ≤ b ∧ b ≤ 255) (hc : bs.length ≤ c) (hm : c ≤ maxLen) :
    Calls Try.prog 36 #[.slice A bs.length c] w fun e w' => ∃ (A1 : Option Addr) (c1 : Nat) (s : List Ent) (C : Option Addr) (cc : Nat) (es : List Eff), s.length ≤ 7 ∧ es.length ≤ 10 ∧ (∀ x ∈ es, x.reads.length ≤ 3 ∧ x.writes.length ≤ 3) ∧ (es.length ≤ cc ∧ cc ≤ maxLen) ∧ e = .returned (.tuple #[.slice A1 s.length c1, .slice C es.length cc]) ∧ Rd w' A1 (s.flatMap encE) ∧ RdD effR (fun _ => True) w' C es ∧ Below w.heap.size w w' := by
  go_enter Try.func36, Try.ntmps36
  go_wp2_with fail
  refine (open_any A c bs w h hw hc hm).mono ?_
  rintro e w1 ⟨rfl, r1, b1⟩
  go_wp2_with fail
  refine (l20Claim_any _ 0 w1 r1 (by omega)).mono ?_
  rintro e w2 ⟨A1, c1, s, B, cb, al, C, cc, es, h1, h2, h3, h4, h5, rfl, o1, o2, r3, ch⟩
  go_wp2
  go_ret2
  exact ⟨A1, c1, s, C, cc, es, h1, h3, h4, h5, rfl, own_rd o1, r3.mono eff_good (fun _ _ _ => trivial), b1.trans (ch.below (fun k hk e => by omega) b1.size)⟩
theorem DrawRightReads_any (A : Option Addr) (c : Nat) (bs : List Int) (w : World) (h : Rd w A (bs.map (.int .u8))) (hw : ∀ b ∈ bs, 0 ≤ b ∧ b ≤ 255) (hc : bs.length ≤ c) (hm : c ≤ maxLen) :
    Calls Try.prog 43 #[.slice A bs.length c] w fun e w' => ∃ (A1 : Option Addr) (c1 : Nat) (s : List Ent) (C : Option Addr) (cc : Nat) (es : List Eff), s.length ≤ 7 ∧ es.length ≤ 10 ∧ (∀ x ∈ es, x.reads.length ≤ 3 ∧ x.writes.length ≤ 3) ∧ (es.length ≤ cc ∧ cc ≤ maxLen) ∧ e = .returned (.tuple #[.slice A1 s.length c1, .slice C es.length cc]) ∧ Rd w' A1 (s.flatMap encE) ∧ RdD effR (fun _ => True) w' C es ∧ Below w.heap.size w w' := by
  go_enter Try.func43, Try.ntmps43
  go_wp2_with fail
  refine (open_any A c bs w h hw hc hm).mono ?_
  rintro e w1 ⟨rfl, r1, b1⟩
  go_wp2_with fail
  refine (l20Claim_any _ 0 w1 r1 (by omega)).mono ?_
  rintro e w2 ⟨A1, c1, s, B, cb, al, C, cc, es, h1, h2, h3, h4, h5, rfl, o1, o2, r3, ch⟩
  go_wp2
  go_ret2
  exact ⟨A1, c1, s, C, cc, es, h1, h3, h4, h5, rfl, own_rd o1, r3.mono eff_good (fun _ _ _ => trivial), b1.trans (ch.below (fun k hk e => by omega) b1.size)⟩
theorem DrawFirstWrong_any (A : Option Addr) (c : Nat) (bs : List Int) (w : World) (h : Rd w A (bs.map (.int .u8))) (hw : ∀ b ∈ bs, 0 ≤ b ∧ b ≤ 255) (hc : bs.length ≤ c) (hm : c ≤ maxLen) :
    Calls Try.prog 40 #[.slice A bs.length c] w fun e w' => ∃ (A1 : Option Addr) (c1 : Nat) (s : List Ent) (B : Option Addr) (cb : Nat) (al : List Act) (C : Option Addr) (cc : Nat) (es : List Eff), s.length ≤ 7 ∧ al.length ≤ 11 ∧ es.length ≤ 10 ∧ (∀ x ∈ es, x.reads.length ≤ 3 ∧ x.writes.length ≤ 3) ∧ (es.length ≤ cc ∧ cc ≤ maxLen) ∧ e = .returned (.tuple #[.slice A1 s.length c1, .slice B al.length cb, .slice C es.length cc]) ∧ Rd w' A1 (s.flatMap encE) ∧ Rd w' B (al.flatMap encA) ∧ RdD effR (fun _ => True) w' C es ∧ Below w.heap.size w w' := by
  go_enter Try.func40, Try.ntmps40
  go_wp2_with fail
  refine (open_any A c bs w h hw hc hm).mono ?_
  rintro e w1 ⟨rfl, r1, b1⟩
  go_wp2_with fail
  refine (l20Claim_any _ 0 w1 r1 (by omega)).mono ?_
  rintro e w2 ⟨A1, c1, s, B, cb, al, C, cc, es, h1, h2, h3, h4, h5, rfl, o1, o2, r3, ch⟩
  go_wp2
  go_ret3
  exact ⟨A1, c1, s, B, cb, al, C, cc, es, h1, h2, h3, h4, h5, rfl, own_rd o1, own_rd o2, r3.mono eff_good (fun _ _ _ => trivial), b1.trans (ch.below (fun k hk e => by omega) b1.size)⟩
end Go.Proofs.Ytiaodcjocogkkaa
