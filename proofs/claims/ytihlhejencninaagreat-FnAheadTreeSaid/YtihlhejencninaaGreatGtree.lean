/- Slices of blocks, in the laws: to, eq, sz. Slices of blocks, in the laws: mark. Block by value, in the laws: to, sz, eq. Printed by gen_val.py. Trees of blocks as data, and by value in the laws: to, eq, sz, mark. Trees of sums over stores: LeafSum, levels, RootOf of the program. Proofs and answers: ProofRoot, ProofRight, BlockValid, AnswerRight of impl and spec. The sum of a block, of both sides (printed by gen_in.py from xbsum.in). Levels, roots and proofs of stores, of both sides; sums of no effects; first blocks (printed by gen_in.py from xroots.in). Equal blocks, of both sides; numbers looked for in slices (printed by gen_in.py from xbsame.in). -/
import Derived.Test.YtihlhejencninaaGreatGeff
import Derived.Test.YtihlhejencninaaGreatGmem
import Derived.Test.YtihlhejencninaaGreatGint
import Derived.Test.YtihlhejencninaaGreatGval
import Derived.Test.YtihlhejencninaaGreatGact
import Derived.Test.YtihlhejencninaaGreatGrun
import Derived.Test.YtihlhejencninaaGreatGloc
import Derived.Deep.Cut
import Derived.Test.YtihlhejencninaaGreatRunSpec
namespace Go.Proofs.YtihlhejencninaaGreat
open Go.RowKit
set_option linter.unusedVariables false
set_option linter.unusedSimpArgs false

def bkV (x : Bk) (A : Option Addr) (c : Nat) : List Value := [.int .i64 x.before, .int .i64 x.height, .int .i64 x.view, .slice A x.list.length c, .int .i64 x.root, .int .i64 x.eff]
/-- a block in six cells -/
def bkR : Rel Bk := fun P x w cs => ∃ A c, cs = bkV x A c ∧ (x.list.length ≤ c ∧ c ≤ maxLen) ∧ RdP P w A (x.list.flatMap encA)
theorem bk_good : Good bkR 6 :=
 ⟨fun ⟨_, _, h, _⟩ => by rw [h]; rfl, fun ⟨A, c, h0, h1, h2⟩ hPQ => ⟨A, c, h0, h1, h2.mono hPQ⟩, fun ⟨A, c, h0, h1, h2⟩ hk => ⟨A, c, h0, h1, h2.keep hk⟩⟩
def bkO : ORel Bk := fun x w cs fp => ∃ A c, cs = bkV x A c ∧ w.ownsRow 0 56 4 (.slice A x.list.length c) x.list.length (x.list.flatMap encA) ∧ fp = blk A
theorem bkO_good : OGood bkO bkR :=
 ⟨fun ⟨A, c, h0, h1, h3⟩ => ⟨A, c, h0, own_cap h1, (own_rdP h1).mono fun k hk _ => by rw [h3]; exact mem_blk hk.2⟩,
  fun ⟨A, c, h0, h1, h3⟩ hk => ⟨A, c, h0, own_keep h1 fun g hA hg => hk g (by rw [h3]; exact mem_blk hA) hg, h3⟩,
  fun ⟨A, c, h0, h1, h3⟩ k hk => by
   rw [h3] at hk
   exact (blk_own h1 hk).2.2⟩
theorem RdD.bk {P : Nat → Prop} {w : World} {A : Option Addr} {xs : List Bk} (h : RdD bkR P w A xs) {k : Nat} (hk : k < xs.length) :
   ∃ b off A1 c1, A = some ⟨b, off, none⟩ ∧ P b ∧ b < w.heap.size ∧ w.cell? ⟨b, off + k * 6, none⟩ = some (.int .i64 xs[k].before) ∧ w.cell? ⟨b, off + k * 6 + 1, none⟩ = some (.int .i64 xs[k].height) ∧ w.cell? ⟨b, off + k * 6 + 2, none⟩ = some (.int .i64 xs[k].view) ∧ w.cell? ⟨b, off + k * 6 + 3, none⟩ = some (.slice A1 xs[k].list.length c1) ∧ w.cell? ⟨b, off + k * 6 + 4, none⟩ = some (.int .i64 xs[k].root) ∧ w.cell? ⟨b, off + k * 6 + 5, none⟩ = some (.int .i64 xs[k].eff) ∧
     (xs[k].list.length ≤ c1 ∧ c1 ≤ maxLen) ∧ RdP P w A1 (xs[k].list.flatMap encA) := by
 obtain ⟨b, off, cs, hA, hp, hb, ⟨A1, c1, rfl, h1, h3⟩, hc⟩ := h.get bk_good (by omega) hk
 exact ⟨b, off, A1, c1, hA, hp, hb, hc 0 _ rfl, hc 1 _ rfl, hc 2 _ rfl, hc 3 _ rfl, hc 4 _ rfl, hc 5 _ rfl, h1, h3⟩
theorem info_bk : (Tryz.prog.info? 32).map (fun i => (i.zero, i.size, i.bytes)) = some (some (.agg #[.int .i64 0, .int .i64 0, .int .i64 0, .slice none 0 0, .int .i64 0, .int .i64 0]), 6, 64) := by kernel_rfl
theorem el_bk : El Tryz.prog 67 32 6 64 := El.mk_ Tryz.underlying67 info_bk rfl (by omega)
theorem chg_set6 (w : World) (g o : Nat) (x0 x1 x2 x3 x4 x5 : Value) : Chg (fun q => q = g) w ((((((w.setCell ⟨g, o, none⟩ x0).setCell ⟨g, o + 1, none⟩ x1).setCell ⟨g, o + 2, none⟩ x2).setCell ⟨g, o + 3, none⟩ x3).setCell ⟨g, o + 4, none⟩ x4).setCell ⟨g, o + 5, none⟩ x5) :=
 ((((((Chg.refl (fun q => q = g) w).setCell (.inl rfl) _).setCell (.inl rfl) _).setCell (.inl rfl) _).setCell (.inl rfl) _).setCell (.inl rfl) _).setCell (.inl rfl) _
end Go.Proofs.YtihlhejencninaaGreat
namespace Go.Proofs.YtihlhejencninaaGreat
open Go.RowKit
set_option linter.unusedVariables false
set_option linter.unusedSimpArgs false

end Go.Proofs.YtihlhejencninaaGreat
namespace Go.Proofs.YtihlhejencninaaGreat
open Go.RowKit
set_option linter.unusedVariables false
set_option linter.unusedSimpArgs false

end Go.Proofs.YtihlhejencninaaGreat
namespace Go.Proofs.YtihlhejencninaaGreat
open Go.RowKit
set_option linter.unusedVariables false
set_option linter.unusedSimpArgs false

structure Tr where
 base : List Ent
 blocks : List Bk
 before : List Int
deriving DecidableEq
def trA (t : Tr) (A1 : Option Addr) (c1 : Nat) (A2 : Option Addr) (c2 : Nat) (A3 : Option Addr) (c3 : Nat) : Array Value := #[.slice A1 t.base.length c1, .slice A2 t.blocks.length c2, .slice A3 t.before.length c3]
/-- how a tree reads -/
structure TrR (w : World) (t : Tr) (A1 A2 A3 : Option Addr) : Prop where
 b1 : Rd w A1 (t.base.flatMap encE)
 b2 : RdD bkR (fun _ => True) w A2 t.blocks
 b3 : Rd w A3 (t.before.map (.int .i64))
theorem TrR.new {w w' : World} {t : Tr} {A1 A2 A3 : Option Addr} (h : TrR w t A1 A2 A3) (hb : Below w.heap.size w w') : TrR w' t A1 A2 A3 := ⟨h.b1.new hb, h.b2.new bk_good hb, h.b3.new hb⟩
theorem TrR.drewN {w : World} {t : Tr} {A1 A2 A3 : Option Addr} (h : TrR w t A1 A2 A3) (n : Nat) : TrR (w.drewN n) t A1 A2 A3 := ⟨h.b1.drewN n, h.b2.drewN bk_good n, h.b3.drewN n⟩
/-- a tree of the call's own -/
structure TrO (w : World) (base : Nat) (t : Tr) (A1 : Option Addr) (c1 : Nat) (A2 : Option Addr) (c2 : Nat) (A3 : Option Addr) (c3 : Nat) (fp : List Nat) : Prop where
 o1 : w.ownsRow base 79 2 (.slice A1 t.base.length c1) t.base.length (t.base.flatMap encE)
 o2 : OwnD bkO 32 6 w A2 c2 t.blocks fp
 o3 : w.ownsRow base 3 1 (.slice A3 t.before.length c3) t.before.length (t.before.map (.int .i64))
 ge : ∀ k ∈ fp, base ≤ k
 a12 : ∀ p, A1 = some ⟨p, 0, none⟩ → p ∉ fp
 a13 : ∀ p, A1 = some ⟨p, 0, none⟩ → A3 ≠ some ⟨p, 0, none⟩
 a23 : ∀ p, A3 = some ⟨p, 0, none⟩ → p ∉ fp
def TrS (A1 A3 : Option Addr) (fp : List Nat) (q : Nat) : Prop := A1 = some ⟨q, 0, none⟩ ∨ q ∈ fp ∨ A3 = some ⟨q, 0, none⟩
section
variable {w w' : World} {base : Nat} {t : Tr} {A1 : Option Addr} {c1 : Nat} {A2 : Option Addr} {c2 : Nat} {A3 : Option Addr} {c3 : Nat} {fp : List Nat}
theorem TrO.new (h : TrO w base t A1 c1 A2 c2 A3 c3 fp) (hb : Below w.heap.size w w') : TrO w' base t A1 c1 A2 c2 A3 c3 fp := ⟨own_new h.o1 hb, h.o2.new bkO_good hb, own_new h.o3 hb, h.ge, h.a12, h.a13, h.a23⟩
theorem TrO.rng (h : TrO w base t A1 c1 A2 c2 A3 c3 fp) : ∀ q, TrS A1 A3 fp q → base ≤ q ∧ q < w.heap.size := fun q hq => by
 rcases hq with hq | hq | hq
 · exact own_rng h.o1 q hq
 · exact ⟨h.ge q hq, h.o2.lt bkO_good q hq⟩
 · exact own_rng h.o3 q hq
theorem TrO.chg {S : Nat → Prop} (h : TrO w base t A1 c1 A2 c2 A3 c3 fp) (hc : Chg S w w') (hS : ∀ q, TrS A1 A3 fp q → ¬ S q) : TrO w' base t A1 c1 A2 c2 A3 c3 fp :=
 ⟨own_chg h.o1 hc fun q hq e => hS q (.inl hq) e, h.o2.keep bkO_good fun q hq hqw => hc.block q hqw (hS q (.inr (.inl hq))), own_chg h.o3 hc fun q hq e => hS q (.inr (.inr hq)) e, h.ge, h.a12, h.a13, h.a23⟩
theorem TrO.rd (h : TrO w base t A1 c1 A2 c2 A3 c3 fp) : TrR w t A1 A2 A3 := ⟨own_rd h.o1, h.o2.rd bkO_good bk_good (fun _ _ => trivial), own_rd h.o3⟩
end
end Go.Proofs.YtihlhejencninaaGreat
namespace Go.Proofs.YtihlhejencninaaGreat
open Go.RowKit
set_option linter.unusedVariables false
set_option linter.unusedSimpArgs false
attribute [local go_sem ↓] Go.wp_at_zero Go.wp_at_succ

def leafS (k v : Int) : Int := if inB k 0 31 = true ∧ inB v 0 1000000 = true then sumF 1 [k, v] else -1
def upN (xs : List Int) : Nat → List Int
 | 0 => []
 | j + 1 => upN xs j ++ [sumF 2 [xs.getD (j + j) 0, xs.getD (j + j + 1) 0]]
def upL (xs : List Int) : List Int := upN xs (xs.length / 2)
def leafN (v : List Int) : Nat → List Int
 | 0 => []
 | k + 1 => leafN v k ++ [leafS (k : Int) (v.getD k 0)]
def lvN (v : List Int) : Nat → List Int
 | 0 => leafN v 32
 | k + 1 => upL (lvN v k)
def lvsN (v : List Int) : Nat → List (List Int)
 | 0 => [lvN v 0]
 | k + 1 => lvsN v k ++ [lvN v (k + 1)]
theorem upN_len (xs : List Int) (j : Nat) : (upN xs j).length = j := by
 induction j with
 | zero => rfl
 | succ j ih => rw [upN, List.length_append, ih]; rfl
theorem leafN_len (v : List Int) (j : Nat) : (leafN v j).length = j := by
 induction j with
 | zero => rfl
 | succ j ih => rw [leafN, List.length_append, ih]; rfl
theorem lvN_len (v : List Int) (k : Nat) (hk : k ≤ 5) : (lvN v k).length = 2 ^ (5 - k) := by
 induction k with
 | zero => exact leafN_len v 32
 | succ k ih =>
   rw [lvN, upL, upN_len, ih (by omega), show 5 - k = (5 - (k + 1)) + 1 by omega, Nat.pow_succ]
   omega
theorem lvN_up (v : List Int) (k : Nat) (hk : k < 5) : lvN v (k + 1) = upN (lvN v k) (2 ^ (5 - (k + 1))) := by
 have h : (lvN v k).length / 2 = 2 ^ (5 - (k + 1)) := by
   rw [lvN_len v k (by omega), show 5 - k = (5 - (k + 1)) + 1 by omega, Nat.pow_succ]
   omega
 rw [lvN, upL, h]
theorem lvsN_len (v : List Int) (k : Nat) : (lvsN v k).length = k + 1 := by
 induction k with
 | zero => rfl
 | succ k ih => rw [lvsN, List.length_append, ih]; rfl
theorem lvsN_get (v : List Int) (k j : Nat) (hj : j < (lvsN v k).length) : (lvsN v k)[j] = lvN v j := by
 induction k generalizing j with
 | zero =>
   obtain rfl : j = 0 := by simpa [lvsN] using hj
   rfl
 | succ k ih =>
   simp only [lvsN]
   by_cases h : j < (lvsN v k).length
   · rw [List.getElem_append_left h]; exact ih j h
   · have h1 := lvsN_len v k
     have h2 := lvsN_len v (k + 1)
     obtain rfl : j = k + 1 := by omega
     rw [List.getElem_append_right (by omega)]
     simp
theorem leafSum_impl (k v : Int) (w : World) :
   Calls Tryz.prog 152 #[.int .i64 k, .int .i64 v] w fun e w' => e = .returned (.int .i64 (leafS k v)) ∧ Below w.heap.size w w' := by
 cases hk : inB k 0 31
 · have HV := hide (show leafS k v = -1 by simp [leafS, hk])
   go_enter Tryz.func152, Tryz.ntmps152
   go_wp2_with fail
   refine (isKey_any k _).mono ?_
   rintro e w' ⟨rfl, rfl⟩
   rw [hk]
   go_wp2
   go_ret
   exact ⟨reti (unhide HV).symm, Below.refl _ _⟩
 · cases hv : inB v 0 1000000
   · have HV := hide (show leafS k v = -1 by simp [leafS, hv])
     go_enter Tryz.func152, Tryz.ntmps152
     go_wp2_with fail
     refine (isKey_any k _).mono ?_
     rintro e w' ⟨rfl, rfl⟩
     rw [hk]
     go_wp2_with fail
     refine (isValue_any v _).mono ?_
     rintro e w' ⟨rfl, rfl⟩
     rw [hv]
     go_wp2
     go_ret
     exact ⟨reti (unhide HV).symm, Below.refl _ _⟩
   · have HV := hide (show leafS k v = sumF 1 [k, v] by simp [leafS, hv, hk])
     go_enter Tryz.func152, Tryz.ntmps152
     go_wp2_with fail
     refine (isKey_any k _).mono ?_
     rintro e w' ⟨rfl, rfl⟩
     rw [hk]
     go_wp2_with fail
     refine (isValue_any v _).mono ?_
     rintro e w' ⟨rfl, rfl⟩
     rw [hv]
     go_wp2_with fail
     refine (sum_impl 1 (some ⟨w.heap.size, 0, none⟩) 2 [k, v] _ (rd_lit w [.int .i64 k, .int .i64 v] 3) (by simp)).mono ?_
     rintro e w' ⟨rfl, rfl⟩
     go_wp2
     go_ret
     exact ⟨reti (unhide HV).symm, (Below.refl _ _).alloc (Nat.le_refl _) _⟩
theorem rows_info : (Tryz.prog.info? 26).map (fun i => (i.zero, i.size, i.bytes)) = some (some (.slice none 0 0), 1, 24) := by kernel_rfl
theorem el_rows : El Tryz.prog 124 26 1 24 := El.mk_ Tryz.underlying124 rows_info rfl (by omega)
set_option maxRecDepth 100000 in
set_option maxHeartbeats 1000000 in
theorem levels_impl (A : Option Addr) (c : Nat) (s : List Ent) (w : World) (h : Rd w A (s.flatMap encE)) (hb : s.length ≤ 4611686018427387904) (hs : storeB s = true) :
   Calls Tryz.prog 101 #[.slice A s.length c] w fun e w' => ∃ A' c', e = .returned (.slice A' 6 c') ∧ 6 ≤ c' ∧ c' ≤ maxLen ∧ RdD rowR (fun k => w.heap.size ≤ k) w' A' (lvsN (valsL s) 5) ∧ Below w.heap.size w w' := by
 have HKS := hide (store_keys hs)
 have hvl := valsL_len s
 go_enter Tryz.func101, Tryz.ntmps101
 go_wp2_with fail
 refine (valuesOf_any A c s _ h hb (unhide HKS)).mono ?_
 rintro e w1 ⟨rfl, b1⟩
 generalize hv : valsL s = v at *
 have HV := hide hv
 clear hv
 have hls : (vA v).size = 32 := by rw [vA_size, hvl]
 go_wp2
 go_loopw [3, 11] (fun r i wr => ∃ (k : Nat) (A' : Option Addr) (c' : Nat), k ≤ 32 ∧ i = .int .i64 k ∧ r = .slice A' k c' ∧ wr.ownsRow w.heap.size 3 1 (.slice A' k c') k ((leafN v k).map (.int .i64)) ∧ Below w.heap.size w wr) (fun _ i _ => 32 - (intOf i).toNat)
 case atStart => exact ⟨0, none, 0, by omega, rfl, rfl, own_nil _ _ _ _, b1⟩
 case round =>
   obtain ⟨k, A', c', hk, rfl, rfl, hown, hB⟩ := hrel
   by_cases hlt : k < 32
   · have hix := index_vals v hvl k hlt
     have i1 : (k : Int) < 32 := by omega
     have HS := hide (show leafN v (k + 1) = leafN v k ++ [leafS (k : Int) (v.getD k 0)] from rfl)
     generalize leafN v k = gs at *
     generalize v.getD k 0 = x at *
     go_wp2_with fail
     refine (leafSum_impl (k : Int) x wr).mono ?_
     rintro e w2 ⟨rfl, b2⟩
     generalize leafS (k : Int) x = y at *
     have o2 := own_new hown b2
     have hB2 := bthen hB b2
     go_wp2_with (at_builtin; refine wpList_app rfl (.tmp 15) (.tmp 19) 26 rfl el_int rfl (own_alloc o2 _) rfl (rd_lit w2 [.int .i64 y] _) rfl (one_ints [y]) (by simp only [maxLen]; omega) (by omega) (by have := hB2.size; simp; omega) ?_; intro A3 c3 w3 o3 ch3 _ _)
     have hB3 := app_below hB2 o2 ch3 (Nat.le_refl _)
     go_roundw
     case rel => exact ⟨k + 1, A3, c3, by omega, by go_num, rfl, by rw [unhide HS]; simpa using o3, hB3⟩
     case measure => simp [intOf]; omega
   · have hk32 : k = 32 := by omega
     have HK32 := hide hk32
     have i1 : ¬ (k : Int) < 32 := by omega
     have hcp := own_cap hown
     have rn := own_rdB hown (Nat.le_refl _)
     rw [hk32] at rn hcp
     clear hk32
     have HR := hide (show lvN v 0 = leafN v 32 from rfl)
     rw [← unhide HR] at rn
     have hBs := hB.size
     go_wp2
     obtain ⟨wo, hwo⟩ : ∃ wo : World, wo = wr := ⟨_, rfl⟩
     have HWO := hide hwo
     go_loopw [3, 6, 7, 8, 24] (fun now out _ _ i wq => ∃ (k : Nat) (A1 : Option Addr) (c1 : Nat) (A2 : Option Addr) (c2 : Nat) (vs : List (List Value)), k ≤ 5 ∧ i = .int .i64 k ∧ now = .slice A1 (2 ^ (5 - k)) c1 ∧ 2 ^ (5 - k) ≤ c1 ∧ c1 ≤ maxLen ∧ RdP (Off w.heap.size A2) wq A1 ((lvN v k).map (.int .i64)) ∧
         out = .slice A2 (k + 1) c2 ∧ AllR rowR (Off w.heap.size A2) wq (lvsN v k) vs ∧ wq.ownsRow w.heap.size 26 1 (.slice A2 (k + 1) c2) (k + 1) vs.flatten ∧ Below w.heap.size w wq) (fun _ _ _ _ i _ => 5 - (intOf i).toNat)
     case atStart =>
       subst hwo
       rw [unhide HK32]
       have om := own_made (base := w.heap.size) (e := 26) (size := 1) wo #[.slice A' 32 c'] 1 hB.size (by simp [maxLen]) rfl
       have hP : ∀ q, w.heap.size ≤ q → q < wo.heap.size → Off w.heap.size (some ⟨wo.heap.size, 0, none⟩) q := fun q h1 h2 => ⟨h1, fun e => by injection e with e; injection e with e; omega⟩
       have rn2 := (rn.mono hP).keep (Kp.alloc _ wo (.cells #[.slice A' 32 c'] 26))
       have hl32 : (lvN v 0).length = 32 := lvN_len v 0 (by omega)
       exact ⟨0, A', c', some ⟨wo.heap.size, 0, none⟩, 1, [[.slice A' 32 c']], by omega, rfl, rfl, hcp.1, hcp.2, rn2, rfl, ⟨⟨A', c', by rw [hl32], by rw [hl32]; exact hcp.1, hcp.2, rn2⟩, trivial⟩, om, hB.alloc hB.size _⟩
     case round =>
       clear hwo hown rn
       obtain ⟨k, A1, c1, A2, c2, vs, hk, rfl, rfl, hc1, hcm, r1, rfl, hall, hown, hB⟩ := hrel
       by_cases hlt : k < 5
       · have i1 : (k : Int) < 5 := by omega
         have hp2 : 2 ^ (5 - k) = 2 ^ (5 - (k + 1)) + 2 ^ (5 - (k + 1)) := by rw [show 5 - k = (5 - (k + 1)) + 1 by omega, Nat.pow_succ]; omega
         have hp32 : 2 ^ (5 - (k + 1)) ≤ 16 := Nat.le_trans (Nat.pow_le_pow_right (by omega) (show 5 - (k + 1) ≤ 4 by omega)) (by decide)
         have hll := lvN_len v k (by omega)
         have HUP := hide (show lvN v (k + 1) = upN (lvN v k) (2 ^ (5 - (k + 1))) from lvN_up v k hlt)
         have HLS := hide (show lvsN v (k + 1) = lvsN v k ++ [lvN v (k + 1)] from rfl)
         have hll2 := lvN_len v (k + 1) (by omega)
         have HP2 := hide hp2
         clear hp2
         generalize hmm : 2 ^ (5 - (k + 1)) = m at *
         have HM := hide hmm
         clear hmm
         generalize 2 ^ (5 - k) = n at *
         have hn32 : n ≤ 32 := by have := unhide HP2; omega
         generalize hxs : lvN v k = xs at *
         have HXS := hide hxs
         clear hxs
         go_wp2
         obtain ⟨w5, hw5⟩ : ∃ w5 : World, w5 = wr := ⟨_, rfl⟩
         have HW5 := hide hw5
         have hBq := hB.size
         have hLM := hide hll
         clear hll
         go_loopw [7, 8] (fun next i wr => ∃ (j jj : Nat) (A3 : Option Addr) (c3 : Nat), j ≤ m ∧ Hid (jj = j + j) ∧ i = .int .i64 (jj : Int) ∧ next = .slice A3 j c3 ∧ wr.ownsRow w5.heap.size 3 1 (.slice A3 j c3) j ((upN xs j).map (.int .i64)) ∧ Below w5.heap.size w5 wr) (fun _ i _ => n - (intOf i).toNat)
         case atStart =>
           subst hw5
           exact ⟨0, 0, none, 0, by omega, rfl, rfl, rfl, own_nil _ _ _ _, Below.refl _ _⟩
         case round =>
           subst hw5
           obtain ⟨j, jj, A3, c3, hj, HJJ, rfl, rfl, ho3, hB3⟩ := hrel
           have HU := hide (show upN xs (j + 1) = upN xs j ++ [sumF 2 [xs.getD (j + j) 0, xs.getD (j + j + 1) 0]] from rfl)
           have hul := upN_len xs j
           by_cases hlt2 : j < m
           · have i2 : (jj : Int) < (n : Int) := by have := unhide HJJ; have := unhide HP2; omega
             have i3 : (jj : Int) + 2 ≤ (c1 : Int) := by have := unhide HJJ; have := unhide HP2; omega
             have i5 : ¬ c1 = jj := by have := unhide HJJ; have := unhide HP2; omega
             have hjl : jj + 1 < xs.length := by have := unhide HJJ; have := unhide hLM; have := unhide HP2; omega
             obtain ⟨b, off, rfl, hbP, hbb, hcell⟩ := r1 (by simp; omega)
             have rs : Rd w5 (some ⟨b, off + jj, none⟩) ([xs.getD jj 0, xs.getD (jj + 1) 0].map (.int .i64)) := by
               intro _
               refine ⟨b, off + jj, rfl, hbb, fun q u hu => ?_⟩
               rw [Nat.add_assoc]
               apply hcell
               match q, hu with
               | 0, hu => simp at hu; subst hu; simp [show jj < xs.length by omega]
               | 1, hu => simp at hu; subst hu; simp [show jj + 1 < xs.length by omega]
             rw [← unhide HJJ] at HU
             generalize upN xs j = gs at *
             generalize xs.getD jj 0 = x at *
             generalize xs.getD (jj + 1) 0 = y at *
             clear hcell
             have rs' := rs.new hB3
             clear rs
             go_wp2_with fail
             refine (sum_impl 2 (some ⟨b, off + jj, none⟩) (c1 - jj) [x, y] wr rs' (by simp)).mono ?_
             rintro e w' ⟨rfl, rfl⟩
             generalize sumF 2 [x, y] = z at *
             go_wp2_with (at_builtin; refine wpList_app rfl (.tmp 32) (.tmp 39) 26 rfl el_int rfl (own_alloc ho3 _) rfl (rd_lit wr [.int .i64 z] _) rfl (one_ints [z]) (by simp only [maxLen]; omega) (by omega) (by have := hB3.size; simp; omega) ?_; intro A4 c4 w4 o4 ch4 _ _)
             have hB4 := app_below hB3 ho3 ch4 (Nat.le_refl _)
             go_roundw
             case rel => exact ⟨j + 1, jj + 2, A4, c4, by omega, (by have := unhide HJJ; exact hide (by omega)), by go_num, rfl, by rw [unhide HU]; simpa using o4, hB4⟩
             case measure => simp [intOf]; omega
           · obtain rfl : j = m := by omega
             have i2 : ¬ (jj : Int) < (n : Int) := by have := unhide HJJ; have := unhide HP2; omega
             rw [← unhide HUP] at ho3
             have hcp3 := own_cap ho3
             have hown' := own_new hown hB3
             have hB5 := bthen hB hB3
             have hall' := hall.keep row_good (Kp.below hB3)
             have rx := own_rdB ho3 (Nat.le_refl _)
             have hrg := own_rng hown
             have ho3' := ho3
             clear r1 hall hown ho3 HU
             go_wp2_with (at_builtin; refine wpList_app rfl (.tmp 41) (.tmp 43) 124 rfl el_rows rfl (own_alloc hown' _) rfl (rd_lit wr [.slice A3 j c3] _) rfl (by simp [Value.oneCell']) (by simp only [maxLen]; omega) (by omega) (by have := hB5.size; simp; omega) ?_; intro A6 c6 w6 o6 ch6 d6 _)
             have hrg5 : ∀ g, A2 = some ⟨g, 0, none⟩ → w.heap.size ≤ g ∧ g < w5.heap.size := hrg
             have hc3 := own_cap ho3'
             have hxr : rowR (fun q => w5.heap.size ≤ q) (lvN v (k + 1)) wr [.slice A3 j c3] := ⟨A3, c3, by rw [hll2], by rw [hll2]; exact hc3.1, hc3.2, rx⟩
             have hall6 := deep_app row_good hall' hxr hBq hrg5 ch6 d6
             have rx6 : RdP (Off w.heap.size A6) w6 A3 ((lvN v (k + 1)).map (.int .i64)) := (rx.mono fun q hq hqw => (⟨off_new hBq hrg5 d6 q hq hqw, hq⟩ : Off w.heap.size A6 q ∧ w5.heap.size ≤ q)).keep ((new_kp hrg5 ch6).mono fun q hq _ => hq.2) |>.mono fun q hq _ => hq.1
             have o6' : w6.ownsRow w.heap.size 26 1 (.slice A6 (k + 1 + 1) c6) (k + 1 + 1) (vs ++ [[Value.slice A3 j c3]]).flatten := by simpa using o6
             have hB6 := app_below hB5 hown' ch6 (Nat.le_refl _)
             go_roundw
             case rel =>
               refine ⟨k + 1, A3, c3, A6, c6, vs ++ [[.slice A3 j c3]], ?_, ?_, ?_, ?_, ?_, ?_, ?_, ?_, ?_, ?_⟩
               · omega
               · go_num
               · rw [unhide HM]
               · rw [unhide HM]; exact hc3.1
               · exact hc3.2
               · exact rx6
               · rfl
               · rw [unhide HLS]; exact hall6
               · exact o6'
               · exact hB6
             case measure => simp [intOf]; omega
       · obtain rfl : k = 5 := by omega
         have hc6 := own_cap hown
         go_wp2
         go_ret
         rw [unhide HV]
         exact ⟨A2, c2, rfl, hc6.1, hc6.2, ⟨vs, hall.mono row_good (fun q hq _ => hq.1), own_rdB hown (Nat.le_refl _)⟩, hB⟩
def rootL (s : List Ent) : Int := if storeB s = true then (lvN (valsL s) 5).getD 0 0 else -1
theorem rootOf_impl (A : Option Addr) (c : Nat) (s : List Ent) (w : World) (h : Rd w A (s.flatMap encE)) (hb : s.length ≤ 4611686018427387904) :
   Calls Tryz.prog 54 #[.slice A s.length c] w fun e w' => e = .returned (.int .i64 (rootL s)) ∧ Below w.heap.size w w' := by
 cases hs : storeB s
 · have HV := hide (show rootL s = -1 by simp [rootL, hs])
   go_enter Tryz.func54, Tryz.ntmps54
   go_wp2_with fail
   refine (storeB_impl A c s w h hb).mono ?_
   rintro e w1 ⟨rfl, b1⟩
   rw [hs]
   go_wp2
   go_ret
   exact ⟨reti (unhide HV).symm, b1⟩
 · have HV := hide (show rootL s = (lvN (valsL s) 5).getD 0 0 by simp [rootL, hs])
   have HS := hide hs
   go_enter Tryz.func54, Tryz.ntmps54
   go_wp2_with fail
   refine (storeB_impl A c s w h hb).mono ?_
   rintro e w1 ⟨rfl, b1⟩
   rw [hs]
   clear hs
   go_wp2_with fail
   refine (levels_impl A c s w1 (h.new b1) hb (unhide HS)).mono ?_
   rintro e w2 ⟨A2, c2, rfl, hc1, hc2, r2, b2⟩
   generalize valsL s = v at *
   obtain ⟨b, off, cs, rfl, _, hbb, hr, hcell⟩ := r2.get row_good (by omega) (k := 5) (by rw [lvsN_len]; omega)
   rw [lvsN_get] at hr
   obtain ⟨A3, c3, rfl, h3, h4, r3⟩ := hr
   have hc := hcell 0 _ rfl
   have hl5 := lvN_len v 5 (by omega)
   rw [show (lvN v 5).length = 1 from hl5] at hc
   obtain ⟨b3, off3, rfl, _, hb3, hcell3⟩ := r3 (by simp; omega)
   have hd := hcell3 0 (.int .i64 ((lvN v 5).getD 0 0)) (by simp [show 0 < (lvN v 5).length by omega])
   simp only [Nat.mul_one, Nat.add_zero] at hc hd
   generalize (lvN v 5).getD 0 0 = z at *
   clear hcell hcell3
   have i6 : (5 : Int) < ((lvsN v 5).length : Int) := by rw [lvsN_len]; omega
   go_wp2
   go_ret
   exact ⟨reti (unhide HV).symm, bthen b1 b2⟩
end Go.Proofs.YtihlhejencninaaGreat
namespace Go.Proofs.YtihlhejencninaaGreat
open Go.RowKit
set_option linter.unusedVariables false
set_option linter.unusedSimpArgs false

def nodeS (a b : Int) : Int := sumF 2 [a, b]
def blkB (b : Bk) : Bool := inB b.before 0 1000002 && (inB b.root 0 1000002 && (inB b.eff 0 1000002 && (inB b.height 0 100 && (inB b.view 0 1000 && actsB b.list))))
theorem node_bd (a b : Int) (ha : 0 ≤ a ∧ a ≤ 1000002) (hb : 0 ≤ b ∧ b ≤ 1000002) : 0 ≤ nodeS a b ∧ nodeS a b ≤ 1000002 := by
 have hs : summed [a, b] = true := by
   have h1 : inB a 0 2000000 = true := inB_true.2 (by omega)
   have h2 : inB b 0 2000000 = true := inB_true.2 (by omega)
   simp [summed, h1, h2]
 unfold nodeS
 rw [sumF_yes rfl hs]
 exact sums_bd _ _ (by omega)
theorem summed_two (a b : Int) (ha : 0 ≤ a ∧ a ≤ 1000002) (hb : 0 ≤ b ∧ b ≤ 1000002) : summed [a, b] = true := by
 have h1 : inB a 0 2000000 = true := inB_true.2 (by omega)
 have h2 : inB b 0 2000000 = true := inB_true.2 (by omega)
 simp [summed, h1, h2]
theorem leafSum_spec (k v : Int) (w : World) :
   Calls Tryz.prog 148 #[.int .i64 k, .int .i64 v] w fun e w' => e = .returned (.int .i64 (leafS k v)) ∧ Below w.heap.size w w' := by
 cases hk : inB k 0 31
 · have HV := hide (show leafS k v = -1 by simp [leafS, hk])
   go_enter Tryz.func148, Tryz.ntmps148
   go_wp2_with fail
   refine (l1In_any k _ _ _).mono ?_
   rintro e w' ⟨rfl, rfl⟩
   rw [hk]
   go_wp2
   go_ret
   exact ⟨reti (unhide HV).symm, Below.refl _ _⟩
 · cases hv : inB v 0 1000000
   · have HV := hide (show leafS k v = -1 by simp [leafS, hv])
     go_enter Tryz.func148, Tryz.ntmps148
     go_wp2_with fail
     refine (l1In_any k _ _ _).mono ?_
     rintro e w' ⟨rfl, rfl⟩
     rw [hk]
     go_wp2_with fail
     refine (l1In_any v _ _ _).mono ?_
     rintro e w' ⟨rfl, rfl⟩
     rw [hv]
     go_wp2
     go_ret
     exact ⟨reti (unhide HV).symm, Below.refl _ _⟩
   · have HV := hide (show leafS k v = sumF 1 [k, v] by simp [leafS, hv, hk])
     have HS := hide (show summed [k, v] = true by
       have h1 := inB_true.1 hk
       have h2 := inB_true.1 hv
       have e1 : inB k 0 2000000 = true := inB_true.2 (by omega)
       have e2 : inB v 0 2000000 = true := inB_true.2 (by omega)
       simp [summed, e1, e2])
     go_enter Tryz.func148, Tryz.ntmps148
     go_wp2_with fail
     refine (l1In_any k _ _ _).mono ?_
     rintro e w' ⟨rfl, rfl⟩
     rw [hk]
     go_wp2_with fail
     refine (l1In_any v _ _ _).mono ?_
     rintro e w' ⟨rfl, rfl⟩
     rw [hv]
     go_wp2_with fail
     refine (l1Sum_any 1 (some ⟨w.heap.size, 0, none⟩) 2 [k, v] _ (rd_lit w [.int .i64 k, .int .i64 v] 3) (by simp) rfl (unhide HS)).mono ?_
     rintro e w' ⟨rfl, rfl⟩
     go_wp2
     go_ret
     exact ⟨reti (unhide HV).symm, (Below.refl _ _).alloc (Nat.le_refl _) _⟩
theorem l3Node_any (a b : Int) (w : World) (h : summed [a, b] = true) :
   Calls Tryz.prog 150 #[.int .i64 a, .int .i64 b] w fun e w' => e = .returned (.int .i64 (nodeS a b)) ∧ Below w.heap.size w w' := by
 have HS := hide h
 clear h
 go_enter Tryz.func150, Tryz.ntmps150
 go_wp2_with fail
 refine (l1Sum_any 2 (some ⟨w.heap.size, 0, none⟩) 2 [a, b] _ (rd_lit w [.int .i64 a, .int .i64 b] 3) (by simp) rfl (unhide HS)).mono ?_
 rintro e w' ⟨rfl, rfl⟩
 go_wp2
 go_ret
 exact ⟨rfl, (Below.refl _ _).alloc (Nat.le_refl _) _⟩
set_option maxHeartbeats 1000000 in
theorem blockValid_impl (x : Bk) (A : Option Addr) (c : Nat) (w : World) (h : Rd w A (x.list.flatMap encA)) (hb : x.list.length ≤ 4611686018427387904) :
   Calls Tryz.prog 52 #[.agg #[.int .i64 x.before, .int .i64 x.height, .int .i64 x.view, .slice A x.list.length c, .int .i64 x.root, .int .i64 x.eff]] w fun e w' => e = .returned (.bool (blkB x)) ∧ Below w.heap.size w w' := by
 have HB := hide (show blkB x = (inB x.before 0 1000002 && (inB x.root 0 1000002 && (inB x.eff 0 1000002 && (inB x.height 0 100 && (inB x.view 0 1000 && actsB x.list))))) from rfl)
 have hb1 : Below w.heap.size w (w.alloc (.cells #[.int .i64 x.before, .int .i64 x.height, .int .i64 x.view, .slice A x.list.length c, .int .i64 x.root, .int .i64 x.eff] 32)) := (Below.refl _ _).alloc (Nat.le_refl _) _
 have hr := h.new hb1
 cases e1 : inB x.before 0 1000002
 all_goals cases e2 : inB x.root 0 1000002
 all_goals cases e3 : inB x.eff 0 1000002
 all_goals cases e4 : inB x.height 0 100
 all_goals cases e5 : inB x.view 0 1000
 all_goals
   go_enter Tryz.func52, Tryz.ntmps52
   go_wp2_with (first | (go_at_call 97; refine (isSum_any _  _).mono ?_; rintro e w' ⟨rfl, rfl⟩) | (go_at_call 98; refine (in_any _ _ _ _).mono ?_; rintro e w' ⟨rfl, rfl⟩) | (go_at_call 99; refine (isView_any _  _).mono ?_; rintro e w' ⟨rfl, rfl⟩))
   first
     | (go_ret; exact ⟨retb (by rw [unhide HB, e1, e2, e3, e4, e5]; rfl), hb1⟩)
     | (refine (actionsValid_impl A c x.list _ hr hb).mono ?_
        rintro e w2 ⟨rfl, b2⟩
        go_wp2
        go_ret
        exact ⟨retb (by rw [unhide HB, e1, e2, e3, e4, e5]; rfl), bthen hb1 b2⟩)
set_option maxHeartbeats 1000000 in
theorem blockValid_spec (x : Bk) (A : Option Addr) (c : Nat) (w : World) (h : Rd w A (x.list.flatMap encA)) (hb : x.list.length ≤ 4611686018427387904) :
   Calls Tryz.prog 47 #[.agg #[.int .i64 x.before, .int .i64 x.height, .int .i64 x.view, .slice A x.list.length c, .int .i64 x.root, .int .i64 x.eff]] w fun e w' => e = .returned (.bool (blkB x)) ∧ Below w.heap.size w w' := by
 have HB := hide (show blkB x = (inB x.before 0 1000002 && (inB x.root 0 1000002 && (inB x.eff 0 1000002 && (inB x.height 0 100 && (inB x.view 0 1000 && actsB x.list))))) from rfl)
 have hb1 : Below w.heap.size w (w.alloc (.cells #[.int .i64 x.before, .int .i64 x.height, .int .i64 x.view, .slice A x.list.length c, .int .i64 x.root, .int .i64 x.eff] 32)) := (Below.refl _ _).alloc (Nat.le_refl _) _
 have hr := h.new hb1
 cases e1 : inB x.before 0 1000002
 all_goals cases e2 : inB x.root 0 1000002
 all_goals cases e3 : inB x.eff 0 1000002
 all_goals cases e4 : inB x.height 0 100
 all_goals cases e5 : inB x.view 0 1000
 all_goals
   go_enter Tryz.func47, Tryz.ntmps47
   go_wp2_with (first | (go_at_call 93; refine (l1In_any _ _ _ _).mono ?_; rintro e w' ⟨rfl, rfl⟩) | (go_at_call 93; refine (l1In_any _ _ _ _).mono ?_; rintro e w' ⟨rfl, rfl⟩) | (go_at_call 93; refine (l1In_any _ _ _ _).mono ?_; rintro e w' ⟨rfl, rfl⟩))
   first
     | (go_ret; exact ⟨retb (by rw [unhide HB, e1, e2, e3, e4, e5]; rfl), hb1⟩)
     | (refine (actionsValid_spec A c x.list _ hr hb).mono ?_
        rintro e w2 ⟨rfl, b2⟩
        go_wp2
        go_ret
        exact ⟨retb (by rw [unhide HB, e1, e2, e3, e4, e5]; rfl), bthen hb1 b2⟩)
end Go.Proofs.YtihlhejencninaaGreat
namespace Go.Proofs.YtihlhejencninaaGreat
open Go.RowKit
set_option linter.unusedVariables false
set_option linter.unusedSimpArgs false

def actN (a : Act) : List Int := [a.kind, a.src, a.dst, a.amt]
def bnums (b : Bk) : List Int := ([b.before, b.height, b.view, (b.list.length : Int)] ++ b.list.flatMap actN) ++ [b.root, b.eff]
def bsum (b : Bk) : Int := if blkB b = true then sumF 5 (bnums b) else -1
theorem actN_len (xs : List Act) : (xs.flatMap actN).length = 4 * xs.length := by
 induction xs with
 | nil => rfl
 | cons a xs ih => rw [List.flatMap_cons, List.length_append, ih, List.length_cons]; simp [actN]; omega
theorem bnums_len (b : Bk) : (bnums b).length = 4 + 4 * b.list.length + 2 := by
 rw [bnums, List.length_append, List.length_append, actN_len]
 rfl
theorem summed_all {xs : List Int} (h : ∀ n ∈ xs, 0 ≤ n ∧ n ≤ 2000000) : summed xs = true := by
 unfold summed
 rw [Bool.not_eq_true', List.any_eq_false]
 intro n hn
 simp [inB_true.2 (h n hn)]
theorem bnums_summed {b : Bk} (h : blkB b = true) : summed (bnums b) = true := by
 unfold blkB at h
 simp only [Bool.and_eq_true] at h
 obtain ⟨h1, h2, h3, h4, h5, h6⟩ := h
 have h1 := inB_true.1 h1
 have h2 := inB_true.1 h2
 have h3 := inB_true.1 h3
 have h4 := inB_true.1 h4
 have h5 := inB_true.1 h5
 have hl := (actsB_yes h6).1
 have ha := acts_all h6
 refine summed_all fun n hn => ?_
 simp only [bnums, List.mem_append, List.mem_cons, List.not_mem_nil, or_false, List.mem_flatMap] at hn
 rcases hn with ((rfl | rfl | rfl | rfl) | ⟨a, hm, hn⟩) | rfl | rfl
 · omega
 · omega
 · omega
 · omega
 · obtain ⟨g1, g2, g3, g4⟩ := actB_bd (ha a hm)
   have gk := actK_kind g4
   simp only [actN, List.mem_cons, List.not_mem_nil, or_false] at hn
   rcases hn with rfl | rfl | rfl | rfl <;> omega
 · omega
 · omega
theorem bsum_yes {b : Bk} (h : blkB b = true) : bsum b = sumF 5 (bnums b) := by unfold bsum; rw [if_pos h]
theorem bsum_no {b : Bk} (h : blkB b = false) : bsum b = -1 := by unfold bsum; rw [if_neg (by simp [h])]
theorem bsum_bd (b : Bk) : -1 ≤ bsum b ∧ bsum b ≤ 1000002 := by
 unfold bsum
 split
 · exact sumF_bd _ _
 · omega
theorem bsum_nn {b : Bk} (h : blkB b = true) : 0 ≤ bsum b := by
 rw [bsum_yes h, sumF_yes (by rfl) (bnums_summed h)]
 exact (sums_bd _ _ (by omega)).1
theorem bnums_take (b : Bk) (k : Nat) (hk : k < b.list.length) : ([b.before, b.height, b.view, (b.list.length : Int)] ++ (b.list.take k).flatMap actN).map (Value.int .i64) ++ [.int .i64 b.list[k].kind, .int .i64 b.list[k].src, .int .i64 b.list[k].dst, .int .i64 b.list[k].amt] = ([b.before, b.height, b.view, (b.list.length : Int)] ++ (b.list.take (k + 1)).flatMap actN).map (Value.int .i64) := by
 rw [List.take_succ_eq_append_getElem hk, List.flatMap_append]
 simp [actN]
set_option maxRecDepth 100000 in
set_option maxHeartbeats 1000000 in
theorem blockSum_impl (x : Bk) (A : Option Addr) (c : Nat) (w : World) (h : Rd w A (x.list.flatMap encA)) (hb : x.list.length ≤ 4611686018427387904) :
   Calls Tryz.prog 140 #[.agg #[.int .i64 x.before, .int .i64 x.height, .int .i64 x.view, .slice A x.list.length c, .int .i64 x.root, .int .i64 x.eff]] w fun e w' => e = .returned (.int .i64 (bsum x)) ∧ Below w.heap.size w w' := by
 have hb1 : Below w.heap.size w (w.alloc (.cells #[.int .i64 x.before, .int .i64 x.height, .int .i64 x.view, .slice A x.list.length c, .int .i64 x.root, .int .i64 x.eff] 32)) := (Below.refl _ _).alloc (Nat.le_refl _) _
 have k0 := Blk.new w 32 #[.int .i64 x.before, .int .i64 x.height, .int .i64 x.view, .slice A x.list.length c, .int .i64 x.root, .int .i64 x.eff]
 have hr := h.new hb1
 cases hv : blkB x
 · have HR := hide (bsum_no hv)
   go_enter Tryz.func140, Tryz.ntmps140
   go_wp2_with fail
   refine (blockValid_impl x A c _ hr hb).mono ?_
   rintro e w1 ⟨rfl, b1⟩
   rw [hv]
   go_wp2
   go_ret
   exact ⟨reti (unhide HR).symm, bthen hb1 b1⟩
 have HR := hide (bsum_yes hv)
 have hl : x.list.length ≤ 10 := by
   unfold blkB at hv
   simp only [Bool.and_eq_true] at hv
   exact (actsB_yes hv.2.2.2.2.2).1
 go_enter Tryz.func140, Tryz.ntmps140
 go_wp2_with fail
 refine (blockValid_impl x A c _ hr hb).mono ?_
 rintro e w1 ⟨rfl, b1⟩
 rw [hv]
 clear hv hr
 have k1 := k0.new_ b1
 have hB := bthen hb1 b1
 have ha := h.new hB
 clear b1 k0 hb1 h
 have z0 : w1.cell? ⟨w.heap.size, 0, none⟩ = some _ := k1.cell 0
 have z1 : w1.cell? ⟨w.heap.size, 1, none⟩ = some _ := k1.cell 1
 have z2 : w1.cell? ⟨w.heap.size, 2, none⟩ = some _ := k1.cell 2
 have z3 : w1.cell? ⟨w.heap.size, 3, none⟩ = some _ := k1.cell 3
 have om := own_made (base := w1.heap.size) (e := 3) (size := 1) w1 #[.int .i64 x.before, .int .i64 x.height, .int .i64 x.view, .int .i64 (x.list.length : Int)] 4 (Nat.le_refl _) (by simp [maxLen]) rfl
 have hk1 := k1.lt
 go_wp2
 go_loopw [3, 5, 22] (fun ns _ i wr => ∃ (k : Nat) (A' : Option Addr) (c' : Nat), k ≤ x.list.length ∧ i = .int .i64 k ∧ ns = .slice A' (4 + 4 * k) c' ∧ wr.ownsRow w1.heap.size 3 1 (.slice A' (4 + 4 * k) c') (4 + 4 * k) (([x.before, x.height, x.view, (x.list.length : Int)] ++ (x.list.take k).flatMap actN).map (.int .i64)) ∧ Below w1.heap.size w1 wr) (fun _ _ i _ => x.list.length - (intOf i).toNat)
 case atStart => exact ⟨0, _, _, Nat.zero_le _, rfl, rfl, by simpa using om, (Below.refl _ _).alloc (Nat.le_refl _) _⟩
 case round =>
   clear om
   obtain ⟨k, A', c', hk, rfl, rfl, hown, hbel⟩ := hrel
   have hsz := hbel.size
   by_cases hlt : k < x.list.length
   · obtain ⟨b, off, rfl, hbb, d0, d1, d2, d3⟩ := (ha.new hbel).act hlt
     have HT := hide (bnums_take x k hlt)
     generalize x.list[k] = a at *
     have i1 : (k : Int) < (x.list.length : Int) := by omega
     go_wp2_with (at_builtin; refine wpList_app rfl (.tmp 26) (.tmp 35) 26 rfl el_int rfl (own_alloc (own_alloc hown _) _) rfl (rd_at (s := wr.heap.size + 1) _ [.int .i64 a.kind, .int .i64 a.src, .int .i64 a.dst, .int .i64 a.amt] _ (by simp)) rfl (one_ints [a.kind, a.src, a.dst, a.amt]) (by simp only [maxLen]; omega) (by omega) (by simp; omega) ?_; intro A3 c3 w3 o3 ch3 _ _)
     have hb3 := app_below (hbel.alloc hsz _) (own_alloc hown _) ch3 (Nat.le_refl _)
     rw [unhide HT] at o3
     go_roundw
     case rel => exact ⟨k + 1, A3, c3, by omega, by go_num, rfl, o3, hb3⟩
     case measure => simp [intOf]; omega
   · obtain rfl : k = x.list.length := by omega
     rw [List.take_length] at hown
     have y4 : wr.cell? ⟨w.heap.size, 4, none⟩ = some _ := (k1.new_ hbel).cell 4
     have y5 : wr.cell? ⟨w.heap.size, 5, none⟩ = some _ := (k1.new_ hbel).cell 5
     go_wp2_with (at_builtin; refine wpList_app rfl (.tmp 38) (.tmp 43) 26 rfl el_int rfl (own_alloc hown _) rfl (rd_lit wr [.int .i64 x.root, .int .i64 x.eff] _) rfl (one_ints [x.root, x.eff]) (by simp only [maxLen]; omega) (by omega) (by simp; omega) ?_; intro A3 c3 w3 o3 ch3 _ _)
     have hb3 := app_below hbel hown ch3 (Nat.le_refl _)
     have K := sum_impl 5 A3 c3 (bnums x) w3 (by simpa [bnums] using own_rd o3) (by rw [bnums_len]; omega)
     rw [bnums_len] at K
     refine K.mono ?_
     rintro e w4 ⟨rfl, rfl⟩
     go_wp2
     go_ret
     exact ⟨reti (unhide HR).symm, bthen hB hb3⟩
def bRowN (base n : Nat) (xs : List Int) (v : Value) (w : World) : Prop := ∃ q, v = .slice (some ⟨q, 0, none⟩) n n ∧ base ≤ q ∧ Blk w q 3 (xs.map (.int .i64)).toArray
theorem sb_RowN (base n : Nat) (xs : List Int) : StB (bRowN base n xs) := fun _ _ _ hb ⟨q, h1, h2, h3⟩ => ⟨q, h1, h2, h3.new_ hb⟩
theorem blk_rd {w : World} {q : Nat} {t : TypeId} {xs : List Value} (h : Blk w q t xs.toArray) : Rd w (some ⟨q, 0, none⟩) xs := fun _ => ⟨q, 0, rfl, h.lt, fun j u hu => by rw [Nat.zero_add, h.cell j]; simpa using hu⟩
set_option maxRecDepth 100000 in
set_option maxHeartbeats 2000000 in
theorem blockSum_spec (x : Bk) (A : Option Addr) (c : Nat) (w : World) (h : Rd w A (x.list.flatMap encA)) (hb : x.list.length ≤ 4611686018427387904) :
   Calls Tryz.prog 143 #[.agg #[.int .i64 x.before, .int .i64 x.height, .int .i64 x.view, .slice A x.list.length c, .int .i64 x.root, .int .i64 x.eff]] w fun e w' => e = .returned (.int .i64 (bsum x)) ∧ Below w.heap.size w w' := by
 have hb1 : Below w.heap.size w (w.alloc (.cells #[.int .i64 x.before, .int .i64 x.height, .int .i64 x.view, .slice A x.list.length c, .int .i64 x.root, .int .i64 x.eff] 32)) := (Below.refl _ _).alloc (Nat.le_refl _) _
 have k0 := Blk.new w 32 #[.int .i64 x.before, .int .i64 x.height, .int .i64 x.view, .slice A x.list.length c, .int .i64 x.root, .int .i64 x.eff]
 have hr := h.new hb1
 cases hv : blkB x
 · have HR := hide (bsum_no hv)
   go_enter Tryz.func143, Tryz.ntmps143
   go_wp2_with fail
   refine (blockValid_spec x A c _ hr hb).mono ?_
   rintro e w1 ⟨rfl, b1⟩
   rw [hv]
   go_wp2
   go_ret
   exact ⟨reti (unhide HR).symm, bthen hb1 b1⟩
 have HR := hide (bsum_yes hv)
 have HSM := hide (bnums_summed hv)
 have hl : x.list.length ≤ 10 := by
   unfold blkB at hv
   simp only [Bool.and_eq_true] at hv
   exact (actsB_yes hv.2.2.2.2.2).1
 go_enter Tryz.func143, Tryz.ntmps143
 go_wp2_with fail
 refine (blockValid_spec x A c _ hr hb).mono ?_
 rintro e w1 ⟨rfl, b1⟩
 rw [hv]
 clear hv hr
 have k1 := k0.new_ b1
 have hB := bthen hb1 b1
 have ha := h.new hB
 clear b1 k0 hb1 h
 have z0 : w1.cell? ⟨w.heap.size, 0, none⟩ = some _ := k1.cell 0
 have z1 : w1.cell? ⟨w.heap.size, 1, none⟩ = some _ := k1.cell 1
 have z2 : w1.cell? ⟨w.heap.size, 2, none⟩ = some _ := k1.cell 2
 have z3 : w1.cell? ⟨w.heap.size, 3, none⟩ = some _ := k1.cell 3
 have om := own_made (base := w1.heap.size) (e := 3) (size := 1) w1 #[.int .i64 x.before, .int .i64 x.height, .int .i64 x.view, .int .i64 (x.list.length : Int)] 4 (Nat.le_refl _) (by simp [maxLen]) rfl
 go_wp2
 go_loopw [3, 4] (fun ns i wr => ∃ (k : Nat) (A' : Option Addr) (c' : Nat), k ≤ x.list.length ∧ i = .int .i64 k ∧ ns = .slice A' (4 + 4 * k) c' ∧ wr.ownsRow w1.heap.size 3 1 (.slice A' (4 + 4 * k) c') (4 + 4 * k) (([x.before, x.height, x.view, (x.list.length : Int)] ++ (x.list.take k).flatMap actN).map (.int .i64)) ∧ Below w1.heap.size w1 wr) (fun _ i _ => x.list.length - (intOf i).toNat)
 case atStart => exact ⟨0, _, _, Nat.zero_le _, rfl, rfl, by simpa using om, (Below.refl _ _).alloc (Nat.le_refl _) _⟩
 case round =>
   clear om
   obtain ⟨k, A', c', hk, rfl, rfl, hown, hbel⟩ := hrel
   have hsz := hbel.size
   have y3 : wr.cell? ⟨w.heap.size, 3, none⟩ = some _ := (k1.new_ hbel).cell 3
   by_cases hlt : k < x.list.length
   · obtain ⟨b, off, rfl, hbb, d0, d1, d2, d3⟩ := (ha.new hbel).act hlt
     have HT := hide (bnums_take x k hlt)
     generalize x.list[k] = a at *
     have i1 : (k : Int) < (x.list.length : Int) := by omega
     have hks := (k1.new_ hbel).lt
     have XD := hide (fun w' (hb : Below wr.heap.size wr w') => (⟨(hb.cell (p := ⟨w.heap.size, 3, none⟩) hks).trans y3, (hb.cell (p := ⟨b, off + k * 4, none⟩) hbb).trans d0, (hb.cell (p := ⟨b, off + k * 4 + 1, none⟩) hbb).trans d1, (hb.cell (p := ⟨b, off + k * 4 + 2, none⟩) hbb).trans d2, (hb.cell (p := ⟨b, off + k * 4 + 3, none⟩) hbb).trans d3⟩ : _ ∧ _ ∧ _ ∧ _ ∧ _))
     clear d0 d1 d2 d3
     go_wp2
     have hF : StBL [bV ((.slice A' (4 + 4 * k) c')), bV (.pointer (some ⟨w.heap.size, 3, none⟩)), bV (.slice (some ⟨b, off, none⟩) x.list.length c), bV (.int .i64 (k : Int)), bV (.pointer (some ⟨b, off + k * 4, none⟩)), bV (.pointer (some ⟨b, off + k * 4 + 0, none⟩)), bV (.int .i64 a.kind), bV (.pointer (some ⟨w.heap.size, 3, none⟩)), bV (.slice (some ⟨b, off, none⟩) x.list.length c), bV (.int .i64 (k : Int)), bV (.pointer (some ⟨b, off + k * 4, none⟩)), bV (.pointer (some ⟨b, off + k * 4 + 1, none⟩)), bV (.int .i64 a.src), bV (.pointer (some ⟨w.heap.size, 3, none⟩)), bV (.slice (some ⟨b, off, none⟩) x.list.length c), bV (.int .i64 (k : Int)), bV (.pointer (some ⟨b, off + k * 4, none⟩)), bV (.pointer (some ⟨b, off + k * 4 + 2, none⟩)), bV (.int .i64 a.dst), bV (.pointer (some ⟨w.heap.size, 3, none⟩)), bV (.slice (some ⟨b, off, none⟩) x.list.length c), bV (.int .i64 (k : Int)), bV (.pointer (some ⟨b, off + k * 4, none⟩)), bV (.pointer (some ⟨b, off + k * 4 + 3, none⟩)), bV (.int .i64 a.amt), bRowN wr.heap.size 4 [a.kind, a.src, a.dst, a.amt]] :=
       ⟨sb_V _, sb_V _, sb_V _, sb_V _, sb_V _, sb_V _, sb_V _, sb_V _, sb_V _, sb_V _, sb_V _, sb_V _, sb_V _, sb_V _, sb_V _, sb_V _, sb_V _, sb_V _, sb_V _, sb_V _, sb_V _, sb_V _, sb_V _, sb_V _, sb_V _, sb_RowN _ _ _, trivial⟩
     go_upto_region 7 with fail
     refine wp_region_loc (by kernel_rfl) [(0, some 25), (1, some 26), (2, some 27), (3, some 28), (4, some 29), (5, some 30), (6, some 31), (7, some 32), (8, some 33), (9, some 34), (10, some 35), (11, some 36), (12, some 37), (13, some 38), (14, some 39), (15, some 40), (16, some 41), (17, some 42), (18, some 43), (19, some 44), (20, some 45), (21, some 46), (22, some 47), (23, some 48), (24, some 49), (25, some 50)] [[], [], [(1, some 26)], [], [(2, some 27), (3, some 28)], [(4, some 29)], [(5, some 30)], [], [(7, some 32)], [], [(8, some 33), (9, some 34)], [(10, some 35)], [(11, some 36)], [], [(13, some 38)], [], [(14, some 39), (15, some 40)], [(16, some 41)], [(17, some 42)], [], [(19, some 44)], [], [(20, some 45), (21, some 46)], [(22, some 47)], [(23, some 48)], [(6, some 31), (12, some 37), (18, some 43), (24, some 49)]] (by kernel_rfl)
       (locB _) (fun a b => Below a.heap.size a b) noR [0, 0, 0, 0, 0, 0, 0, 0, 0, 0, 0, 0, 0, 0, 0, 0, 0, 0, 0, 0, 0, 0, 0, 0, 0, 0] 0 (by kernel_rfl) (fun _ => Below.refl _ _) (fun _ _ _ => bthen) (locB_st hF _) trivial ?_ ?_
     · refine steps_cons ?s0 ( steps_cons ?s1 ( steps_cons ?s2 ( steps_cons ?s3 ( steps_cons ?s4 ( steps_cons ?s5 ( steps_cons ?s6 ( steps_cons ?s7 ( steps_cons ?s8 ( steps_cons ?s9 ( steps_cons ?s10 ( steps_cons ?s11 ( steps_cons ?s12 ( steps_cons ?s13 ( steps_cons ?s14 ( steps_cons ?s15 ( steps_cons ?s16 ( steps_cons ?s17 ( steps_cons ?s18 ( steps_cons ?s19 ( steps_cons ?s20 ( steps_cons ?s21 ( steps_cons ?s22 ( steps_cons ?s23 ( steps_cons ?s24 ( steps_cons ?s25 steps_nil)))))))))))))))))))))))))
       case s0 | s1 | s3 | s7 | s9 | s13 | s15 | s19 | s21 =>
         intro w' m' hE hR
         intro Q hQ
         go_wp2
         exact hQ _ _ _ rfl rfl (Below.refl _ _) trivial
       case s2 | s6 | s8 | s12 | s14 | s18 | s20 | s24 =>
         intro w' m' hE hR
         rintro _ rfl Q hQ
         obtain ⟨x3, x4, x5, x6, x7⟩ := unhide XD w' (below_undrew hE)
         go_wp2
         exact hQ _ _ _ rfl rfl (Below.refl _ _) trivial
       case s4 | s10 | s16 | s22 =>
         intro w' m' hE hR
         rintro _ rfl _ rfl Q hQ
         go_wp2
         exact hQ _ _ _ rfl rfl (Below.refl _ _) trivial
       case s5 | s11 | s17 | s23 =>
         intro w' m' hE hR
         rintro _ rfl Q hQ
         go_wp2
         exact hQ _ _ _ rfl rfl (Below.refl _ _) trivial
       case s25 =>
         intro w' m' hE hR
         rintro _ rfl _ rfl _ rfl _ rfl Q hQ
         have hs := (below_undrew hE).size
         go_wp2
         exact hQ _ _ _ rfl ⟨_, rfl, hs, Blk.new _ _ _⟩ ((Below.refl _ _).alloc (Nat.le_refl _) _) trivial
     intro w9 hE _
     rintro v0 hv0 v1 - v2 - v3 - v4 - v5 - v6 - v7 - v8 - v9 - v10 - v11 - v12 - v13 - v14 - v15 - v16 - v17 - v18 - v19 - v20 - v21 - v22 - v23 - v24 - v25 ⟨q, rfl, hq, kq⟩
     obtain rfl : v0 = _ := hv0
     change wpList _ _ _ [_, _] _ _
     simp only [Act.put, List.setIfInBounds_toArray, List.set_cons_succ, List.set_cons_zero]
     have b9 := below_undrew hE
     have o9 := own_new hown b9
     have hbel9 := bthen hbel b9
     go_wp2_with (at_builtin; refine wpList_app rfl (.tmp 25) (.tmp 50) 26 rfl el_int rfl o9 rfl (blk_rd kq) rfl (one_ints [a.kind, a.src, a.dst, a.amt]) (by simp only [maxLen]; omega) (by omega) (by have := hbel9.size; omega) ?_; intro A3 c3 w3 o3 ch3 _ _)
     have hb3 := app_below' hbel9 o9 ch3 (Nat.le_refl _)
     rw [show ([a.kind, a.src, a.dst, a.amt].map (Value.int .i64)) = [.int .i64 a.kind, .int .i64 a.src, .int .i64 a.dst, .int .i64 a.amt] from rfl, unhide HT] at o3
     go_roundw
     case rel => exact ⟨k + 1, A3, c3, by omega, by go_num, rfl, o3, hb3⟩
     case measure => simp [intOf]; omega
   · obtain rfl : k = x.list.length := by omega
     rw [List.take_length] at hown
     have y4 : wr.cell? ⟨w.heap.size, 4, none⟩ = some _ := (k1.new_ hbel).cell 4
     have y5 : wr.cell? ⟨w.heap.size, 5, none⟩ = some _ := (k1.new_ hbel).cell 5
     go_wp2_with (at_builtin; refine wpList_app rfl (.tmp 52) (.tmp 57) 26 rfl el_int rfl (own_alloc hown _) rfl (rd_lit wr [.int .i64 x.root, .int .i64 x.eff] _) rfl (one_ints [x.root, x.eff]) (by simp only [maxLen]; omega) (by omega) (by simp; omega) ?_; intro A3 c3 w3 o3 ch3 _ _)
     have hb3 := app_below hbel hown ch3 (Nat.le_refl _)
     have K := l1Sum_any 5 A3 c3 (bnums x) w3 (by simpa [bnums] using own_rd o3) (by rw [bnums_len]; omega) rfl (unhide HSM)
     rw [bnums_len] at K
     refine K.mono ?_
     rintro e w4 ⟨rfl, rfl⟩
     go_wp2
     go_ret
     exact ⟨reti (unhide HR).symm, bthen hB hb3⟩
end Go.Proofs.YtihlhejencninaaGreat
namespace Go.Proofs.YtihlhejencninaaGreat
open Go.RowKit
set_option linter.unusedVariables false
set_option linter.unusedSimpArgs false

def sumIn (z : Int) : Prop := 0 ≤ z ∧ z ≤ 1000002
theorem leafS_in {v : List Int} (hv : valOk v) {k : Nat} (hk : k < 32) : sumIn (leafS (k : Int) (v.getD k 0)) := by
 have h := hv.2 k
 unfold leafS
 rw [if_pos ⟨inB_true.2 (by omega), inB_true.2 (by omega)⟩, sumF_yes (by rfl) (summed_all (fun n hn => by simp only [List.mem_cons, List.not_mem_nil, or_false] at hn; rcases hn with rfl | rfl <;> omega))]
 exact sums_bd _ _ (by omega)
theorem leafN_in {v : List Int} (hv : valOk v) {n : Nat} (hn : n ≤ 32) : ∀ z ∈ leafN v n, sumIn z := by
 induction n with
 | zero => intro z hz; simp [leafN] at hz
 | succ n ih =>
   intro z hz
   rw [leafN, List.mem_append] at hz
   rcases hz with hz | hz
   · exact ih (by omega) z hz
   · obtain rfl : z = _ := by simpa using hz
     exact leafS_in hv (by omega)
theorem getD_in {xs : List Int} (h : ∀ z ∈ xs, sumIn z) (j : Nat) : sumIn (xs.getD j 0) := by
 rw [List.getD_eq_getElem?_getD]
 rcases hj : xs[j]? with _ | z
 · exact ⟨by simp, by simp⟩
 · exact h z (List.mem_of_getElem? hj)
theorem upN_in {xs : List Int} (h : ∀ z ∈ xs, sumIn z) (n : Nat) : ∀ z ∈ upN xs n, sumIn z := by
 induction n with
 | zero => intro z hz; simp [upN] at hz
 | succ n ih =>
   intro z hz
   rw [upN, List.mem_append] at hz
   rcases hz with hz | hz
   · exact ih z hz
   · obtain rfl : z = _ := by simpa using hz
     exact node_bd _ _ (getD_in h _) (getD_in h _)
theorem lvN_in {v : List Int} (hv : valOk v) (n : Nat) : ∀ z ∈ lvN v n, sumIn z := by
 induction n with
 | zero => exact leafN_in hv (by omega)
 | succ n ih => exact upN_in ih _
theorem pow5 {k : Nat} (h : k < 5) : 2 ^ (5 - k) = 2 ^ (5 - (k + 1)) + 2 ^ (5 - (k + 1)) := by
 rw [show 5 - k = (5 - (k + 1)) + 1 by omega, Nat.pow_succ]
 omega
theorem pow5_le (k : Nat) : 1 ≤ 2 ^ (5 - k) ∧ 2 ^ (5 - k) ≤ 32 := by
 have h1 : 0 < 2 ^ (5 - k) := Nat.pow_pos (by omega)
 have h2 : 2 ^ (5 - k) ≤ 2 ^ 5 := Nat.pow_le_pow_right (by omega) (by omega)
 omega
set_option maxRecDepth 100000 in
set_option maxHeartbeats 2000000 in
theorem l3Level_any (A : Option Addr) (c : Nat) (s : List Ent) (lv : Nat) (w : World) (h : Rd w A (s.flatMap encE)) (hb : s.length ≤ 4611686018427387904) (hs : storeB s = true) (hlv : lv ≤ 5) :
   Calls Tryz.prog 94 #[.slice A s.length c, .int .i64 (lv : Int)] w fun e w' => ∃ A' c', e = .returned (.slice A' (2 ^ (5 - lv)) c') ∧ w'.ownsRow w.heap.size 3 1 (.slice A' (2 ^ (5 - lv)) c') (2 ^ (5 - lv)) ((lvN (valsL s) lv).map (.int .i64)) ∧ Below w.heap.size w w' := by
 have hvo : valOk (valsL s) := valOk_vals (show evOk 1 (-1) s = true from hs) (by omega)
 have HVG := hide (fun k (hk : k < 32) => vals_get (show evOk 1 (-1) s = true from hs) (by omega) k hk)
 have HIN := hide (lvN_in hvo)
 clear hvo
 generalize hv : valsL s = v at *
 clear hv
 have om := own_made (base := w.heap.size) (e := 3) (size := 1) w #[] 0 (Nat.le_refl _) (by simp [maxLen]) rfl
 go_enter Tryz.func94, Tryz.ntmps94
 go_wp2
 go_loopw [5, 6] (fun r i wr => ∃ (k : Nat) (A' : Option Addr) (c' : Nat), k ≤ 32 ∧ i = .int .i64 k ∧ r = .slice A' k c' ∧ wr.ownsRow w.heap.size 3 1 (.slice A' k c') k ((leafN v k).map (.int .i64)) ∧ Below w.heap.size w wr) (fun _ i _ => 32 - (intOf i).toNat)
 case atStart => exact ⟨0, _, _, by omega, rfl, rfl, by simpa [leafN] using om, (Below.refl _ _).alloc (Nat.le_refl _) _⟩
 case round =>
   clear om
   obtain ⟨k, A', c', hk, rfl, rfl, hown, hB⟩ := hrel
   by_cases hlt : k < 32
   · have i1 : (k : Int) ≤ 31 := by omega
     have HS := hide (show leafN v (k + 1) = leafN v k ++ [leafS (k : Int) (v.getD k 0)] from rfl)
     have HG := hide (unhide HVG k hlt)
     generalize leafN v k = gs at *
     go_wp2_with fail
     refine (l2At_any A c s (k : Int) wr (h.new hB) (by omega)).mono ?_
     rintro e w' ⟨rfl, rfl⟩
     rw [← unhide HG]
     generalize v.getD k 0 = x at *
     go_wp2_with fail
     refine (leafSum_spec (k : Int) x wr).mono ?_
     rintro e w2 ⟨rfl, b2⟩
     generalize leafS (k : Int) x = y at *
     have o2 := own_new hown b2
     have hB2 := bthen hB b2
     go_wp2_with (at_builtin; refine wpList_app rfl (.tmp 15) (.tmp 21) 26 rfl el_int rfl (own_alloc o2 _) rfl (rd_lit w2 [.int .i64 y] _) rfl (one_ints [y]) (by simp only [maxLen]; omega) (by omega) (by have := hB2.size; simp; omega) ?_; intro A3 c3 w3 o3 ch3 _ _)
     have hB3 := app_below hB2 o2 ch3 (Nat.le_refl _)
     go_roundw
     case rel => exact ⟨k + 1, A3, c3, by omega, by go_num, rfl, by rw [unhide HS]; simpa using o3, hB3⟩
     case measure => simp [intOf]; omega
   · obtain rfl : k = 32 := by omega
     have i1 : ¬ ((32 : Nat) : Int) ≤ 31 := by omega
     go_wp2
     go_loopw [5, 7, 8, 9] (fun row i _ _ wq => ∃ (k : Nat) (A1 : Option Addr) (c1 : Nat), k ≤ lv ∧ i = .int .i64 k ∧ row = .slice A1 (2 ^ (5 - k)) c1 ∧ wq.ownsRow w.heap.size 3 1 (.slice A1 (2 ^ (5 - k)) c1) (2 ^ (5 - k)) ((lvN v k).map (.int .i64)) ∧ Below w.heap.size w wq) (fun _ i _ _ _ => lv - (intOf i).toNat)
     case atStart => exact ⟨0, A', c', by omega, rfl, rfl, hown, hB⟩
     case round =>
       clear hown hB
       obtain ⟨k, A1, c1, hk, rfl, rfl, hown, hB⟩ := hrel
       by_cases hlt : k < lv
       · have i2 : (k : Int) < (lv : Int) := by omega
         have HUP := hide (lvN_up v k (by omega))
         have HP := hide (pow5 (k := k) (by omega))
         have hp1 := pow5_le (k + 1)
         have hp0 := unhide HP
         have hrow := own_rd hown
         have HIK := hide (unhide HIN k)
         have hrl := hown.1
         rw [List.length_map] at hrl
         generalize lvN v k = xs at *
         generalize hn1 : 2 ^ (5 - (k + 1)) = n1 at *
         have HN1 := hide hn1
         clear hn1
         generalize 2 ^ (5 - k) = n0 at *
         have HXL := hide (show xs.length = n0 by omega)
         have hp2 := hp0
         clear hp0 hrl
         replace hp2 := hide hp2
         have om2 := own_made (base := wr.heap.size) (e := 3) (size := 1) wr #[] 0 (Nat.le_refl _) (by simp [maxLen]) rfl
         clear hown
         go_wp2
         obtain ⟨wo, hwo⟩ : ∃ wo : World, wo = wr := ⟨_, rfl⟩
         have HWO := hide hwo
         clear hwo
         go_loopw [8, 9] (fun nx i wq => ∃ (j m : Nat) (A2 : Option Addr) (c2 : Nat), j ≤ n1 ∧ i = .int .i64 (m : Int) ∧ Hid (m = j + j) ∧ nx = .slice A2 j c2 ∧ wq.ownsRow wo.heap.size 3 1 (.slice A2 j c2) j ((upN xs j).map (.int .i64)) ∧ Below wo.heap.size wo wq) (fun _ i _ => n0 - (intOf i).toNat)
         case atStart => exact ⟨0, 0, _, _, by omega, rfl, hide rfl, rfl, by rw [unhide HWO]; simpa [upN] using om2, by rw [unhide HWO]; exact (Below.refl _ _).alloc (Nat.le_refl _) _⟩
         case round =>
           clear om2
           obtain ⟨j, m, A2, c2, hj, rfl, HM, rfl, hnx, hbel⟩ := hrel
           rw [← unhide HWO] at hrow hB
           clear HWO
           have hm64 : (m : Int) + 2 ≤ 100 := by have := unhide HM; omega
           have hr2 := hrow.new hbel
           by_cases hj2 : j < n1
           · have hm := unhide HM
             have hp0 := unhide hp2
             have hxl := unhide HXL
             have i3 : (m : Int) + 1 < (n0 : Int) := by omega
             have i4 : (m : Int) < (n0 : Int) := by omega
             have hmm : m + 1 < xs.length := by omega
             obtain ⟨b, off, rfl, hbb, e0⟩ := hr2.int (k := m) (by omega)
             obtain ⟨b', off', hbe, hbb', e1⟩ := hr2.int (k := m + 1) (by omega)
             injection hbe with hbe
             injection hbe with q1 q2
             subst q1
             subst q2
             have HU := hide (show upN xs (j + 1) = upN xs j ++ [nodeS (xs[m]'(by omega)) (xs[m + 1]'(by omega))] by
               rw [upN, List.getD_eq_getElem?_getD, List.getD_eq_getElem?_getD, ← hm, List.getElem?_eq_getElem (by omega), List.getElem?_eq_getElem (by omega)]
               rfl)
             have hx1 := unhide HIK xs[m] (List.getElem_mem _)
             have hx2 := unhide HIK xs[m + 1] (List.getElem_mem _)
             generalize xs[m] = y1 at *
             generalize xs[m + 1] = y2 at *
             have HSM := hide (summed_two y1 y2 hx1 hx2)
             have XD := hide (fun w' (hb : Below wr.heap.size wr w') => (⟨(hb.cell (p := ⟨b, off + m, none⟩) hbb).trans e0, (hb.cell (p := ⟨b, off + (m + 1), none⟩) hbb).trans e1⟩ : _ ∧ _))
             clear hm hp0 hxl
             clear e0 e1
             go_wp2
             have hF : StBL [bV (.slice A2 j c2), bV (.slice (some ⟨b, off, none⟩) n0 c1), bV (.int .i64 (m : Int)), bV (.pointer (some ⟨b, off + m, none⟩)), bV (.int .i64 y1), bV (.slice (some ⟨b, off, none⟩) n0 c1), bV (.int .i64 (m : Int)), bV (.int .i64 ((m : Int) + 1)), bV (.pointer (some ⟨b, off + (m + 1), none⟩)), bV (.int .i64 y2), bV (.int .i64 (nodeS y1 y2)), bRowN wr.heap.size 1 [nodeS y1 y2]] :=
               ⟨sb_V _, sb_V _, sb_V _, sb_V _, sb_V _, sb_V _, sb_V _, sb_V _, sb_V _, sb_V _, sb_V _, sb_RowN _ _ _, trivial⟩
             go_upto_region 13 with fail
             refine wp_region_loc (by kernel_rfl) [(0, some 36), (1, some 37), (2, some 38), (3, some 39), (4, some 40), (5, some 41), (6, some 42), (7, some 43), (8, some 44), (9, some 45), (10, some 46), (11, some 47)] [[], [], [], [(1, some 37), (2, some 38)], [(3, some 39)], [], [], [(6, some 42)], [(5, some 41), (7, some 43)], [(8, some 44)], [(4, some 40), (9, some 45)], [(10, some 46)]] (by kernel_rfl)
               (locB _) (fun a b => Below a.heap.size a b) noR [0, 0, 0, 0, 0, 0, 0, 0, 0, 0, 0, 0] 0 (by kernel_rfl) (fun _ => Below.refl _ _) (fun _ _ _ => bthen) (locB_st hF _) trivial ?_ ?_
             · refine steps_cons ?s0 ( steps_cons ?s1 ( steps_cons ?s2 ( steps_cons ?s3 ( steps_cons ?s4 ( steps_cons ?s5 ( steps_cons ?s6 ( steps_cons ?s7 ( steps_cons ?s8 ( steps_cons ?s9 ( steps_cons ?s10 ( steps_cons ?s11 steps_nil)))))))))))
               case s0 | s1 | s2 | s5 | s6 =>
                 intro w' m' hE hR
                 intro Q hQ
                 go_wp2
                 exact hQ _ _ _ rfl rfl (Below.refl _ _) trivial
               case s3 | s8 =>
                 intro w' m' hE hR
                 rintro _ rfl _ rfl Q hQ
                 go_wp2
                 exact hQ _ _ _ rfl rfl (Below.refl _ _) trivial
               case s4 | s9 =>
                 intro w' m' hE hR
                 rintro _ rfl Q hQ
                 obtain ⟨x3, x4⟩ := unhide XD w' (below_undrew hE)
                 go_wp2
                 exact hQ _ _ _ rfl rfl (Below.refl _ _) trivial
               case s7 =>
                 intro w' m' hE hR
                 rintro _ rfl Q hQ
                 go_wp2
                 exact hQ _ _ _ rfl rfl (Below.refl _ _) trivial
               case s10 =>
                 intro w' m' hE hR
                 rintro _ rfl _ rfl Q hQ
                 go_wp2_with fail
                 refine (l3Node_any y1 y2 w' (unhide HSM)).mono ?_
                 rintro e w1 ⟨rfl, b1⟩
                 go_wp2
                 exact hQ _ _ _ rfl rfl b1 trivial
               case s11 =>
                 intro w' m' hE hR
                 rintro _ rfl Q hQ
                 have hs := (below_undrew hE).size
                 go_wp2
                 exact hQ _ _ _ rfl ⟨_, rfl, hs, Blk.new _ _ _⟩ ((Below.refl _ _).alloc (Nat.le_refl _) _) trivial
             intro w9 hE _
             rintro v0 hv0 v1 - v2 - v3 - v4 - v5 - v6 - v7 - v8 - v9 - v10 - v11 ⟨q, rfl, hq, kq⟩
             obtain rfl : v0 = _ := hv0
             change wpList _ _ _ [_, _] _ _
             simp only [Act.put, List.setIfInBounds_toArray, List.set_cons_succ, List.set_cons_zero]
             have b9 := below_undrew hE
             have o9 := own_new hnx b9
             have hbel9 := bthen hbel b9
             go_wp2_with (at_builtin; refine wpList_app rfl (.tmp 36) (.tmp 47) 26 rfl el_int rfl o9 rfl (blk_rd kq) rfl (one_ints [nodeS y1 y2]) (by simp only [maxLen]; omega) (by omega) (by have := hbel9.size; omega) ?_; intro A3 c3 w3 o3 ch3 _ _)
             have hb3 := app_below' hbel9 o9 ch3 (Nat.le_refl _)
             have HM2 := hide (show m + 2 = j + 1 + (j + 1) by have := unhide HM; omega)
             go_roundw
             case rel => exact ⟨j + 1, m + 2, A3, c3, by omega, by go_num, HM2, rfl, by rw [unhide HU]; simpa using o3, hb3⟩
             case measure => simp [intOf]; omega
           · obtain rfl : j = n1 := by omega
             have i3 : ¬ (m : Int) + 1 < (n0 : Int) := by have := unhide HM; have := unhide hp2; omega
             rw [← unhide HUP] at hnx
             have hB2 := bthen hB hbel
             have hbs := hB.size
             go_wp2
             go_roundw
             case rel => exact ⟨k + 1, A2, c2, by omega, by go_num, by rw [unhide HN1], by rw [unhide HN1]; exact own_base hnx hbs, hB2⟩
             case measure => simp [intOf]; omega
       · obtain rfl : k = lv := by omega
         go_wp2
         go_ret
         exact ⟨A1, c1, rfl, hown, hB⟩
set_option maxHeartbeats 1000000 in
theorem rootOf_spec (A : Option Addr) (c : Nat) (s : List Ent) (w : World) (h : Rd w A (s.flatMap encE)) (hb : s.length ≤ 4611686018427387904) :
   Calls Tryz.prog 49 #[.slice A s.length c] w fun e w' => e = .returned (.int .i64 (rootL s)) ∧ Below w.heap.size w w' := by
 cases hs : storeB s
 · have HV := hide (show rootL s = -1 by simp [rootL, hs])
   go_enter Tryz.func49, Tryz.ntmps49
   go_wp2_with fail
   refine (storeB_store_spec A c s w h hb).mono ?_
   rintro e w1 ⟨rfl, m1, rfl⟩
   rw [hs]
   go_wp2
   go_ret
   exact ⟨reti (unhide HV).symm, below_drewN (Below.refl _ _) m1⟩
 · have HV := hide (show rootL s = (lvN (valsL s) 5).getD 0 0 by simp [rootL, hs])
   have HS := hide hs
   go_enter Tryz.func49, Tryz.ntmps49
   go_wp2_with fail
   refine (storeB_store_spec A c s w h hb).mono ?_
   rintro e w1 ⟨rfl, m1, rfl⟩
   rw [hs]
   clear hs
   have b1 := below_drewN (Below.refl w.heap.size w) m1
   generalize w.drewN m1 = w1 at *
   go_wp2_with fail
   refine (l3Level_any A c s 5 w1 (h.new b1) hb (unhide HS) (by omega)).mono ?_
   rintro e w2 ⟨A2, c2, rfl, o2, b2⟩
   have hl5 := lvN_len (valsL s) 5 (by omega)
   obtain ⟨b3, off3, rfl, hb3, hcell3⟩ := (own_rd o2) (by simp; omega)
   have hd := hcell3 0 (.int .i64 ((lvN (valsL s) 5).getD 0 0)) (by simp [show 0 < (lvN (valsL s) 5).length by omega])
   simp only [Nat.add_zero] at hd
   generalize (lvN (valsL s) 5).getD 0 0 = z at *
   clear hcell3
   rw [show 2 ^ (5 - 5) = 1 from rfl]
   go_wp2
   go_ret
   exact ⟨reti (unhide HV).symm, bthen b1 b2⟩
set_option maxHeartbeats 1000000 in
theorem sumOf_spec (tag : Int) (A : Option Addr) (c : Nat) (xs : List Int) (w : World) (h : Rd w A (xs.map (.int .i64))) (hb : xs.length ≤ 4611686018427387904) :
   Calls Tryz.prog 96 #[.int .i64 tag, .slice A xs.length c] w fun e w' => e = .returned (.int .i64 (sumF tag xs)) ∧ w = w' := by
 go_enter Tryz.func96, Tryz.ntmps96
 go_wp2
 go_loopw [5] (fun i wr => ∃ k : Nat, k ≤ xs.length ∧ i = .int .i64 k ∧ wr = w ∧ Hid (∀ n ∈ xs.take k, 0 ≤ n ∧ n ≤ 2000000)) (fun i _ => xs.length - (intOf i).toNat)
 case atStart => exact ⟨0, Nat.zero_le _, rfl, rfl, hide (by simp)⟩
 case round =>
   obtain ⟨k, hk, rfl, rfl, HA⟩ := hrel
   by_cases hlt : k < xs.length
   · obtain ⟨b, off, rfl, hbb, d0⟩ := h.int hlt
     have i1 : (k : Int) < (xs.length : Int) := by omega
     have HT := hide (List.take_succ_eq_append_getElem hlt)
     cases hx : inB xs[k] 0 2000000
     · have HN := hide (sumF_no (tag := tag) (xs := xs) (.inr (by
         cases hs : summed xs
         · rfl
         · have := summed_get hs hlt
           rw [inB_true.2 this] at hx
           cases hx)))
       generalize xs[k] = y at *
       go_wp2_with fail
       refine (l1In_any y 0 2000000 _).mono ?_
       rintro e w' ⟨rfl, rfl⟩
       rw [hx]
       go_wp2
       go_ret
       exact ⟨reti (unhide HN).symm, rfl⟩
     · have HX := hide (inB_true.1 hx)
       generalize xs[k] = y at *
       go_wp2_with fail
       refine (l1In_any y 0 2000000 _).mono ?_
       rintro e w' ⟨rfl, rfl⟩
       rw [hx]
       go_wp2
       go_roundw
       case rel => exact ⟨k + 1, by omega, by go_num, by trivial, hide fun n hn => by
         rw [unhide HT] at hn
         rcases List.mem_append.1 hn with hn | hn
         · exact unhide HA n hn
         · obtain rfl : n = y := by simpa using hn
           exact unhide HX⟩
       case measure => simp [intOf]; omega
   · obtain rfl : k = xs.length := by omega
     rw [List.take_length] at HA
     have HSM := hide (summed_all (unhide HA))
     cases ht : inB tag 0 9
     · have HN := hide (sumF_no (tag := tag) (xs := xs) (.inl ht))
       go_wp2_with fail
       refine (l1In_any tag 0 9 _).mono ?_
       rintro e w' ⟨rfl, rfl⟩
       rw [ht]
       go_wp2
       go_ret
       exact ⟨reti (unhide HN).symm, rfl⟩
     · have HTG := hide ht
       go_wp2_with fail
       refine (l1In_any tag 0 9 _).mono ?_
       rintro e w' ⟨rfl, rfl⟩
       rw [ht]
       clear ht
       go_wp2_with fail
       refine (l1Sum_any tag A c xs _ h hb (unhide HTG) (unhide HSM)).mono ?_
       rintro e w' ⟨rfl, rfl⟩
       go_wp2
       go_ret
       exact ⟨rfl, rfl⟩
theorem effectsSum0_impl (w : World) :
   Calls Tryz.prog 55 #[.slice none 0 0] w fun e w' => e = .returned (.int .i64 21) ∧ Below w.heap.size w w' := by
 go_enter Tryz.func55, Tryz.ntmps55
 go_wp2
 go_loopw [3, 5, 11] (fun o _ i wr => o = .slice none 0 0 ∧ i = .int .i64 0 ∧ wr = w) (fun _ _ _ _ => 0)
 case atStart => exact ⟨rfl, rfl, rfl⟩
 case round =>
   obtain ⟨rfl, rfl, rfl⟩ := hrel
   go_wp2_with fail
   refine (sum_impl 4 none 0 [] _ (Rd.nil _ _) (by simp)).mono ?_
   rintro e w' ⟨rfl, rfl⟩
   go_wp2
   go_ret
   exact ⟨reti (by decide), Below.refl _ _⟩
theorem effectsSum0_spec (A : Option Addr) (c : Nat) (w : World) :
   Calls Tryz.prog 50 #[.slice A 0 c] w fun e w' => e = .returned (.int .i64 21) ∧ Below w.heap.size w w' := by
 go_enter Tryz.func50, Tryz.ntmps50
 go_wp2
 go_loopw [3, 4] (fun o i wr => o = .slice (some ⟨w.heap.size, 0, none⟩) 0 0 ∧ i = .int .i64 0 ∧ wr = w.alloc (.cells #[] 3)) (fun _ _ _ => 0)
 case atStart => exact ⟨rfl, rfl, rfl⟩
 case round =>
   obtain ⟨rfl, rfl, rfl⟩ := hrel
   go_wp2_with fail
   refine (sumOf_spec 4 _ 0 [] _ (Rd.nil _ _) (by simp)).mono ?_
   rintro e w' ⟨rfl, rfl⟩
   go_wp2
   go_ret
   exact ⟨reti (by decide), (Below.refl _ _).alloc (Nat.le_refl _) _⟩
/-- the first block over a store -/
def fstB (s : List Ent) : Bk := if storeB s = true then ⟨0, 0, 0, [], rootL s, 21⟩ else ⟨0, 0, 0, [], 0, 0⟩
theorem info_bkS : (Tryz.prog.info? 32).map (·.size) = some 6 := by kernel_rfl
set_option maxRecDepth 100000 in
set_option maxHeartbeats 1000000 in
theorem firstBlock_impl (A : Option Addr) (c : Nat) (s : List Ent) (w : World) (h : Rd w A (s.flatMap encE)) (hb : s.length ≤ 4611686018427387904) :
   Calls Tryz.prog 139 #[.slice A s.length c] w fun e w' => e = .returned (.agg #[.int .i64 (fstB s).before, .int .i64 (fstB s).height, .int .i64 (fstB s).view, .slice none (fstB s).list.length 0, .int .i64 (fstB s).root, .int .i64 (fstB s).eff]) ∧ Below w.heap.size w w' := by
 have hb0 : Below w.heap.size w (w.alloc (.cells #[.int .i64 0, .int .i64 0, .int .i64 0, .slice none 0 0, .int .i64 0, .int .i64 0] 32)) := (Below.refl _ _).alloc (Nat.le_refl _) _
 have k0 := Blk.new w 32 #[.int .i64 0, .int .i64 0, .int .i64 0, .slice none 0 0, .int .i64 0, .int .i64 0]
 have HF := hide (fun (w2 : World) (r f : Int) (k : Blk w2 w.heap.size 32 #[.int .i64 0, .int .i64 0, .int .i64 0, .slice none 0 0, .int .i64 0, .int .i64 0]) (hB : Below w.heap.size w w2) => show Blk ((((((w2.setCell ⟨w.heap.size, 0, none⟩ (.int .i64 0)).setCell ⟨w.heap.size, 0 + 1, none⟩ (.int .i64 0)).setCell ⟨w.heap.size, 0 + 2, none⟩ (.int .i64 0)).setCell ⟨w.heap.size, 0 + 3, none⟩ (.slice none 0 0)).setCell ⟨w.heap.size, 0 + 4, none⟩ (.int .i64 r)).setCell ⟨w.heap.size, 0 + 5, none⟩ (.int .i64 f)) w.heap.size 32 #[.int .i64 0, .int .i64 0, .int .i64 0, .slice none 0 0, .int .i64 r, .int .i64 f] ∧ Below w.heap.size w ((((((w2.setCell ⟨w.heap.size, 0, none⟩ (.int .i64 0)).setCell ⟨w.heap.size, 0 + 1, none⟩ (.int .i64 0)).setCell ⟨w.heap.size, 0 + 2, none⟩ (.int .i64 0)).setCell ⟨w.heap.size, 0 + 3, none⟩ (.slice none 0 0)).setCell ⟨w.heap.size, 0 + 4, none⟩ (.int .i64 r)).setCell ⟨w.heap.size, 0 + 5, none⟩ (.int .i64 f)) from
   ⟨((((((k.set_ 0 (.int .i64 0)).set_ 1 (.int .i64 0)).set_ 2 (.int .i64 0)).set_ 3 (.slice none 0 0)).set_ 4 (.int .i64 r)).set_ 5 (.int .i64 f)), hB.trans ((chg_set6 w2 w.heap.size 0 (.int .i64 0) (.int .i64 0) (.int .i64 0) (.slice none 0 0) (.int .i64 r) (.int .i64 f)).below (fun q hq e => by omega) hB.size)⟩)
 cases hs : storeB s
 · have HV := hide (show fstB s = ⟨0, 0, 0, [], 0, 0⟩ by unfold fstB; rw [if_neg (by simp [hs])])
   go_enter Tryz.func139, Tryz.ntmps139
   go_wp2_with fail
   first
     | (refine (storeB_impl A c s _ (h.new hb0) hb).mono ?_
        rintro e w1 ⟨rfl, b1⟩)
     | (refine (storeB_store_spec A c s _ (h.new hb0) hb).mono ?_
        rintro e w1 ⟨rfl, m1, rfl⟩
        have b1 : Below (w.alloc (.cells #[.int .i64 0, .int .i64 0, .int .i64 0, .slice none 0 0, .int .i64 0, .int .i64 0] 32)).heap.size (w.alloc (.cells #[.int .i64 0, .int .i64 0, .int .i64 0, .slice none 0 0, .int .i64 0, .int .i64 0] 32)) ((w.alloc (.cells #[.int .i64 0, .int .i64 0, .int .i64 0, .slice none 0 0, .int .i64 0, .int .i64 0] 32)).drewN m1) := below_drewN (Below.refl _ _) m1
        generalize (w.alloc (.cells #[.int .i64 0, .int .i64 0, .int .i64 0, .slice none 0 0, .int .i64 0, .int .i64 0] 32)).drewN m1 = w1 at *)
   rw [hs]
   have k1 := k0.new_ b1
   have hB := bthen hb0 b1
   have KB := hide (unhide HF w1 0 0 k1 hB)
   have hl := k1.lt
   have z0 : w1.cell? ⟨w.heap.size, 0, none⟩ = some _ := k1.cell 0
   have z1 : w1.cell? ⟨w.heap.size, 1, none⟩ = some _ := k1.cell 1
   have z2 : w1.cell? ⟨w.heap.size, 2, none⟩ = some _ := k1.cell 2
   have z3 : w1.cell? ⟨w.heap.size, 3, none⟩ = some _ := k1.cell 3
   have z4 : w1.cell? ⟨w.heap.size, 4, none⟩ = some _ := k1.cell 4
   have z5 : w1.cell? ⟨w.heap.size, 5, none⟩ = some _ := k1.cell 5
   have f0 : w1.frozen? ⟨w.heap.size, 0, none⟩ = false := k1.frozen 0
   have f1 : w1.frozen? ⟨w.heap.size, 1, none⟩ = false := k1.frozen 1
   have f2 : w1.frozen? ⟨w.heap.size, 2, none⟩ = false := k1.frozen 2
   have f3 : w1.frozen? ⟨w.heap.size, 3, none⟩ = false := k1.frozen 3
   have f4 : w1.frozen? ⟨w.heap.size, 4, none⟩ = false := k1.frozen 4
   have f5 : w1.frozen? ⟨w.heap.size, 5, none⟩ = false := k1.frozen 5
   go_wp2
   obtain ⟨kb, hBe⟩ := unhide KB
   refine bodyPost_ret (v := .agg #[.int .i64 0, .int .i64 0, .int .i64 0, .slice none 0 0, .int .i64 0, .int .i64 0]) (results_cell_row rfl _ _ w.heap.size 32 #[.int .i64 0, .int .i64 0, .int .i64 0, .slice none 0 0, .int .i64 0, .int .i64 0] (0, 0) _ rfl kb Tryz.underlying32 rfl info_bkS) rfl ?_
   rw [unhide HV]
   exact ⟨rfl, hBe⟩
 have HV := hide (show fstB s = ⟨0, 0, 0, [], rootL s, 21⟩ by unfold fstB; rw [if_pos hs])
 go_enter Tryz.func139, Tryz.ntmps139
 go_wp2_with fail
 first
   | (refine (storeB_impl A c s _ (h.new hb0) hb).mono ?_
      rintro e w1 ⟨rfl, b1⟩)
   | (refine (storeB_store_spec A c s _ (h.new hb0) hb).mono ?_
      rintro e w1 ⟨rfl, m1, rfl⟩
      have b1 : Below (w.alloc (.cells #[.int .i64 0, .int .i64 0, .int .i64 0, .slice none 0 0, .int .i64 0, .int .i64 0] 32)).heap.size (w.alloc (.cells #[.int .i64 0, .int .i64 0, .int .i64 0, .slice none 0 0, .int .i64 0, .int .i64 0] 32)) ((w.alloc (.cells #[.int .i64 0, .int .i64 0, .int .i64 0, .slice none 0 0, .int .i64 0, .int .i64 0] 32)).drewN m1) := below_drewN (Below.refl _ _) m1
      generalize (w.alloc (.cells #[.int .i64 0, .int .i64 0, .int .i64 0, .slice none 0 0, .int .i64 0, .int .i64 0] 32)).drewN m1 = w1 at *)
 rw [hs]
 replace k0 := k0.new_ b1
 have hB := bthen hb0 b1
 clear b1 hs
 go_wp2_with fail
 refine (rootOf_impl A c s w1 (h.new hB) hb).mono ?_
 rintro e w2 ⟨rfl, b2⟩
 replace k0 := k0.new_ b2
 replace hB := bthen hB b2
 generalize rootL s = rt at *
 clear b2
 go_wp2_with fail
 first
   | (refine (effectsSum0_impl w2).mono ?_
      rintro e w3 ⟨rfl, b3⟩)
   | (refine (effectsSum0_spec _ _ _).mono ?_
      rintro e w3 ⟨rfl, b3⟩
      replace b3 := bthen ((Below.refl w2.heap.size w2).alloc (Nat.le_refl _) _) b3)
 have k1 := k0.new_ b3
 replace hB := bthen hB b3
 have KB := hide (unhide HF w3 rt 21 k1 hB)
 have hl := k1.lt
 have z0 : w3.cell? ⟨w.heap.size, 0, none⟩ = some _ := k1.cell 0
 have z1 : w3.cell? ⟨w.heap.size, 1, none⟩ = some _ := k1.cell 1
 have z2 : w3.cell? ⟨w.heap.size, 2, none⟩ = some _ := k1.cell 2
 have z3 : w3.cell? ⟨w.heap.size, 3, none⟩ = some _ := k1.cell 3
 have z4 : w3.cell? ⟨w.heap.size, 4, none⟩ = some _ := k1.cell 4
 have z5 : w3.cell? ⟨w.heap.size, 5, none⟩ = some _ := k1.cell 5
 have f0 : w3.frozen? ⟨w.heap.size, 0, none⟩ = false := k1.frozen 0
 have f1 : w3.frozen? ⟨w.heap.size, 1, none⟩ = false := k1.frozen 1
 have f2 : w3.frozen? ⟨w.heap.size, 2, none⟩ = false := k1.frozen 2
 have f3 : w3.frozen? ⟨w.heap.size, 3, none⟩ = false := k1.frozen 3
 have f4 : w3.frozen? ⟨w.heap.size, 4, none⟩ = false := k1.frozen 4
 have f5 : w3.frozen? ⟨w.heap.size, 5, none⟩ = false := k1.frozen 5
 go_wp2
 obtain ⟨kb, hBe⟩ := unhide KB
 refine bodyPost_ret (v := .agg #[.int .i64 0, .int .i64 0, .int .i64 0, .slice none 0 0, .int .i64 rt, .int .i64 21]) (results_cell_row rfl _ _ w.heap.size 32 #[.int .i64 0, .int .i64 0, .int .i64 0, .slice none 0 0, .int .i64 rt, .int .i64 21] (0, 0) _ rfl kb Tryz.underlying32 rfl info_bkS) rfl ?_
 rw [unhide HV]
 exact ⟨rfl, hBe⟩
set_option maxRecDepth 100000 in
set_option maxHeartbeats 1000000 in
theorem firstBlock_spec (A : Option Addr) (c : Nat) (s : List Ent) (w : World) (h : Rd w A (s.flatMap encE)) (hb : s.length ≤ 4611686018427387904) :
   Calls Tryz.prog 104 #[.slice A s.length c] w fun e w' => e = .returned (.agg #[.int .i64 (fstB s).before, .int .i64 (fstB s).height, .int .i64 (fstB s).view, .slice none (fstB s).list.length 0, .int .i64 (fstB s).root, .int .i64 (fstB s).eff]) ∧ Below w.heap.size w w' := by
 have hb0 : Below w.heap.size w (w.alloc (.cells #[.int .i64 0, .int .i64 0, .int .i64 0, .slice none 0 0, .int .i64 0, .int .i64 0] 32)) := (Below.refl _ _).alloc (Nat.le_refl _) _
 have k0 := Blk.new w 32 #[.int .i64 0, .int .i64 0, .int .i64 0, .slice none 0 0, .int .i64 0, .int .i64 0]
 have HF := hide (fun (w2 : World) (r f : Int) (k : Blk w2 w.heap.size 32 #[.int .i64 0, .int .i64 0, .int .i64 0, .slice none 0 0, .int .i64 0, .int .i64 0]) (hB : Below w.heap.size w w2) => show Blk ((((((w2.setCell ⟨w.heap.size, 0, none⟩ (.int .i64 0)).setCell ⟨w.heap.size, 0 + 1, none⟩ (.int .i64 0)).setCell ⟨w.heap.size, 0 + 2, none⟩ (.int .i64 0)).setCell ⟨w.heap.size, 0 + 3, none⟩ (.slice none 0 0)).setCell ⟨w.heap.size, 0 + 4, none⟩ (.int .i64 r)).setCell ⟨w.heap.size, 0 + 5, none⟩ (.int .i64 f)) w.heap.size 32 #[.int .i64 0, .int .i64 0, .int .i64 0, .slice none 0 0, .int .i64 r, .int .i64 f] ∧ Below w.heap.size w ((((((w2.setCell ⟨w.heap.size, 0, none⟩ (.int .i64 0)).setCell ⟨w.heap.size, 0 + 1, none⟩ (.int .i64 0)).setCell ⟨w.heap.size, 0 + 2, none⟩ (.int .i64 0)).setCell ⟨w.heap.size, 0 + 3, none⟩ (.slice none 0 0)).setCell ⟨w.heap.size, 0 + 4, none⟩ (.int .i64 r)).setCell ⟨w.heap.size, 0 + 5, none⟩ (.int .i64 f)) from
   ⟨((((((k.set_ 0 (.int .i64 0)).set_ 1 (.int .i64 0)).set_ 2 (.int .i64 0)).set_ 3 (.slice none 0 0)).set_ 4 (.int .i64 r)).set_ 5 (.int .i64 f)), hB.trans ((chg_set6 w2 w.heap.size 0 (.int .i64 0) (.int .i64 0) (.int .i64 0) (.slice none 0 0) (.int .i64 r) (.int .i64 f)).below (fun q hq e => by omega) hB.size)⟩)
 cases hs : storeB s
 · have HV := hide (show fstB s = ⟨0, 0, 0, [], 0, 0⟩ by unfold fstB; rw [if_neg (by simp [hs])])
   go_enter Tryz.func104, Tryz.ntmps104
   go_wp2_with fail
   first
     | (refine (storeB_impl A c s _ (h.new hb0) hb).mono ?_
        rintro e w1 ⟨rfl, b1⟩)
     | (refine (storeB_store_spec A c s _ (h.new hb0) hb).mono ?_
        rintro e w1 ⟨rfl, m1, rfl⟩
        have b1 : Below (w.alloc (.cells #[.int .i64 0, .int .i64 0, .int .i64 0, .slice none 0 0, .int .i64 0, .int .i64 0] 32)).heap.size (w.alloc (.cells #[.int .i64 0, .int .i64 0, .int .i64 0, .slice none 0 0, .int .i64 0, .int .i64 0] 32)) ((w.alloc (.cells #[.int .i64 0, .int .i64 0, .int .i64 0, .slice none 0 0, .int .i64 0, .int .i64 0] 32)).drewN m1) := below_drewN (Below.refl _ _) m1
        generalize (w.alloc (.cells #[.int .i64 0, .int .i64 0, .int .i64 0, .slice none 0 0, .int .i64 0, .int .i64 0] 32)).drewN m1 = w1 at *)
   rw [hs]
   have k1 := k0.new_ b1
   have hB := bthen hb0 b1
   have KB := hide (unhide HF w1 0 0 k1 hB)
   have hl := k1.lt
   have z0 : w1.cell? ⟨w.heap.size, 0, none⟩ = some _ := k1.cell 0
   have z1 : w1.cell? ⟨w.heap.size, 1, none⟩ = some _ := k1.cell 1
   have z2 : w1.cell? ⟨w.heap.size, 2, none⟩ = some _ := k1.cell 2
   have z3 : w1.cell? ⟨w.heap.size, 3, none⟩ = some _ := k1.cell 3
   have z4 : w1.cell? ⟨w.heap.size, 4, none⟩ = some _ := k1.cell 4
   have z5 : w1.cell? ⟨w.heap.size, 5, none⟩ = some _ := k1.cell 5
   have f0 : w1.frozen? ⟨w.heap.size, 0, none⟩ = false := k1.frozen 0
   have f1 : w1.frozen? ⟨w.heap.size, 1, none⟩ = false := k1.frozen 1
   have f2 : w1.frozen? ⟨w.heap.size, 2, none⟩ = false := k1.frozen 2
   have f3 : w1.frozen? ⟨w.heap.size, 3, none⟩ = false := k1.frozen 3
   have f4 : w1.frozen? ⟨w.heap.size, 4, none⟩ = false := k1.frozen 4
   have f5 : w1.frozen? ⟨w.heap.size, 5, none⟩ = false := k1.frozen 5
   go_wp2
   obtain ⟨kb, hBe⟩ := unhide KB
   refine bodyPost_ret (v := .agg #[.int .i64 0, .int .i64 0, .int .i64 0, .slice none 0 0, .int .i64 0, .int .i64 0]) (results_cell_row rfl _ _ w.heap.size 32 #[.int .i64 0, .int .i64 0, .int .i64 0, .slice none 0 0, .int .i64 0, .int .i64 0] (0, 0) _ rfl kb Tryz.underlying32 rfl info_bkS) rfl ?_
   rw [unhide HV]
   exact ⟨rfl, hBe⟩
 have HV := hide (show fstB s = ⟨0, 0, 0, [], rootL s, 21⟩ by unfold fstB; rw [if_pos hs])
 go_enter Tryz.func104, Tryz.ntmps104
 go_wp2_with fail
 first
   | (refine (storeB_impl A c s _ (h.new hb0) hb).mono ?_
      rintro e w1 ⟨rfl, b1⟩)
   | (refine (storeB_store_spec A c s _ (h.new hb0) hb).mono ?_
      rintro e w1 ⟨rfl, m1, rfl⟩
      have b1 : Below (w.alloc (.cells #[.int .i64 0, .int .i64 0, .int .i64 0, .slice none 0 0, .int .i64 0, .int .i64 0] 32)).heap.size (w.alloc (.cells #[.int .i64 0, .int .i64 0, .int .i64 0, .slice none 0 0, .int .i64 0, .int .i64 0] 32)) ((w.alloc (.cells #[.int .i64 0, .int .i64 0, .int .i64 0, .slice none 0 0, .int .i64 0, .int .i64 0] 32)).drewN m1) := below_drewN (Below.refl _ _) m1
      generalize (w.alloc (.cells #[.int .i64 0, .int .i64 0, .int .i64 0, .slice none 0 0, .int .i64 0, .int .i64 0] 32)).drewN m1 = w1 at *)
 rw [hs]
 replace k0 := k0.new_ b1
 have hB := bthen hb0 b1
 clear b1 hs
 go_wp2_with fail
 refine (rootOf_spec A c s w1 (h.new hB) hb).mono ?_
 rintro e w2 ⟨rfl, b2⟩
 replace k0 := k0.new_ b2
 replace hB := bthen hB b2
 generalize rootL s = rt at *
 clear b2
 go_wp2_with fail
 first
   | (refine (effectsSum0_impl w2).mono ?_
      rintro e w3 ⟨rfl, b3⟩)
   | (refine (effectsSum0_spec _ _ _).mono ?_
      rintro e w3 ⟨rfl, b3⟩
      replace b3 := bthen ((Below.refl w2.heap.size w2).alloc (Nat.le_refl _) _) b3)
 have k1 := k0.new_ b3
 replace hB := bthen hB b3
 have KB := hide (unhide HF w3 rt 21 k1 hB)
 have hl := k1.lt
 have z0 : w3.cell? ⟨w.heap.size, 0, none⟩ = some _ := k1.cell 0
 have z1 : w3.cell? ⟨w.heap.size, 1, none⟩ = some _ := k1.cell 1
 have z2 : w3.cell? ⟨w.heap.size, 2, none⟩ = some _ := k1.cell 2
 have z3 : w3.cell? ⟨w.heap.size, 3, none⟩ = some _ := k1.cell 3
 have z4 : w3.cell? ⟨w.heap.size, 4, none⟩ = some _ := k1.cell 4
 have z5 : w3.cell? ⟨w.heap.size, 5, none⟩ = some _ := k1.cell 5
 have f0 : w3.frozen? ⟨w.heap.size, 0, none⟩ = false := k1.frozen 0
 have f1 : w3.frozen? ⟨w.heap.size, 1, none⟩ = false := k1.frozen 1
 have f2 : w3.frozen? ⟨w.heap.size, 2, none⟩ = false := k1.frozen 2
 have f3 : w3.frozen? ⟨w.heap.size, 3, none⟩ = false := k1.frozen 3
 have f4 : w3.frozen? ⟨w.heap.size, 4, none⟩ = false := k1.frozen 4
 have f5 : w3.frozen? ⟨w.heap.size, 5, none⟩ = false := k1.frozen 5
 go_wp2
 obtain ⟨kb, hBe⟩ := unhide KB
 refine bodyPost_ret (v := .agg #[.int .i64 0, .int .i64 0, .int .i64 0, .slice none 0 0, .int .i64 rt, .int .i64 21]) (results_cell_row rfl _ _ w.heap.size 32 #[.int .i64 0, .int .i64 0, .int .i64 0, .slice none 0 0, .int .i64 rt, .int .i64 21] (0, 0) _ rfl kb Tryz.underlying32 rfl info_bkS) rfl ?_
 rw [unhide HV]
 exact ⟨rfl, hBe⟩
end Go.Proofs.YtihlhejencninaaGreat
namespace Go.Proofs.YtihlhejencninaaGreat
open Go.RowKit
set_option linter.unusedVariables false
set_option linter.unusedSimpArgs false

theorem bk_ext {x y : Bk} (h0 : x.before = y.before) (h1 : x.height = y.height) (h2 : x.view = y.view) (h3 : x.list = y.list) (h4 : x.root = y.root) (h5 : x.eff = y.eff) : x = y := by cases x; cases y; simp_all
theorem hm_actB : Tryz.prog.eqGuardType Tryz.prog.depth 56 = false := by kernel_rfl
theorem hs_actB : Tryz.prog.stoodInHeld 56 = false := by kernel_rfl
theorem hS_actB : Tryz.prog.underlying 56 = some (.struct (Tryz.prog.fieldsOf 56)) := by kernel_rfl
theorem eqIn_actB (a b : Act) (w : World) : (Op.equalIn 10000 56 (.agg #[.int .i64 a.kind, .int .i64 a.src, .int .i64 a.dst, .int .i64 a.amt]) (.agg #[.int .i64 b.kind, .int .i64 b.src, .int .i64 b.dst, .int .i64 b.amt])).run Tryz.prog w = .ok (decide (a = b)) w := by
 have h3 : Tryz.prog.underlying 3 = some (.int .i64) := Tryz.underlying3
 rw [show (10000 : Nat) = 9998 + 2 from rfl, run_equalIn_agg w _ _ _ _ hS_actB hs_actB]
 simp only [Program.fieldsOf, Tryz.underlying56]
 obtain ⟨a1, a2, a3, a4⟩ := a
 obtain ⟨b1, b2, b3, b4⟩ := b
 simp [go_sem, h3]
 by_cases h1 : a1 = b1 <;> by_cases h2 : a2 = b2 <;> by_cases h3 : a3 = b3 <;> by_cases h4 : a4 = b4 <;> simp [h1, h2, h3, h4]
theorem equalA_any (A B : Option Addr) (c d : Nat) (xs ys : List Act) (w : World) (hx : Rd w A (xs.flatMap encA)) (hy : Rd w B (ys.flatMap encA)) (hbx : xs.length ≤ 4611686018427387904) :
   Calls Tryz.prog 176 #[.slice A xs.length c, .slice B ys.length d] w fun e w' => e = .returned (.bool (decide (xs = ys))) ∧ ∃ m, w.drewN m = w' := by
 by_cases hl : xs.length = ys.length
 · have hd : ((xs.length : Int) != (ys.length : Int)) = false := by simp [hl]
   have HL := hide hl
   have hl1 : xs.length ≤ ys.length := by omega
   have hl2 : ys.length ≤ xs.length := by omega
   clear hl
   go_enter Tryz.func176, Tryz.ntmps176
   go_wp2
   go_loopw [5, 13] (fun _ i wr => ∃ k : Nat, k ≤ xs.length ∧ i = .int .i64 k ∧ (∀ j (h1 : j < xs.length) (h2 : j < ys.length), j < k → xs[j] = ys[j]) ∧ ∃ m, w.drewN m = wr) (fun _ i _ => xs.length - (intOf i).toNat)
   case atStart => exact ⟨0, Nat.zero_le _, rfl, fun j _ _ h => absurd h (by omega), 0, rfl⟩
   case round =>
     obtain ⟨k, hk, rfl, hsame, m, rfl⟩ := hrel
     have HS := hide hsame
     clear hsame
     by_cases hlt : k < xs.length
     · have hlt2 : k < ys.length := by omega
       obtain ⟨b, off, rfl, hbb, c0, c1, c2, c3⟩ := hx.act hlt
       obtain ⟨b', off', rfl, hbb', d0, d1, d2, d3⟩ := hy.act hlt2
       generalize hxk : xs[k] = xk at *
       generalize hyk : ys[k] = yk at *
       have HX := hide hxk
       have HY := hide hyk
       clear hxk hyk
       have i1 : (k : Int) < (xs.length : Int) := by omega
       have i2 : (k : Int) < (ys.length : Int) := by omega
       have e0 := eqIn_actB xk yk
       have e1 := hm_actB
       by_cases he : xk = yk
       · have e2 : decide (xk = yk) = true := by simpa using he
         have HE := hide he
         clear he
         rw [e2] at e0
         clear e2
         go_wp2
         go_quiet (fail)
         go_wp2
         go_roundw
         case rel =>
           refine ⟨k + 1, by omega, by go_num, fun j h1 h2 h3 => ?_, m + nq, rfl⟩
           rcases Nat.lt_or_ge j k with h4 | h4
           · exact unhide HS j h1 h2 h4
           · have : j = k := by omega
             subst this
             rw [unhide HX, unhide HY]
             exact unhide HE
         case measure => simp [intOf]; omega
       · have e2 : decide (xk = yk) = false := by simpa using he
         have HR := hide (show decide (xs = ys) = false by
           rw [decide_eq_false_iff_not]
           intro hh
           apply he
           subst hh
           rw [← unhide HX, ← unhide HY])
         clear he
         rw [e2] at e0
         clear e2
         go_wp2
         go_quiet (fail)
         go_wp2
         go_ret
         exact ⟨retb (unhide HR).symm, _, (World.drewN_drewN _ _ _).symm⟩
     · have HR := hide (show decide (xs = ys) = true by
         rw [decide_eq_true_eq]
         exact List.ext_getElem (unhide HL) fun j h1 h2 => unhide HS j h1 h2 (by omega))
       go_wp2
       go_ret
       exact ⟨retb (unhide HR).symm, m, rfl⟩
 · have hd : ((xs.length : Int) != (ys.length : Int)) = true := by simp; omega
   have HR := hide (show decide (xs = ys) = false by rw [decide_eq_false_iff_not]; intro hh; exact hl (by rw [hh]))
   clear hl
   go_enter Tryz.func176, Tryz.ntmps176
   go_wp2
   go_ret
   exact ⟨retb (unhide HR).symm, 0, rfl⟩
set_option maxRecDepth 100000 in
set_option maxHeartbeats 2000000 in
theorem sameB_impl (x y : Bk) (A : Option Addr) (c : Nat) (B : Option Addr) (d : Nat) (w : World) (h : Rd w A (x.list.flatMap encA)) (k : Rd w B (y.list.flatMap encA)) (hb : x.list.length ≤ 4611686018427387904) (hb2 : y.list.length ≤ 4611686018427387904) :
   Calls Tryz.prog 138 #[.agg #[.int .i64 x.before, .int .i64 x.height, .int .i64 x.view, .slice A x.list.length c, .int .i64 x.root, .int .i64 x.eff], .agg #[.int .i64 y.before, .int .i64 y.height, .int .i64 y.view, .slice B y.list.length d, .int .i64 y.root, .int .i64 y.eff]] w fun e w' => e = .returned (.bool (decide (x = y))) ∧ Below w.heap.size w w' := by
 have hB : Below w.heap.size w ((w.alloc (.cells #[.int .i64 x.before, .int .i64 x.height, .int .i64 x.view, .slice A x.list.length c, .int .i64 x.root, .int .i64 x.eff] 32)).alloc (.cells #[.int .i64 y.before, .int .i64 y.height, .int .i64 y.view, .slice B y.list.length d, .int .i64 y.root, .int .i64 y.eff] 32)) := ((Below.refl _ _).alloc (Nat.le_refl _) _).alloc (by simp) _
 have K0 := (Blk.new w 32 #[.int .i64 x.before, .int .i64 x.height, .int .i64 x.view, .slice A x.list.length c, .int .i64 x.root, .int .i64 x.eff]).alloc (.cells #[.int .i64 y.before, .int .i64 y.height, .int .i64 y.view, .slice B y.list.length d, .int .i64 y.root, .int .i64 y.eff] 32)
 have K1 := Blk.new (w.alloc (.cells #[.int .i64 x.before, .int .i64 x.height, .int .i64 x.view, .slice A x.list.length c, .int .i64 x.root, .int .i64 x.eff] 32)) 32 #[.int .i64 y.before, .int .i64 y.height, .int .i64 y.view, .slice B y.list.length d, .int .i64 y.root, .int .i64 y.eff]
 simp only [World.size_alloc] at K1
 by_cases e0 : x.before = y.before
 rotate_left
 · have HE := hide (show ¬ x = y from fun h => e0 (by rw [h]))
   have g0 : (x.before == y.before) = false := by simpa using e0
   have n0 : (x.before != y.before) = true := by simpa using e0
   clear e0
   go_enter Tryz.func138, Tryz.ntmps138
   go_wp2
   go_ret
   exact ⟨retb (decide_eq_false (unhide HE)).symm, hB⟩
 have H0 := hide e0
 have g0 : (x.before == y.before) = true := by simpa using e0
 have n0 : (x.before != y.before) = false := by simpa using e0
 clear e0
 by_cases e1 : x.height = y.height
 rotate_left
 · have HE := hide (show ¬ x = y from fun h => e1 (by rw [h]))
   have g1 : (x.height == y.height) = false := by simpa using e1
   have n1 : (x.height != y.height) = true := by simpa using e1
   clear e1
   go_enter Tryz.func138, Tryz.ntmps138
   go_wp2
   go_ret
   exact ⟨retb (decide_eq_false (unhide HE)).symm, hB⟩
 have H1 := hide e1
 have g1 : (x.height == y.height) = true := by simpa using e1
 have n1 : (x.height != y.height) = false := by simpa using e1
 clear e1
 by_cases e2 : x.view = y.view
 rotate_left
 · have HE := hide (show ¬ x = y from fun h => e2 (by rw [h]))
   have g2 : (x.view == y.view) = false := by simpa using e2
   have n2 : (x.view != y.view) = true := by simpa using e2
   clear e2
   go_enter Tryz.func138, Tryz.ntmps138
   go_wp2
   go_ret
   exact ⟨retb (decide_eq_false (unhide HE)).symm, hB⟩
 have H2 := hide e2
 have g2 : (x.view == y.view) = true := by simpa using e2
 have n2 : (x.view != y.view) = false := by simpa using e2
 clear e2
 by_cases e3 : x.root = y.root
 rotate_left
 · have HE := hide (show ¬ x = y from fun h => e3 (by rw [h]))
   have g3 : (x.root == y.root) = false := by simpa using e3
   have n3 : (x.root != y.root) = true := by simpa using e3
   clear e3
   go_enter Tryz.func138, Tryz.ntmps138
   go_wp2
   go_ret
   exact ⟨retb (decide_eq_false (unhide HE)).symm, hB⟩
 have H3 := hide e3
 have g3 : (x.root == y.root) = true := by simpa using e3
 have n3 : (x.root != y.root) = false := by simpa using e3
 clear e3
 by_cases e4 : x.eff = y.eff
 rotate_left
 · have HE := hide (show ¬ x = y from fun h => e4 (by rw [h]))
   have g4 : (x.eff == y.eff) = false := by simpa using e4
   have n4 : (x.eff != y.eff) = true := by simpa using e4
   clear e4
   go_enter Tryz.func138, Tryz.ntmps138
   go_wp2
   go_ret
   exact ⟨retb (decide_eq_false (unhide HE)).symm, hB⟩
 have H4 := hide e4
 have g4 : (x.eff == y.eff) = true := by simpa using e4
 have n4 : (x.eff != y.eff) = false := by simpa using e4
 clear e4
 have HD := hide (show decide (x = y) = decide (x.list = y.list) by
   by_cases hl : x.list = y.list
   · rw [decide_eq_true hl, decide_eq_true (bk_ext (unhide H0) (unhide H1) (unhide H2) hl (unhide H3) (unhide H4))]
   · rw [decide_eq_false hl, decide_eq_false (fun e => hl (by rw [e]))])
 go_enter Tryz.func138, Tryz.ntmps138
 go_wp2_with fail
 refine (equalA_any A B c d x.list y.list _ (h.new hB) (k.new hB) hb).mono ?_
 rintro e w' ⟨rfl, m, rfl⟩
 go_wp2
 go_ret
 exact ⟨retb (unhide HD).symm, below_drewN hB m⟩
set_option maxRecDepth 100000 in
set_option maxHeartbeats 2000000 in
theorem sameB_spec (x y : Bk) (A : Option Addr) (c : Nat) (B : Option Addr) (d : Nat) (w : World) (h : Rd w A (x.list.flatMap encA)) (k : Rd w B (y.list.flatMap encA)) (hb : x.list.length ≤ 4611686018427387904) (hb2 : y.list.length ≤ 4611686018427387904) :
   Calls Tryz.prog 144 #[.agg #[.int .i64 x.before, .int .i64 x.height, .int .i64 x.view, .slice A x.list.length c, .int .i64 x.root, .int .i64 x.eff], .agg #[.int .i64 y.before, .int .i64 y.height, .int .i64 y.view, .slice B y.list.length d, .int .i64 y.root, .int .i64 y.eff]] w fun e w' => e = .returned (.bool (decide (x = y))) ∧ Below w.heap.size w w' := by
 have hB : Below w.heap.size w ((w.alloc (.cells #[.int .i64 x.before, .int .i64 x.height, .int .i64 x.view, .slice A x.list.length c, .int .i64 x.root, .int .i64 x.eff] 32)).alloc (.cells #[.int .i64 y.before, .int .i64 y.height, .int .i64 y.view, .slice B y.list.length d, .int .i64 y.root, .int .i64 y.eff] 32)) := ((Below.refl _ _).alloc (Nat.le_refl _) _).alloc (by simp) _
 have K0 := (Blk.new w 32 #[.int .i64 x.before, .int .i64 x.height, .int .i64 x.view, .slice A x.list.length c, .int .i64 x.root, .int .i64 x.eff]).alloc (.cells #[.int .i64 y.before, .int .i64 y.height, .int .i64 y.view, .slice B y.list.length d, .int .i64 y.root, .int .i64 y.eff] 32)
 have K1 := Blk.new (w.alloc (.cells #[.int .i64 x.before, .int .i64 x.height, .int .i64 x.view, .slice A x.list.length c, .int .i64 x.root, .int .i64 x.eff] 32)) 32 #[.int .i64 y.before, .int .i64 y.height, .int .i64 y.view, .slice B y.list.length d, .int .i64 y.root, .int .i64 y.eff]
 simp only [World.size_alloc] at K1
 by_cases e0 : x.before = y.before
 rotate_left
 · have HE := hide (show ¬ x = y from fun h => e0 (by rw [h]))
   have g0 : (x.before == y.before) = false := by simpa using e0
   have n0 : (x.before != y.before) = true := by simpa using e0
   clear e0
   go_enter Tryz.func144, Tryz.ntmps144
   go_wp2
   go_ret
   exact ⟨retb (decide_eq_false (unhide HE)).symm, hB⟩
 have H0 := hide e0
 have g0 : (x.before == y.before) = true := by simpa using e0
 have n0 : (x.before != y.before) = false := by simpa using e0
 clear e0
 by_cases e1 : x.height = y.height
 rotate_left
 · have HE := hide (show ¬ x = y from fun h => e1 (by rw [h]))
   have g1 : (x.height == y.height) = false := by simpa using e1
   have n1 : (x.height != y.height) = true := by simpa using e1
   clear e1
   go_enter Tryz.func144, Tryz.ntmps144
   go_wp2
   go_ret
   exact ⟨retb (decide_eq_false (unhide HE)).symm, hB⟩
 have H1 := hide e1
 have g1 : (x.height == y.height) = true := by simpa using e1
 have n1 : (x.height != y.height) = false := by simpa using e1
 clear e1
 by_cases e2 : x.view = y.view
 rotate_left
 · have HE := hide (show ¬ x = y from fun h => e2 (by rw [h]))
   have g2 : (x.view == y.view) = false := by simpa using e2
   have n2 : (x.view != y.view) = true := by simpa using e2
   clear e2
   go_enter Tryz.func144, Tryz.ntmps144
   go_wp2
   go_ret
   exact ⟨retb (decide_eq_false (unhide HE)).symm, hB⟩
 have H2 := hide e2
 have g2 : (x.view == y.view) = true := by simpa using e2
 have n2 : (x.view != y.view) = false := by simpa using e2
 clear e2
 by_cases e3 : x.root = y.root
 rotate_left
 · have HE := hide (show ¬ x = y from fun h => e3 (by rw [h]))
   have g3 : (x.root == y.root) = false := by simpa using e3
   have n3 : (x.root != y.root) = true := by simpa using e3
   clear e3
   go_enter Tryz.func144, Tryz.ntmps144
   go_wp2
   go_ret
   exact ⟨retb (decide_eq_false (unhide HE)).symm, hB⟩
 have H3 := hide e3
 have g3 : (x.root == y.root) = true := by simpa using e3
 have n3 : (x.root != y.root) = false := by simpa using e3
 clear e3
 by_cases e4 : x.eff = y.eff
 rotate_left
 · have HE := hide (show ¬ x = y from fun h => e4 (by rw [h]))
   have g4 : (x.eff == y.eff) = false := by simpa using e4
   have n4 : (x.eff != y.eff) = true := by simpa using e4
   clear e4
   go_enter Tryz.func144, Tryz.ntmps144
   go_wp2
   go_ret
   exact ⟨retb (decide_eq_false (unhide HE)).symm, hB⟩
 have H4 := hide e4
 have g4 : (x.eff == y.eff) = true := by simpa using e4
 have n4 : (x.eff != y.eff) = false := by simpa using e4
 clear e4
 by_cases hl : x.list.length = y.list.length
 rotate_left
 · have HE := hide (show ¬ x = y from fun h => hl (by rw [h]))
   have g6 : ((x.list.length : Int) != (y.list.length : Int)) = true := by simp; omega
   clear hl
   go_enter Tryz.func144, Tryz.ntmps144
   go_wp2
   go_ret
   exact ⟨retb (decide_eq_false (unhide HE)).symm, hB⟩
 have g6 : ((x.list.length : Int) != (y.list.length : Int)) = false := by simp [hl]
 have HL := hide hl
 have hl1 : x.list.length ≤ y.list.length := by omega
 clear hl
 go_enter Tryz.func144, Tryz.ntmps144
 go_wp2
 obtain ⟨W, hW⟩ : ∃ W : World, W = ((w.alloc (.cells #[.int .i64 x.before, .int .i64 x.height, .int .i64 x.view, .slice A x.list.length c, .int .i64 x.root, .int .i64 x.eff] 32)).alloc (.cells #[.int .i64 y.before, .int .i64 y.height, .int .i64 y.view, .slice B y.list.length d, .int .i64 y.root, .int .i64 y.eff] 32)) := ⟨_, rfl⟩
 rw [← hW] at hB K0 K1
 rw [← hW]
 clear hW
 go_loopw [5] (fun i wr => ∃ k : Nat, k ≤ x.list.length ∧ i = .int .i64 k ∧ (∀ j (h1 : j < x.list.length) (h2 : j < y.list.length), j < k → x.list[j] = y.list[j]) ∧ ∃ m, W.drewN m = wr) (fun i _ => x.list.length - (intOf i).toNat)
 case atStart => exact ⟨0, Nat.zero_le _, rfl, fun j _ _ h => absurd h (by omega), 0, rfl⟩
 case round =>
   obtain ⟨k', hk, rfl, hsame, m, rfl⟩ := hrel
   have HS := hide hsame
   clear hsame
   have x3 : W.cell? ⟨w.heap.size, 3, none⟩ = some (.slice A x.list.length c) := K0.cell 3
   have y3 : W.cell? ⟨w.heap.size + 1, 3, none⟩ = some (.slice B y.list.length d) := K1.cell 3
   by_cases hlt : k' < x.list.length
   · have hlt2 : k' < y.list.length := by omega
     obtain ⟨b, off, rfl, hbb, c0, c1, c2, c3⟩ := (h.new hB).act hlt
     obtain ⟨b', off', rfl, hbb', d0, d1, d2, d3⟩ := (k.new hB).act hlt2
     generalize hxk : x.list[k'] = xk at *
     generalize hyk : y.list[k'] = yk at *
     have HX := hide hxk
     have HY := hide hyk
     clear hxk hyk
     have i1 : (k' : Int) < (x.list.length : Int) := by omega
     have i2 : (k' : Int) < (y.list.length : Int) := by omega
     have e0 := eqIn_actB xk yk
     have e1 := hm_actB
     by_cases he : xk = yk
     · have e2 : decide (xk = yk) = true := by simpa using he
       have HE := hide he
       clear he
       rw [e2] at e0
       clear e2
       go_wp2
       go_quiet (fail)
       go_wp2
       go_roundw
       case rel =>
         refine ⟨k' + 1, by omega, by go_num, fun j h1 h2 h3 => ?_, m + nq, rfl⟩
         rcases Nat.lt_or_ge j k' with h4 | h4
         · exact unhide HS j h1 h2 h4
         · have : j = k' := by omega
           subst this
           rw [unhide HX, unhide HY]
           exact unhide HE
       case measure => simp [intOf]; omega
     · have e2 : decide (xk = yk) = false := by simpa using he
       have HR := hide (show decide (x = y) = false by
         rw [decide_eq_false_iff_not]
         intro hh
         apply he
         subst hh
         rw [← unhide HX, ← unhide HY])
       clear he
       rw [e2] at e0
       clear e2
       go_wp2
       go_quiet (fail)
       go_wp2
       go_ret
       exact ⟨retb (unhide HR).symm, by first | exact below_drewN (below_drewN hB m) _ | exact below_drewN hB _⟩
   · have HR := hide (show decide (x = y) = true by
       rw [decide_eq_true_eq]
       exact bk_ext (unhide H0) (unhide H1) (unhide H2) (List.ext_getElem (unhide HL) fun j h1 h2 => unhide HS j h1 h2 (by omega)) (unhide H3) (unhide H4))
     go_wp2
     go_ret
     exact ⟨retb (unhide HR).symm, below_drewN hB m⟩
/-- the first place of a number, or none -/
def idxL (z : Int) : Nat → List Int → Int
 | _, [] => -1
 | n, x :: xs => if z = x then (n : Int) else idxL z (n + 1) xs
theorem idxL_none {z : Int} {xs : List Int} (n : Nat) (h : z ∉ xs) : idxL z n xs = -1 := by
 induction xs generalizing n with
 | nil => rfl
 | cons x xs ih => rw [idxL, if_neg (fun e => h (by simp [e])), ih (n + 1) (fun e => h (by simp [e]))]
theorem idxL_some {z : Int} {xs : List Int} (n k : Nat) (hk : k < xs.length) (h : xs[k] = z) (hn : ∀ j (hj : j < xs.length), j < k → xs[j] ≠ z) : idxL z n xs = (n + k : Nat) := by
 induction xs generalizing n k with
 | nil => simp at hk
 | cons x xs ih =>
   cases k with
   | zero => rw [idxL, if_pos (by simpa using h.symm)]; rfl
   | succ k =>
     rw [idxL, if_neg (fun e => hn 0 (by simp) (by omega) (by simpa using e.symm)), ih (n + 1) k (by simpa using hk) (by simpa using h) (fun j hj hjk => hn (j + 1) (by simpa using hj) (by omega))]
     omega
theorem idxL_ge (z : Int) (n : Nat) (xs : List Int) : decide (0 ≤ idxL z n xs) = decide (z ∈ xs) := by
 induction xs generalizing n with
 | nil => rfl
 | cons x xs ih =>
   rw [idxL]
   by_cases h : z = x
   · rw [if_pos h, h]; simp
   · rw [if_neg h, ih]
     simp [h]
set_option maxHeartbeats 1000000 in
theorem indexI_any (A : Option Addr) (c : Nat) (xs : List Int) (z : Int) (w : World) (h : Rd w A (xs.map (.int .i64))) (hb : xs.length ≤ 4611686018427387904) :
   Calls Tryz.prog 177 #[.slice A xs.length c, .int .i64 z] w fun e w' => e = .returned (.int .i64 (idxL z 0 xs)) ∧ w = w' := by
 go_enter Tryz.func177, Tryz.ntmps177
 go_wp2
 go_loopw [5, 8] (fun _ i wr => ∃ k : Nat, k ≤ xs.length ∧ i = .int .i64 k ∧ Hid (∀ j (hj : j < xs.length), j < k → xs[j] ≠ z) ∧ w = wr) (fun _ i _ => xs.length - (intOf i).toNat)
 case atStart => exact ⟨0, Nat.zero_le _, rfl, hide fun j _ h => absurd h (by omega), rfl⟩
 case round =>
   obtain ⟨k, hk, rfl, HS, rfl⟩ := hrel
   by_cases hlt : k < xs.length
   · obtain ⟨b, off, rfl, hbb, d0⟩ := h.int hlt
     have i1 : (k : Int) < (xs.length : Int) := by omega
     by_cases he : xs[k] = z
     · have HR := hide (idxL_some 0 k hlt he (unhide HS))
       rw [he] at d0
       clear he
       have hzz : (z == z) = true := by simp
       go_wp2
       go_ret
       exact ⟨reti (by rw [unhide HR]; simp), rfl⟩
     · have hne : (z == xs[k]) = false := by simpa using fun e => he e.symm
       have HN := hide (show ∀ j (hj : j < xs.length), j < k + 1 → xs[j] ≠ z from fun j hj h2 => by
         rcases Nat.lt_or_ge j k with h3 | h3
         · exact unhide HS j hj h3
         · have : j = k := by omega
           subst this
           exact he)
       clear he
       generalize xs[k] = y at *
       go_wp2
       go_roundw
       case rel => exact ⟨k + 1, by omega, by go_num, HN, by trivial⟩
       case measure => simp [intOf]; omega
   · have HR := hide (idxL_none 0 (z := z) (xs := xs) (fun hm => by
       obtain ⟨j, hj, e⟩ := List.getElem_of_mem hm
       exact unhide HS j hj (by omega) e))
     go_wp2
     go_ret
     exact ⟨reti (unhide HR).symm, rfl⟩
theorem containsI_any (A : Option Addr) (c : Nat) (xs : List Int) (z : Int) (w : World) (h : Rd w A (xs.map (.int .i64))) (hb : xs.length ≤ 4611686018427387904) :
   Calls Tryz.prog 141 #[.slice A xs.length c, .int .i64 z] w fun e w' => e = .returned (.bool (decide (z ∈ xs))) ∧ w = w' := by
 have HR := hide (idxL_ge z 0 xs)
 go_enter Tryz.func141, Tryz.ntmps141
 go_wp2_with fail
 refine (indexI_any A c xs z w h hb).mono ?_
 rintro e w' ⟨rfl, rfl⟩
 go_wp2
 go_ret
 exact ⟨retb (unhide HR), rfl⟩
end Go.Proofs.YtihlhejencninaaGreat
