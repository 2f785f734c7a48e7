/- Copies of trees, of the program (printed by gen_in.py from xclone.in). Pruned trees: what they are, and the program's (printed by gen_in.py from xprune.in). Pruned trees, of the reference (printed by gen_in.py from xprunes.in). Pruned trees: the plain law. No program is in sight here. Equal trees and blocks, in the laws (printed by gen_in.py from xsamet.in). Leaves of trees, of both sides; a block before another one; a number in a list. The block with a sum, of the program (printed by gen_in.py from xfindi.in). A pruned tree pruned again: the plain law. No program is in sight here. -/
import Derived.Test.YtefdhlfljpppfaaGreatGtree
import Derived.Test.YtefdhlfljpppfaaGreatEffD
import Derived.Test.YtefdhlfljpppfaaGreatBSame
import Derived.Test.YtefdhlfljpppfaaGreatTr
import Derived.Test.YtefdhlfljpppfaaGreatSameS
import Derived.Test.YtefdhlfljpppfaaGreatIntS
import Derived.Test.YtefdhlfljpppfaaGreatBTreeS
import Derived.Test.YtefdhlfljpppfaaGreatFuncI
namespace Go.Proofs.YtefdhlfljpppfaaGreat
open Go.RowKit
set_option linter.unusedVariables false
set_option linter.unusedSimpArgs false

/-- a block by value with a list of its own -/
def bkOwn (B : Nat) (x : Bk) (v : Value) (w : World) : Prop := ∃ A c, v = .agg #[.int .i64 x.before, .int .i64 x.height, .int .i64 x.view, .slice A x.list.length c, .int .i64 x.root, .int .i64 x.eff] ∧ w.ownsRow B 101 4 (.slice A x.list.length c) x.list.length (x.list.flatMap encA)
theorem sb_bkOwn (B : Nat) (x : Bk) : StB (bkOwn B x) := fun _ _ _ hb ⟨A, c, h1, h2⟩ => ⟨A, c, h1, own_new h2 hb⟩
/-- a row of one such block -/
def bkRow1 (B : Nat) (x : Bk) (v : Value) (w : World) : Prop := ∃ q A c, v = .slice (some ⟨q, 0, none⟩) 1 1 ∧ Rd w (some ⟨q, 0, none⟩) (bkV x A c) ∧ w.ownsRow B 101 4 (.slice A x.list.length c) x.list.length (x.list.flatMap encA)
theorem sb_bkRow1 (B : Nat) (x : Bk) : StB (bkRow1 B x) := fun _ _ _ hb ⟨q, A, c, h1, h2, h3⟩ => ⟨q, A, c, h1, h2.new hb, own_new h3 hb⟩
theorem grow_step2 {α : Type} {O : ORel α} {R : Rel α} {s : Nat} (G : OGood O R) (GR : Good R s) {wr w3 w7 : World} {base : Nat} {e : TypeId} {A' A7 : Option Addr} {c' c7 n m : Nat} {xs : List α} {vs : List (List Value)} {fs : List (List Nat)} {x : α} {cs : List Value} {f : List Nat}
    (hall : AllO O wr xs vs fs) (hnd : fs.flatten.Nodup) (hF : ∀ q ∈ fs.flatten, base ≤ q ∧ A' ≠ some ⟨q, 0, none⟩) (hown : wr.ownsRow base e s (.slice A' n c') n vs.flatten) (hbase : base ≤ wr.heap.size)
    (b3 : Below wr.heap.size wr w3) (hx : O x w3 cs f) (hfn : f.Nodup) (hfb : ∀ q ∈ f, wr.heap.size ≤ q)
    (ch7 : Chg (fun g => A' = some ⟨g, 0, none⟩) w3 w7) (d7 : A7 = A' ∨ (A7 = some ⟨w3.heap.size, 0, none⟩ ∧ Below w3.heap.size w3 w7)) (o7 : w7.ownsRow base e s (.slice A7 m c7) m (vs.flatten ++ cs)) :
    AllO O w7 (xs ++ [x]) (vs ++ [cs]) (fs ++ [f]) ∧ (fs ++ [f]).flatten.Nodup ∧ (∀ q ∈ (fs ++ [f]).flatten, base ≤ q ∧ A7 ≠ some ⟨q, 0, none⟩) ∧ w7.ownsRow base e s (.slice A7 m c7) m (vs ++ [cs]).flatten := by
  have hl := hall.lt G
  have hl3 : ∀ q ∈ f, q < w3.heap.size := by
    have := (AllO.one hx).lt G
    intro q hq
    exact this q (by simpa using hq)
  have hs3 := b3.size
  have hrg := own_rng hown
  have hall3 := (hall.keep G (w' := w3) fun q _ hq => b3.block q hq).append (AllO.one hx)
  have key : ∀ q ∈ (fs ++ [f]).flatten, base ≤ q ∧ q < w3.heap.size ∧ A' ≠ some ⟨q, 0, none⟩ := fun q hq => by
    rw [List.flatten_append] at hq
    rcases List.mem_append.1 hq with hq | hq
    · have h1 := hF q hq
      have h2 := hl q hq
      exact ⟨h1.1, by omega, h1.2⟩
    · have hq : q ∈ f := by simpa using hq
      have h1 := hfb q hq
      exact ⟨by omega, hl3 q hq, fun e => by have := hrg q e; omega⟩
  refine ⟨hall3.keep G fun q hq hqw => ?_, ?_, fun q hq => ?_, by rw [List.flatten_append]; simpa using o7⟩
  · have h1 := key q hq
    exact ch7.block q hqw h1.2.2
  · rw [List.flatten_append]
    exact fresh_nodup (m := wr.heap.size) hnd (by simpa using hfn) hl (fun q hq => hfb q (by simpa using hq))
  · have h1 := key q hq
    refine ⟨h1.1, fun e => ?_⟩
    rcases d7 with rfl | ⟨rfl, _⟩
    · exact h1.2.2 e
    · injection e with e; injection e with e; omega
set_option maxRecDepth 100000 in
set_option maxHeartbeats 4000000 in
theorem bkClone_impl (x : Bk) (A : Option Addr) (c : Nat) (w : World) (h : Rd w A (x.list.flatMap encA)) (hb : x.list.length ≤ 1099511627776) :
    Calls Tryz.prog 95 #[.agg #[.int .i64 x.before, .int .i64 x.height, .int .i64 x.view, .slice A x.list.length c, .int .i64 x.root, .int .i64 x.eff]] w fun e w' => ∃ B d, e = .returned (.agg #[.int .i64 x.before, .int .i64 x.height, .int .i64 x.view, .slice B x.list.length d, .int .i64 x.root, .int .i64 x.eff]) ∧ w'.ownsRow w.heap.size 101 4 (.slice B x.list.length d) x.list.length (x.list.flatMap encA) ∧ Below w.heap.size w w' := by
  obtain ⟨W, hW⟩ : ∃ W : World, W = (w.alloc (.cells #[.int .i64 x.before, .int .i64 x.height, .int .i64 x.view, .slice A x.list.length c, .int .i64 x.root, .int .i64 x.eff] 50)).alloc (.cells #[.int .i64 0, .int .i64 0, .int .i64 0, .slice none 0 0, .int .i64 0, .int .i64 0] 50) := ⟨_, rfl⟩
  have hb0 : Below w.heap.size w W := by rw [hW]; exact ((Below.refl _ _).alloc (Nat.le_refl _) _).alloc (by simp) _
  have K0 : Blk W w.heap.size 50 #[.int .i64 x.before, .int .i64 x.height, .int .i64 x.view, .slice A x.list.length c, .int .i64 x.root, .int .i64 x.eff] := by rw [hW]; exact (Blk.new _ _ _).alloc _
  have K1 : Blk W (w.heap.size + 1) 50 #[.int .i64 0, .int .i64 0, .int .i64 0, .slice none 0 0, .int .i64 0, .int .i64 0] := by
    rw [hW]
    have := Blk.new (w.alloc (.cells #[.int .i64 x.before, .int .i64 x.height, .int .i64 x.view, .slice A x.list.length c, .int .i64 x.root, .int .i64 x.eff] 50)) 50 #[.int .i64 0, .int .i64 0, .int .i64 0, .slice none 0 0, .int .i64 0, .int .i64 0]
    simpa using this
  have hW1 := K1.lt
  have v3 : W.cell? ⟨w.heap.size, 3, none⟩ = some (.slice A x.list.length c) := K0.cell 3
  have hr := h.new hb0
  clear h
  subst hW
  go_enter Tryz.func95, Tryz.ntmps95
  go_wp2_with (first | (at_builtin; refine wpList_app0 rfl (.const (.slice none 0 0)) (.tmp 4) 48 rfl el_actz rfl (own_nil _ (w.heap.size + 1 + 1) _ _) rfl hr (len_acts x.list) (one_acts2 x.list) (by simp only [maxLen]; omega) (by omega) (by simp) ?_; intro A7 c7 w7 o7 b7; have k7 := K0.new_ b7; have u0 : w7.cell? ⟨w.heap.size, 0, none⟩ = some _ := k7.cell 0; have u1 : w7.cell? ⟨w.heap.size, 1, none⟩ = some _ := k7.cell 1; have u2 : w7.cell? ⟨w.heap.size, 2, none⟩ = some _ := k7.cell 2; have u3 : w7.cell? ⟨w.heap.size, 3, none⟩ = some _ := k7.cell 3; have u4 : w7.cell? ⟨w.heap.size, 4, none⟩ = some _ := k7.cell 4; have u5 : w7.cell? ⟨w.heap.size, 5, none⟩ = some _ := k7.cell 5; have f3 : w7.frozen? ⟨w.heap.size, 3, none⟩ = false := k7.frozen 3; have kr7 := K1.new_ b7; have chS : Chg (fun q => q = w.heap.size) w7 (w7.setCell ⟨w.heap.size, 3, none⟩ (.slice A7 x.list.length c7)) := (Chg.refl (fun q => q = w.heap.size) w7).setCell (p := ⟨w.heap.size, 3, none⟩) (.inl rfl) _; have o7s := own_chg o7 chS (fun q hq e => by have := own_rng o7 q hq; omega); have kr := kr7.chg chS (by omega); have hs7 := b7.size) | (refine wpList_store_row rfl 50 (.tmp 2) (.tmp 7) rfl (w.heap.size + 1) #[.int .i64 x.before, .int .i64 x.height, .int .i64 x.view, .slice A7 x.list.length c7, .int .i64 x.root, .int .i64 x.eff] rfl rfl 50 #[.int .i64 0, .int .i64 0, .int .i64 0, .slice none 0 0, .int .i64 0, .int .i64 0] kr info_bkS rfl (bk6_one _ _ _ _ _ _ _ _) ?_))
  refine bodyPost_ret (v := .agg #[.int .i64 x.before, .int .i64 x.height, .int .i64 x.view, .slice A7 x.list.length c7, .int .i64 x.root, .int .i64 x.eff]) (results_cell_row (p := 2) (ty := 50) rfl _ _ (w.heap.size + 1) 50 #[.int .i64 x.before, .int .i64 x.height, .int .i64 x.view, .slice A7 x.list.length c7, .int .i64 x.root, .int .i64 x.eff] (0, 0) _ rfl (blk_setRow kr) Tryz.underlying50 rfl info_bkS) rfl ?_
  exact ⟨A7, c7, rfl, own_base (own_setRow o7s (by omega) _) (by omega), below_setRow ((bthen hb0 b7).trans (chS.below (fun q hq e => by omega) (by have := (bthen hb0 b7).size; omega))) (by omega) _⟩
set_option maxRecDepth 100000 in
set_option maxHeartbeats 8000000 in
theorem clone_impl (t : Tr) (A1 : Option Addr) (c1 : Nat) (A2 : Option Addr) (c2 : Nat) (A3 : Option Addr) (c3 : Nat) (w : World) (h : TrR w t A1 A2 A3) (hb1 : t.base.length ≤ 1099511627776) (hb2 : t.blocks.length ≤ 1099511627776) (hbs : ∀ x ∈ t.blocks, x.list.length ≤ 1099511627776) (hb3 : t.before.length ≤ 1099511627776) :
    Calls Tryz.prog 58 #[.agg (trA t A1 c1 A2 c2 A3 c3)] w fun e w' => ∃ B1 d1 B2 d2 B3 d3 fp, e = .returned (.agg (trA t B1 d1 B2 d2 B3 d3)) ∧ TrO w' w.heap.size t B1 d1 B2 d2 B3 d3 fp ∧ Below w.heap.size w w' := by
  have HBS := hide hbs
  clear hbs
  obtain ⟨W, hW⟩ : ∃ W : World, W = (w.alloc (.cells (trA t A1 c1 A2 c2 A3 c3) 27)).alloc (.cells #[.slice none 0 0, .slice none 0 0, .slice none 0 0] 27) := ⟨_, rfl⟩
  have hb0 : Below w.heap.size w W := by rw [hW]; exact ((Below.refl _ _).alloc (Nat.le_refl _) _).alloc (by simp) _
  have K0 : Blk W w.heap.size 27 (trA t A1 c1 A2 c2 A3 c3) := by rw [hW]; exact (Blk.new _ _ _).alloc _
  have K1 : Blk W (w.heap.size + 1) 27 #[.slice none 0 0, .slice none 0 0, .slice none 0 0] := by
    rw [hW]
    have := Blk.new (w.alloc (.cells (trA t A1 c1 A2 c2 A3 c3) 27)) 27 #[.slice none 0 0, .slice none 0 0, .slice none 0 0]
    simpa using this
  have hW1 := K1.lt
  simp only [trA] at K0 hW ⊢
  have HX := hide (fun (w' : World) (hb : Below W.heap.size W w') => show w'.cell? ⟨w.heap.size, 0, none⟩ = some (.slice A1 t.base.length c1) ∧ w'.cell? ⟨w.heap.size, 1, none⟩ = some (.slice A2 t.blocks.length c2) ∧ w'.cell? ⟨w.heap.size, 2, none⟩ = some (.slice A3 t.before.length c3) ∧ TrR w' t A1 A2 A3 from ⟨(K0.new_ hb).cell 0, (K0.new_ hb).cell 1, (K0.new_ hb).cell 2, h.new (bthen hb0 hb)⟩)
  have HK1 := hide (fun (w' : World) (hb : Below W.heap.size W w') => K1.new_ hb)
  clear h K0 K1
  go_enter Tryz.func58, Tryz.ntmps58
  go_wp2
  rw [← hW]
  have hF : StBL [bV (.pointer (some ⟨w.heap.size, 0, none⟩)), bV (.slice A1 t.base.length c1), sOwn W.heap.size t.base, bV (.pointer (some ⟨w.heap.size, 2, none⟩)), bV (.slice A3 t.before.length c3), iOwn W.heap.size t.before, baseT W.heap.size t, newBox W.heap.size 27 #[.slice none 0 0, .slice none 0 0, .slice none 0 0]] :=
    ⟨sb_V _, sb_V _, sb_Own _ _, sb_V _, sb_V _, sb_iOwn _ _, sb_baseT _ _, sb_newBox _ _ _, trivial⟩
  go_upto_region 1 with fail
  refine wp_region_loc (by kernel_rfl) [(0, some 6), (1, some 7), (2, some 8), (3, some 9), (4, some 10), (5, some 11), (6, some 12), (7, some 3)] [[], [(0, some 6)], [(1, some 7)], [], [(3, some 9)], [(4, some 10)], [(2, some 8), (5, some 11)], []] (by kernel_rfl)
    (locB _) (fun a b => Below a.heap.size a b) noR [0, 0, 0, 0, 0, 0, 0, 0] 0 (by kernel_rfl) (fun _ => Below.refl _ _) (fun _ _ _ => bthen) (locB_st hF _) trivial ?_ ?_
  · refine steps_cons ?s0 ( steps_cons ?s1 ( steps_cons ?s2 ( steps_cons ?s3 ( steps_cons ?s4 ( steps_cons ?s5 ( steps_cons ?s6 ( steps_cons ?s7 steps_nil)))))))
    case s0 =>
      intro w' m' hE hR
      intro Q hQ
      go_wp2
      exact hQ _ _ _ rfl rfl (Below.refl _ _) trivial
    case s1 =>
      intro w' m' hE hR
      rintro _ rfl Q hQ
      obtain ⟨y0, y1, y2, y3⟩ := unhide HX w' (below_undrew hE)
      go_wp2
      exact hQ _ _ _ rfl rfl (Below.refl _ _) trivial
    case s2 =>
      intro w' m' hE hR
      rintro _ rfl Q hQ
      obtain ⟨y0, y1, y2, y3⟩ := unhide HX w' (below_undrew hE)
      have hsz := hE.size
      go_wp2_with fail
      refine (cloneEntries_any A1 c1 t.base w' y3.b1 (by omega)).mono ?_
      rintro e w2 ⟨A', c', rfl, o2, b2⟩
      go_wp2
      exact hQ _ _ _ rfl ⟨A', c', rfl, own_base o2 hsz⟩ b2 trivial
    case s3 =>
      intro w' m' hE hR
      intro Q hQ
      go_wp2
      exact hQ _ _ _ rfl rfl (Below.refl _ _) trivial
    case s4 =>
      intro w' m' hE hR
      rintro _ rfl Q hQ
      obtain ⟨y0, y1, y2, y3⟩ := unhide HX w' (below_undrew hE)
      go_wp2
      exact hQ _ _ _ rfl rfl (Below.refl _ _) trivial
    case s5 =>
      intro w' m' hE hR
      rintro _ rfl Q hQ
      obtain ⟨y0, y1, y2, y3⟩ := unhide HX w' (below_undrew hE)
      have hsz := hE.size
      refine wpList_app0 rfl (.const (.slice none 0 0)) (.tmp 10) 25 rfl el_int rfl (own_nil _ W.heap.size _ _) rfl y3.b3 (by simp) (one_ia t.before) (by simp only [maxLen]; omega) (by omega) hsz ?_
      intro A' c' w2 o2 b2
      go_wp2
      exact hQ _ _ _ rfl ⟨A', c', rfl, o2⟩ b2 trivial
    case s6 =>
      intro w' m' hE hR
      rintro _ ⟨B1, d1, rfl, o1⟩ _ ⟨B3, d3, rfl, o3⟩ Q hQ
      go_wp2
      exact hQ _ _ _ rfl ⟨B1, d1, B3, d3, rfl, o1, o3⟩ (Below.refl _ _) trivial
    case s7 =>
      intro w' m' hE hR
      intro Q hQ
      have hsz := hE.size
      go_wp2
      exact hQ _ _ _ rfl ⟨w'.heap.size, rfl, hsz, Blk.new _ _ _⟩ ((Below.refl _ _).alloc (Nat.le_refl _) _) trivial
  intro w9 hE _
  rintro v0 - v1 - v2 - v3 - v4 - v5 - v6 ⟨B1, d1, B3, d3, rfl, o1, o3⟩ v7 ⟨g, rfl, hg, kg⟩
  change wpList _ _ _ [_] _ _
  simp only [Act.put, List.setIfInBounds_toArray, List.set_cons_succ, List.set_cons_zero]
  have b9 := below_undrew hE
  have hgl := kg.lt
  go_wp2_with (refine wpList_store_row rfl 27 (.tmp 3) (.tmp 12) rfl g #[.slice B1 t.base.length d1, .slice none 0 0, .slice B3 t.before.length d3] rfl rfl 27 #[.slice none 0 0, .slice none 0 0, .slice none 0 0] kg info_tr rfl (sl3_one _ _ _ _ _ _ _ _ _) ?_; refine at_world (C := fun W => wpList _ _ _ _ _ W) (F := fun W2 => Blk W2 g 27 #[.slice B1 t.base.length d1, .slice none 0 0, .slice B3 t.before.length d3] ∧ W2.ownsRow W.heap.size 85 2 (.slice B1 t.base.length d1) t.base.length (t.base.flatMap encE) ∧ W2.ownsRow W.heap.size 3 1 (.slice B3 t.before.length d3) t.before.length (t.before.map (.int .i64)) ∧ Below W.heap.size W W2 ∧ g < W2.heap.size) ⟨blk_setRow kg, own_EB o1 (EB.setRow kg hg _) ne_et, own_EB o3 (EB.setRow kg hg _) ne_it, below_setRow b9 hg _, by rw [size_setRow]; exact hgl⟩ ?_; rintro W2 ⟨kg2, p1, p3, b2, hg2⟩; obtain ⟨y0, y1, y2, -⟩ := unhide HX W2 b2)
  have a13 := own_ne p1 p3 ne_ei
  have HR1 := hide (own_rng p1)
  have HR3 := hide (own_rng p3)
  have HA13 := hide a13
  have HGA1 := hide (show ¬ B1 = some ⟨g, 0, none⟩ from fun e => by
    rcases p1.2 with ⟨hv, _⟩ | ⟨q, cap, cur, hv, _, hh, _⟩
    · injection hv with hv; rw [e] at hv; cases hv
    · injection hv with hv; rw [e] at hv; injection hv with hv; injection hv with hv; subst hv; rw [show W2.heap[g]? = _ from kg2] at hh; injection hh with hh; injection hh with _ h3 _; exact ne_et h3.symm)
  have HGA3 := hide (show ¬ B3 = some ⟨g, 0, none⟩ from fun e => by
    rcases p3.2 with ⟨hv, _⟩ | ⟨q, cap, cur, hv, _, hh, _⟩
    · injection hv with hv; rw [e] at hv; cases hv
    · injection hv with hv; rw [e] at hv; injection hv with hv; injection hv with hv; subst hv; rw [show W2.heap[g]? = _ from kg2] at hh; injection hh with hh; injection hh with _ h3 _; exact ne_it h3.symm)
  have hm0 := b2.size
  have HGW := hide hg
  have hgW : w.heap.size + 1 < g := by omega
  clear a13 o1 o3 kg hgl b9 hE hF hg
  go_loopw [5, 16] (fun _ i wr => ∃ (k : Nat) (A' : Option Addr) (c' : Nat) (vs : List (List Value)) (fs : List (List Nat)), k ≤ t.blocks.length ∧ i = .int .i64 k ∧ AllO bkO wr (t.blocks.take k) vs fs ∧ fs.flatten.Nodup ∧ Hid (∀ q ∈ fs.flatten, W2.heap.size ≤ q ∧ A' ≠ some ⟨q, 0, none⟩) ∧ wr.ownsRow W2.heap.size 50 6 (.slice A' k c') k vs.flatten ∧ Blk wr g 27 #[.slice B1 t.base.length d1, .slice A' k c', .slice B3 t.before.length d3] ∧ wr.ownsRow W.heap.size 85 2 (.slice B1 t.base.length d1) t.base.length (t.base.flatMap encE) ∧ wr.ownsRow W.heap.size 3 1 (.slice B3 t.before.length d3) t.before.length (t.before.map (.int .i64)) ∧ W2.heap.size ≤ wr.heap.size ∧ Below W.heap.size W wr) (fun _ i _ => t.blocks.length - (intOf i).toNat)
  case atStart => exact ⟨0, none, 0, [], [], Nat.zero_le _, rfl, trivial, by simp, hide (by simp), own_nil _ _ _ _, kg2, p1, p3, Nat.le_refl _, b2⟩
  case round =>
    clear kg2 p1 p3 b2 y0 y1 y2
    obtain ⟨k, A', c', vs, fs, hk, rfl, hall, hnd, HF, hown, kg, p1, p3, hwr, hB⟩ := hrel
    obtain ⟨y0, y1, y2, hT⟩ := unhide HX wr hB
    have q0 : wr.cell? ⟨g, 0, none⟩ = some (.slice B1 t.base.length d1) := kg.cell 0
    have q1 : wr.cell? ⟨g, 1, none⟩ = some (.slice A' k c') := kg.cell 1
    have q2 : wr.cell? ⟨g, 2, none⟩ = some (.slice B3 t.before.length d3) := kg.cell 2
    by_cases hlt : k < t.blocks.length
    · have i1 : (k : Int) < (t.blocks.length : Int) := by omega
      obtain ⟨bq, offq, L1, e1, hA2, -, hbb, x0, x1, x2, x3, x4, x5, hl1, r1⟩ := hT.b2.bk hlt
      have hxl := unhide HBS t.blocks[k] (List.getElem_mem hlt)
      have HT := hide (show t.blocks.take (k + 1) = t.blocks.take k ++ [t.blocks[k]] from List.take_succ_eq_append_getElem hlt)
      generalize t.blocks[k] = x at *
      have HA2 := hide hA2
      clear hA2
      have rx := r1.rd
      rw [unhide HA2]
      clear r1 hl1
      have hgwr : g < wr.heap.size := by omega
      have hne : g ≠ wr.heap.size := by omega
      have hne2 : wr.heap.size ≠ g := by omega
      have HRO := hide (own_rng hown)
      go_wp2_with (refine wpList_store_row rfl 50 (.tmp 5) (.tmp 19) rfl wr.heap.size #[.int .i64 x.before, .int .i64 x.height, .int .i64 x.view, .slice L1 x.list.length e1, .int .i64 x.root, .int .i64 x.eff] rfl rfl 50 #[.int .i64 0, .int .i64 0, .int .i64 0, .slice none 0 0, .int .i64 0, .int .i64 0] (box_new wr 50 #[.int .i64 0, .int .i64 0, .int .i64 0, .slice none 0 0, .int .i64 0, .int .i64 0] #[.int .i64 x.before, .int .i64 x.height, .int .i64 x.view, .slice L1 x.list.length e1, .int .i64 x.root, .int .i64 x.eff]).1 info_bkS rfl (bk6_one _ _ _ _ _ _ _ _) ?_; refine at_world (C := fun W => wpList _ _ _ _ _ W) (F := fun W => Blk W wr.heap.size 50 #[.int .i64 x.before, .int .i64 x.height, .int .i64 x.view, .slice L1 x.list.length e1, .int .i64 x.root, .int .i64 x.eff] ∧ Below wr.heap.size wr W) ⟨(box_new wr 50 #[.int .i64 0, .int .i64 0, .int .i64 0, .slice none 0 0, .int .i64 0, .int .i64 0] #[.int .i64 x.before, .int .i64 x.height, .int .i64 x.view, .slice L1 x.list.length e1, .int .i64 x.root, .int .i64 x.eff]).2.1, (box_new wr 50 #[.int .i64 0, .int .i64 0, .int .i64 0, .slice none 0 0, .int .i64 0, .int .i64 0] #[.int .i64 x.before, .int .i64 x.height, .int .i64 x.view, .slice L1 x.list.length e1, .int .i64 x.root, .int .i64 x.eff]).2.2⟩ ?_; rintro w5 ⟨k5, b5⟩)
      have HY := hide (fun (w' : World) (hb : Below w5.heap.size w5 w') => show w'.cell? ⟨g, 1, none⟩ = some (.slice A' k c') ∧ (w'.cell? ⟨wr.heap.size, 0, none⟩ = some (.int .i64 x.before) ∧ w'.cell? ⟨wr.heap.size, 1, none⟩ = some (.int .i64 x.height) ∧ w'.cell? ⟨wr.heap.size, 2, none⟩ = some (.int .i64 x.view) ∧ w'.cell? ⟨wr.heap.size, 3, none⟩ = some (.slice L1 x.list.length e1) ∧ w'.cell? ⟨wr.heap.size, 4, none⟩ = some (.int .i64 x.root) ∧ w'.cell? ⟨wr.heap.size, 5, none⟩ = some (.int .i64 x.eff)) ∧ Rd w' L1 (x.list.flatMap encA) from ⟨((kg.new_ b5).new_ hb).cell 1, ⟨(k5.new_ hb).cell 0, (k5.new_ hb).cell 1, (k5.new_ hb).cell 2, (k5.new_ hb).cell 3, (k5.new_ hb).cell 4, (k5.new_ hb).cell 5⟩, rx.new (bthen b5 hb)⟩)
      have hF : StBL [bV (.pointer (some ⟨g, 1, none⟩)), bV (.slice A' k c'), bV (.agg #[.int .i64 x.before, .int .i64 x.height, .int .i64 x.view, .slice L1 x.list.length e1, .int .i64 x.root, .int .i64 x.eff]), bkOwn wr.heap.size x, bkRow1 wr.heap.size x] :=
        ⟨sb_V _, sb_V _, sb_V _, sb_bkOwn _ _, sb_bkRow1 _ _, trivial⟩
      go_upto_region 5 with fail
      refine wp_region_loc (by kernel_rfl) [(0, some 20), (1, some 21), (2, some 22), (3, some 23), (4, some 24)] [[], [(0, some 20)], [], [(2, some 22)], [(3, some 23)]] (by kernel_rfl)
        (locB _) (fun a b => Below a.heap.size a b) noR [0, 0, 0, 0, 0] 0 (by kernel_rfl) (fun _ => Below.refl _ _) (fun _ _ _ => bthen) (locB_st hF _) trivial ?_ ?_
      · refine steps_cons ?s0 ( steps_cons ?s1 ( steps_cons ?s2 ( steps_cons ?s3 ( steps_cons ?s4 steps_nil))))
        case s0 =>
          intro w' m' hE hR
          intro Q hQ
          go_wp2
          exact hQ _ _ _ rfl rfl (Below.refl _ _) trivial
        case s1 =>
          intro w' m' hE hR
          rintro _ rfl Q hQ
          obtain ⟨q1, ⟨v0, v1, v2, v3, v4, v5⟩, vr⟩ := unhide HY w' (below_undrew hE)
          go_wp2
          exact hQ _ _ _ rfl rfl (Below.refl _ _) trivial
        case s2 =>
          intro w' m' hE hR
          intro Q hQ
          obtain ⟨q1, ⟨v0, v1, v2, v3, v4, v5⟩, vr⟩ := unhide HY w' (below_undrew hE)
          go_wp2
          exact hQ _ _ _ rfl rfl (Below.refl _ _) trivial
        case s3 =>
          intro w' m' hE hR
          rintro _ rfl Q hQ
          obtain ⟨q1, ⟨v0, v1, v2, v3, v4, v5⟩, vr⟩ := unhide HY w' (below_undrew hE)
          have hsz := hE.size
          have hsz5 := b5.size
          go_wp2_with fail
          refine (bkClone_impl x L1 e1 w' vr (by omega)).mono ?_
          rintro e w2 ⟨B7, d7, rfl, o2, b2⟩
          go_wp2
          exact hQ _ _ _ rfl ⟨B7, d7, rfl, own_base o2 (Nat.le_trans hsz5 hsz)⟩ b2 trivial
        case s4 =>
          intro w' m' hE hR
          rintro _ ⟨B7, d7, rfl, o2⟩ Q hQ
          go_wp2
          exact hQ _ _ _ rfl ⟨_, B7, d7, rfl, rd_lit w' (bkV x B7 d7) _, own_alloc o2 _⟩ ((Below.refl _ _).alloc (Nat.le_refl _) _) trivial
      intro w7 hE _
      rintro v0 - v1 hv1 v2 - v3 - v4 ⟨ql, A7, c7, rfl, rl, o7s⟩
      obtain rfl : v1 = _ := hv1
      change wpList _ _ _ [_, _, _] _ _
      simp only [Act.put, List.setIfInBounds_toArray, List.set_cons_succ, List.set_cons_zero]
      have b57 := bthen b5 (below_undrew hE)
      clear hE hF
      have hs7 := b57.size
      have oA := own_new hown b57
      have kg7s := kg.new_ b57
      go_wp2_with (at_builtin; refine wpList_app rfl (.tmp 21) (.tmp 24) 24 rfl el_bk rfl oA rfl rl rfl (bkV_one x A7 c7) (by simp only [maxLen]; omega) (by omega) (by omega) ?_; intro A8 c8 w8 o8 ch8 d8 _; have kg8 := kg7s.chg ch8 (fun e => by have := unhide HRO _ e; omega); have h1 : w8.cell? ⟨g, 1, none⟩ = some (.slice A' k c') := kg8.cell 1; have h2 : w8.frozen? ⟨g, 1, none⟩ = false := kg8.frozen 1)
      have hx : bkO x w7 (bkV x A7 c7) (blk A7) := ⟨A7, c7, rfl, own_base0 o7s, rfl⟩
      have hfb : ∀ q ∈ blk A7, wr.heap.size ≤ q := fun q hq => (blk_own o7s hq).2.1
      obtain ⟨hall8, hnd8, hF8, hown8⟩ := grow_step2 bkO_good bk_good hall hnd (unhide HF) hown hwr b57 hx (blk_nodup _) hfb ch8 d8 (by simpa [bkV] using o8)
      have chG : Chg (fun q => q = g) w8 (w8.setCell ⟨g, 1, none⟩ (.slice A8 (k + 1) c8)) := (Chg.refl (fun q => q = g) w8).setCell (p := ⟨g, 1, none⟩) (.inl rfl) _
      have hall9 := hall8.keep bkO_good (w' := w8.setCell ⟨g, 1, none⟩ (.slice A8 (k + 1) c8)) (fun q hq hqw => chG.block q hqw (fun e => by have := (hF8 q hq).1; omega))
      have hrg8 := own_rng hown8
      have hown9 := own_chg hown8 chG (fun q hq e => by have := hrg8 q hq; omega)
      have kg9 : Blk (w8.setCell ⟨g, 1, none⟩ (.slice A8 (k + 1) c8)) g 27 #[.slice B1 t.base.length d1, .slice A8 (k + 1) c8, .slice B3 t.before.length d3] := kg8.set_ 1 _
      have hr1 := unhide HR1
      have hr3 := unhide HR3
      have far : ∀ q, q < W2.heap.size → ¬ A' = some ⟨q, 0, none⟩ := fun q hq e => by have := unhide HRO q e; omega
      have hga : ∀ q, W.heap.size ≤ q → q < W2.heap.size → q ≠ g → (w8.setCell ⟨g, 1, none⟩ (.slice A8 (k + 1) c8)).heap[q]? = wr.heap[q]? := fun q h1 h2 h3 => by
        have t1 := hs7
        rw [chG.block q (by have := ch8.size; omega) h3, ch8.block q (by omega) (far q h2), b57.block q (by omega)]
      have p19 := own_keep p1 (w' := w8.setCell ⟨g, 1, none⟩ (.slice A8 (k + 1) c8)) (fun q hq hqw => hga q (hr1 q hq).1 (hr1 q hq).2 (fun e => unhide HGA1 (by rw [← e]; exact hq)))
      have p39 := own_keep p3 (w' := w8.setCell ⟨g, 1, none⟩ (.slice A8 (k + 1) c8)) (fun q hq hqw => hga q (hr3 q hq).1 (hr3 q hq).2 (fun e => unhide HGA3 (by rw [← e]; exact hq)))
      have hsz9 : W2.heap.size ≤ (w8.setCell ⟨g, 1, none⟩ (.slice A8 (k + 1) c8)).heap.size := by have := ch8.size; have := chG.size; omega
      have hB9 : Below W.heap.size W (w8.setCell ⟨g, 1, none⟩ (.slice A8 (k + 1) c8)) := ((bthen hB b57).trans (ch8.below (fun q hq e => by have := unhide HRO q e; omega) (by omega))).trans (chG.below (fun q hq e => by have := unhide HGW; omega) (by have := ch8.size; omega))
      have HF8h := hide hF8
      go_roundw
      case rel => exact ⟨k + 1, A8, c8, _, _, by omega, by go_num, by rw [unhide HT]; exact hall9, hnd8, HF8h, hown9, kg9, p19, p39, hsz9, hB9⟩
      case measure => simp [intOf]; omega
    · obtain rfl : k = t.blocks.length := by omega
      rw [List.take_length] at hall
      have hgd := grow_done hall hnd (unhide HF) hown
      have kR := unhide HK1 wr hB
      have hwW := hB.size
      go_wp2_with (refine wpList_store_row rfl 27 (.tmp 2) (.tmp 28) rfl (w.heap.size + 1) #[.slice B1 t.base.length d1, .slice A' t.blocks.length c', .slice B3 t.before.length d3] rfl rfl 27 #[.slice none 0 0, .slice none 0 0, .slice none 0 0] kR info_tr rfl (sl3_one _ _ _ _ _ _ _ _ _) ?_)
      refine bodyPost_ret (v := .agg #[.slice B1 t.base.length d1, .slice A' t.blocks.length c', .slice B3 t.before.length d3]) (results_cell_row (p := 2) (ty := 27) rfl _ _ (w.heap.size + 1) 27 #[.slice B1 t.base.length d1, .slice A' t.blocks.length c', .slice B3 t.before.length d3] (0, 0) _ rfl (blk_setRow kR) Tryz.underlying27 rfl info_tr) rfl ?_
      refine ⟨B1, d1, A', c', B3, d3, _, rfl, ⟨own_base (own_setRow p1 (by omega) _) (by omega), hgd.1.keep bkO_good (fun q hq _ => setRow_other wr (w.heap.size + 1) q _ (by have := hgd.2 q hq; omega)), own_base (own_setRow p3 (by omega) _) (by omega), fun q hq => by have := hgd.2 q hq; omega, fun q hq hq2 => ?_, unhide HA13, fun q hq hq2 => ?_⟩, below_setRow (bthen' hb0 hB) (by omega) _⟩
      · have := unhide HR1 q hq
        have := hgd.2 q hq2
        omega
      · have := unhide HR3 q hq
        have := hgd.2 q hq2
        omega
end Go.Proofs.YtefdhlfljpppfaaGreat
namespace Go.Proofs.YtefdhlfljpppfaaGreat
open Go.RowKit
set_option linter.unusedVariables false
set_option linter.unusedSimpArgs false

def pruneOk (t : Tr) (n : Int) : Bool := treeB t && inB n 0 ((t.blocks.length : Int) - 1)
def pruneT (t : Tr) (n : Int) : Tr := if treeB t = true then (if inB n 0 ((t.blocks.length : Int) - 1) = true then ⟨t.base, (keptL t n).map fun k => bAt t k.toNat, (keptL t n).map fun k => idxL (pAt t k.toNat) 0 (keptL t n)⟩ else t) else ⟨[], [], []⟩
theorem pruneT_no {t : Tr} {n : Int} (h : treeB t = false) : pruneT t n = ⟨[], [], []⟩ := by rw [pruneT, if_neg (by simp [h])]
theorem pruneT_out {t : Tr} {n : Int} (h : treeB t = true) (hn : inB n 0 ((t.blocks.length : Int) - 1) = false) : pruneT t n = t := by rw [pruneT, if_pos h, if_neg (by simp [hn])]
theorem pruneT_yes {t : Tr} {n : Int} (h : treeB t = true) (hn : inB n 0 ((t.blocks.length : Int) - 1) = true) : pruneT t n = ⟨t.base, (keptL t n).map fun k => bAt t k.toNat, (keptL t n).map fun k => idxL (pAt t k.toNat) 0 (keptL t n)⟩ := by rw [pruneT, if_pos h, if_pos hn]
theorem pruneT_lens (t : Tr) (n : Int) : (pruneT t n).base.length ≤ t.base.length ∧ (pruneT t n).blocks.length ≤ t.blocks.length ∧ ((pruneT t n).before.length ≤ t.before.length ∨ (pruneT t n).before.length ≤ t.blocks.length) := by
  have := keptL_len t n
  unfold pruneT
  split
  · split
    · simp [this]
    · simp
  · simp
theorem keptGo_asc (t : Tr) (n : Int) : ∀ k, (keptGo t n k).Pairwise (· < ·)
  | 0 => List.Pairwise.nil
  | k + 1 => by
    rw [keptGo]
    split
    · rw [List.pairwise_append]
      exact ⟨keptGo_asc t n k, by simp, fun a ha b hb => by rw [List.mem_singleton] at hb; rw [hb]; exact (keptGo_mem t n k a ha).2⟩
    · exact keptGo_asc t n k
theorem keptL_asc (t : Tr) (n : Int) : (keptL t n).Pairwise (· < ·) := by
  unfold keptL
  split
  · exact keptGo_asc t n _
  · exact List.Pairwise.nil
theorem keptL_self {t : Tr} {n : Int} (h : treeB t = true) (hn : inB n 0 ((t.blocks.length : Int) - 1) = true) : keptL t n ≠ [] := by
  have hb := inB_true.1 hn
  rw [keptL_yes h hn]
  have key : ∀ k : Nat, n < k → n ∈ keptGo t n k := by
    intro k
    induction k with
    | zero => intro hk; omega
    | succ k ih =>
      intro hk
      rw [keptGo]
      by_cases he : n = (k : Int)
      · have hm : n ∈ pathT t n := by rw [pathT_step h hb.1 (by omega)]; simp
        rw [if_pos (by rw [keepB, ← he]; simp [hm]), ← he]
        simp
      · have := ih (by omega)
        split
        · exact List.mem_append_left _ this
        · exact this
  have := key t.blocks.length (by omega)
  intro he
  rw [he] at this
  cases this
/-- the last place below j that holds z -/
def lastI (z : Int) (xs : List Int) : Nat → Int
  | 0 => -1
  | j + 1 => if xs.getD j 0 = z then (j : Int) else lastI z xs j
theorem asc_lt {xs : List Int} (h : xs.Pairwise (· < ·)) {i j : Nat} (hi : i < j) (hj : j < xs.length) : xs[i]'(by omega) < xs[j] := List.pairwise_iff_getElem.1 h i j (by omega) hj hi
theorem lastI_idx {xs : List Int} (h : xs.Pairwise (· < ·)) {z : Int} {k : Nat} (hk : k < xs.length) (hz : z < xs[k]) : lastI z xs k = idxL z 0 xs := by
  by_cases hm : z ∈ xs
  · obtain ⟨i, hi, rfl⟩ := List.getElem_of_mem hm
    have hik : i < k := by
      rcases Nat.lt_or_ge i k with h1 | h1
      · exact h1
      · rcases Nat.lt_or_ge k i with h2 | h2
        · have := asc_lt h h2 hi; omega
        · have : i = k := by omega
          subst this; omega
    rw [idxL_some 0 i hi rfl (fun j hj hji he => by have := asc_lt h hji hi; omega)]
    have key : ∀ j, j ≤ xs.length → i < j → lastI xs[i] xs j = (i : Int) := by
      intro j
      induction j with
      | zero => intro _ hj; omega
      | succ j ih =>
        intro hjl hj
        have e1 : xs.getD j 0 = xs[j]'(by omega) := by rw [List.getD_eq_getElem?_getD, List.getElem?_eq_getElem (by omega), Option.getD_some]
        rw [lastI, e1]
        by_cases he : j = i
        · subst he; rw [if_pos rfl]
        · have := asc_lt h (show i < j by omega) (by omega)
          rw [if_neg (by omega), ih (by omega) (by omega)]
    rw [key k (by omega) hik]
    simp
  · rw [idxL_none 0 hm]
    have key : ∀ j, j ≤ xs.length → lastI z xs j = -1 := by
      intro j
      induction j with
      | zero => intro _; rfl
      | succ j ih =>
        intro hj
        have e1 : xs.getD j 0 = xs[j]'(by omega) := by rw [List.getD_eq_getElem?_getD, List.getElem?_eq_getElem (by omega), Option.getD_some]
        rw [lastI, e1, if_neg (fun e => hm (by rw [← e]; exact List.getElem_mem _)), ih (by omega)]
    exact key k (by omega)
theorem idxL_bd (z : Int) (xs : List Int) : ∀ n, -1 ≤ idxL z n xs ∧ idxL z n xs ≤ n + xs.length := by
  induction xs with
  | nil => intro n; simp [idxL]
  | cons x xs ih =>
    intro n
    rw [idxL]
    have := ih (n + 1)
    split
    · simp; omega
    · simp at *; omega
/-- a row of one block by value -/
def rowB (x : Bk) (A : Option Addr) (c : Nat) (v : Value) (w : World) : Prop := ∃ q, v = .slice (some ⟨q, 0, none⟩) 1 1 ∧ Rd w (some ⟨q, 0, none⟩) (bkV x A c)
theorem sb_rowB (x : Bk) (A : Option Addr) (c : Nat) : StB (rowB x A c) := fun _ _ _ hb ⟨q, h1, h2⟩ => ⟨q, h1, h2.new hb⟩
def rowI (z : Int) (v : Value) (w : World) : Prop := ∃ q, v = .slice (some ⟨q, 0, none⟩) 1 1 ∧ Rd w (some ⟨q, 0, none⟩) [Value.int .i64 z]
theorem sb_rowI (z : Int) : StB (rowI z) := fun _ _ _ hb ⟨q, h1, h2⟩ => ⟨q, h1, h2.new hb⟩
theorem trO_nil (w : World) (B : Nat) : TrO w B ⟨[], [], []⟩ none 0 none 0 none 0 [] := ⟨own_nil _ _ _ _, ownD_nil _ _ _ _, own_nil _ _ _ _, by simp, by simp, by simp, by simp⟩
theorem trO_setRow {w : World} {B : Nat} {t : Tr} {A1 A2 A3 : Option Addr} {c1 c2 c3 : Nat} {fp : List Nat} (h : TrO w B t A1 c1 A2 c2 A3 c3 fp) {g : Nat} (hg : g < B) (ds : Array Value) : TrO (w.setRow g ds) B t A1 c1 A2 c2 A3 c3 fp :=
  ⟨own_setRow h.o1 hg ds, h.o2.keep bkO_good (fun q hq _ => setRow_other w g q ds (by have := h.ge q hq; omega)), own_setRow h.o3 hg ds, h.ge, h.a12, h.a13, h.a23⟩
theorem trO_base {w : World} {B B' : Nat} {t : Tr} {A1 A2 A3 : Option Addr} {c1 c2 c3 : Nat} {fp : List Nat} (h : TrO w B t A1 c1 A2 c2 A3 c3 fp) (hB : B' ≤ B) : TrO w B' t A1 c1 A2 c2 A3 c3 fp :=
  ⟨own_base h.o1 hB, h.o2, own_base h.o3 hB, fun k hk => Nat.le_trans hB (h.ge k hk), h.a12, h.a13, h.a23⟩
theorem below_le {B B' : Nat} {a b : World} (h : Below B a b) (hle : B' ≤ B) : Below B' a b := ⟨h.os, h.tape, h.output, h.size, fun q hq => h.block q (Nat.lt_of_lt_of_le hq hle)⟩
theorem ne_bi : (50 : TypeId) ≠ 3 := by decide
set_option maxRecDepth 100000 in
set_option maxHeartbeats 8000000 in
theorem prune_impl (t : Tr) (A1 : Option Addr) (c1 : Nat) (A2 : Option Addr) (c2 : Nat) (A3 : Option Addr) (c3 : Nat) (n : Int) (w : World) (h : TrR w t A1 A2 A3) (hb1 : t.base.length ≤ 1099511627776) (hb2 : t.blocks.length ≤ 1099511627776) (hbs : ∀ x ∈ t.blocks, x.list.length ≤ 1099511627776) (hb3 : t.before.length ≤ 1099511627776) :
    Calls Tryz.prog 23 #[.agg (trA t A1 c1 A2 c2 A3 c3), .int .i64 n] w fun e w' => ∃ B1 d1 B2 d2 B3 d3 fp, e = .returned (.tuple #[.agg (trA (pruneT t n) B1 d1 B2 d2 B3 d3), .bool (pruneOk t n)]) ∧ TrO w' w.heap.size (pruneT t n) B1 d1 B2 d2 B3 d3 fp ∧ Below w.heap.size w w' := by
  have HBS := hide hbs
  clear hbs
  have HR := hide (fun w' (hb : Below w.heap.size w w') => h.new hb)
  have hT := h
  have HAK := hide (fun w' (hb : Below w.heap.size w w') => kept_impl t A1 c1 A2 c2 A3 c3 n w' (unhide HR w' hb) hb1 hb2 (unhide HBS) hb3)
  have HCL := hide (fun w' (hb : Below w.heap.size w w') => clone_impl t A1 c1 A2 c2 A3 c3 w' (unhide HR w' hb) hb1 hb2 (unhide HBS) hb3)
  have KH := fun w' => has_impl t A1 c1 A2 c2 A3 c3 n w' hb2
  simp only [trA] at HAK HCL KH ⊢
  have k0 : Blk ((w.alloc (.cells #[.slice A1 t.base.length c1, .slice A2 t.blocks.length c2, .slice A3 t.before.length c3] 27)).alloc (.cells #[.slice none 0 0, .slice none 0 0, .slice none 0 0] 27)) w.heap.size 27 #[.slice A1 t.base.length c1, .slice A2 t.blocks.length c2, .slice A3 t.before.length c3] := (Blk.new _ _ _).alloc _
  have kr : Blk ((w.alloc (.cells #[.slice A1 t.base.length c1, .slice A2 t.blocks.length c2, .slice A3 t.before.length c3] 27)).alloc (.cells #[.slice none 0 0, .slice none 0 0, .slice none 0 0] 27)) (w.heap.size + 1) 27 #[.slice none 0 0, .slice none 0 0, .slice none 0 0] := by
    have := Blk.new (w.alloc (.cells #[.slice A1 t.base.length c1, .slice A2 t.blocks.length c2, .slice A3 t.before.length c3] 27)) 27 #[.slice none 0 0, .slice none 0 0, .slice none 0 0]
    simpa using this
  have hb0 : Below w.heap.size w ((w.alloc (.cells #[.slice A1 t.base.length c1, .slice A2 t.blocks.length c2, .slice A3 t.before.length c3] 27)).alloc (.cells #[.slice none 0 0, .slice none 0 0, .slice none 0 0] 27)) := ((Below.refl _ _).alloc (Nat.le_refl _) _).alloc (by simp) _
  have hz0 := kr.lt
  have KV := treeValid_impl t A1 c1 A2 c2 A3 c3 ((w.alloc (.cells #[.slice A1 t.base.length c1, .slice A2 t.blocks.length c2, .slice A3 t.before.length c3] 27)).alloc (.cells #[.slice none 0 0, .slice none 0 0, .slice none 0 0] 27)) (unhide HR _ hb0) hb1 hb2 (unhide HBS) hb3
  simp only [trA] at KV
  have x0 : ((w.alloc (.cells #[.slice A1 t.base.length c1, .slice A2 t.blocks.length c2, .slice A3 t.before.length c3] 27)).alloc (.cells #[.slice none 0 0, .slice none 0 0, .slice none 0 0] 27)).cell? ⟨w.heap.size, 0, none⟩ = some (.slice A1 t.base.length c1) := k0.cell 0
  have x1 : ((w.alloc (.cells #[.slice A1 t.base.length c1, .slice A2 t.blocks.length c2, .slice A3 t.before.length c3] 27)).alloc (.cells #[.slice none 0 0, .slice none 0 0, .slice none 0 0] 27)).cell? ⟨w.heap.size, 1, none⟩ = some (.slice A2 t.blocks.length c2) := k0.cell 1
  have x2 : ((w.alloc (.cells #[.slice A1 t.base.length c1, .slice A2 t.blocks.length c2, .slice A3 t.before.length c3] 27)).alloc (.cells #[.slice none 0 0, .slice none 0 0, .slice none 0 0] 27)).cell? ⟨w.heap.size, 2, none⟩ = some (.slice A3 t.before.length c3) := k0.cell 2
  clear h
  go_enter Tryz.func23, Tryz.ntmps23
  go_wp2_with fail
  refine KV.mono ?_
  rintro e w3 ⟨rfl, b3⟩
  replace k0 := k0.new_ b3
  replace kr := kr.new_ b3
  have hw3 : w.heap.size + 1 < w3.heap.size := Nat.lt_of_lt_of_le hz0 b3.size
  replace hb0 := bthen hb0 b3
  clear KV x0 x1 x2 b3 hz0
  have x0 : w3.cell? ⟨w.heap.size, 0, none⟩ = some (.slice A1 t.base.length c1) := k0.cell 0
  have x1 : w3.cell? ⟨w.heap.size, 1, none⟩ = some (.slice A2 t.blocks.length c2) := k0.cell 1
  have x2 : w3.cell? ⟨w.heap.size, 2, none⟩ = some (.slice A3 t.before.length c3) := k0.cell 2
  cases hv : treeB t
  · have HF := hide (show pruneOk t n = false by simp [pruneOk, hv])
    have HA := hide (pruneT_no (n := n) hv)
    go_wp2_with (refine wpList_store_row rfl 27 (.tmp 4) (.tmp 13) rfl (w.heap.size + 1) #[.slice none 0 0, .slice none 0 0, .slice none 0 0] rfl rfl 27 #[.slice none 0 0, .slice none 0 0, .slice none 0 0] kr info_tr rfl (sl3_one _ _ _ _ _ _ _ _ _) ?_)
    refine bodyPost_ret (v := .tuple #[.agg #[.slice none 0 0, .slice none 0 0, .slice none 0 0], .bool false]) (results_cell_tmp (p := 4) (q := 5) (ty := 27) rfl _ _ (w.heap.size + 1) 27 #[.slice none 0 0, .slice none 0 0, .slice none 0 0] (0, 0) _ rfl (blk_setRow kr) Tryz.underlying27 rfl info_tr) rfl ?_
    rw [unhide HA, unhide HF]
    exact ⟨none, 0, none, 0, none, 0, [], rfl, trO_nil _ _, below_setRow hb0 (by omega) _⟩
  have HV := hide hv
  have hl14 := (treeB_yes hv).2.2.1
  have HLB := hide (treeB_yes hv).2.2.2.1
  clear hv
  cases hin : inB n 0 ((t.blocks.length : Int) - 1)
  · have HF := hide (show pruneOk t n = false by simp [pruneOk, hin])
    have HA := hide (pruneT_out (unhide HV) hin)
    go_wp2_with fail
    refine (KH w3).mono ?_
    rintro e w4 ⟨rfl, b4⟩
    rw [hin]
    replace k0 := k0.new_ b4
    replace kr := kr.new_ b4
    replace hw3 := Nat.lt_of_lt_of_le hw3 b4.size
    replace hb0 := bthen hb0 b4
    have y0 : w4.cell? ⟨w.heap.size, 0, none⟩ = some (.slice A1 t.base.length c1) := k0.cell 0
    have y1 : w4.cell? ⟨w.heap.size, 1, none⟩ = some (.slice A2 t.blocks.length c2) := k0.cell 1
    have y2 : w4.cell? ⟨w.heap.size, 2, none⟩ = some (.slice A3 t.before.length c3) := k0.cell 2
    go_wp2_with fail
    refine (unhide HCL w4 hb0).mono ?_
    rintro e w5 ⟨B1, d1, B2, d2, B3, d3, fp, rfl, tO, b5⟩
    replace kr := kr.new_ b5
    have hs5 := b5.size
    go_wp2_with (refine wpList_store_row rfl 27 (.tmp 4) (.tmp 19) rfl (w.heap.size + 1) #[.slice B1 t.base.length d1, .slice B2 t.blocks.length d2, .slice B3 t.before.length d3] rfl rfl 27 #[.slice none 0 0, .slice none 0 0, .slice none 0 0] kr info_tr rfl (sl3_one _ _ _ _ _ _ _ _ _) ?_)
    refine bodyPost_ret (v := .tuple #[.agg #[.slice B1 t.base.length d1, .slice B2 t.blocks.length d2, .slice B3 t.before.length d3], .bool false]) (results_cell_tmp (p := 4) (q := 5) (ty := 27) rfl _ _ (w.heap.size + 1) 27 #[.slice B1 t.base.length d1, .slice B2 t.blocks.length d2, .slice B3 t.before.length d3] (0, 0) _ rfl (blk_setRow kr) Tryz.underlying27 rfl info_tr) rfl ?_
    rw [unhide HA, unhide HF]
    exact ⟨B1, d1, B2, d2, B3, d3, fp, rfl, trO_base (trO_setRow tO (by omega) _) (by omega), below_setRow (bthen hb0 b5) (by omega) _⟩
  have HF := hide (show pruneOk t n = true by rw [pruneOk, unhide HV, hin]; rfl)
  have HA := hide (pruneT_yes (unhide HV) hin)
  go_wp2_with fail
  refine (KH w3).mono ?_
  rintro e w4 ⟨rfl, b4⟩
  rw [hin]
  clear hin
  replace k0 := k0.new_ b4
  replace kr := kr.new_ b4
  replace hw3 := Nat.lt_of_lt_of_le hw3 b4.size
  replace hb0 := bthen hb0 b4
  have y0 : w4.cell? ⟨w.heap.size, 0, none⟩ = some (.slice A1 t.base.length c1) := k0.cell 0
  have y1 : w4.cell? ⟨w.heap.size, 1, none⟩ = some (.slice A2 t.blocks.length c2) := k0.cell 1
  have y2 : w4.cell? ⟨w.heap.size, 2, none⟩ = some (.slice A3 t.before.length c3) := k0.cell 2
  go_wp2_with fail
  refine (unhide HAK w4 hb0).mono ?_
  rintro e w5 ⟨AK, ck, rfl, oK, b5⟩
  clear y0 y1 y2 x0 x1 x2
  replace k0 := k0.new_ b5
  replace kr := kr.new_ b5
  have hs4 := b5.size
  replace hb0 := bthen hb0 b5
  have hkl := keptL_len t n
  have HKM := hide (fun x (hx : x ∈ keptL t n) => (keptL_mem (t := t) (n := n) hx).2)
  have y0 : w5.cell? ⟨w.heap.size, 0, none⟩ = some (.slice A1 t.base.length c1) := k0.cell 0
  have HAM := hide (show pruneT t n = ⟨t.base, (keptL t n).map fun k => bAt t k.toNat, (keptL t n).map fun k => idxL (pAt t k.toNat) 0 (keptL t n)⟩ from unhide HA)
  generalize hks : keptL t n = ks at *
  have HKS := hide hks
  clear hks HA
  go_wp2_with (refine wpList_store_row rfl 27 (.tmp 7) (.tmp 25) rfl w5.heap.size #[.slice A1 t.base.length c1, .slice none 0 0, .slice none 0 0] rfl rfl 27 #[.slice none 0 0, .slice none 0 0, .slice none 0 0] (box_new w5 27 #[.slice none 0 0, .slice none 0 0, .slice none 0 0] #[.slice A1 t.base.length c1, .slice none 0 0, .slice none 0 0]).1 info_tr rfl (sl3_one _ _ _ _ _ _ _ _ _) ?_; refine at_world (C := fun W => wpList _ _ _ _ _ W) (F := fun W => Blk W w5.heap.size 27 #[.slice A1 t.base.length c1, .slice none 0 0, .slice none 0 0] ∧ Below w5.heap.size w5 W) ⟨(box_new w5 27 #[.slice none 0 0, .slice none 0 0, .slice none 0 0] #[.slice A1 t.base.length c1, .slice none 0 0, .slice none 0 0]).2.1, (box_new w5 27 #[.slice none 0 0, .slice none 0 0, .slice none 0 0] #[.slice A1 t.base.length c1, .slice none 0 0, .slice none 0 0]).2.2⟩ ?_; rintro w6 ⟨kg, b6⟩)
  obtain ⟨g, hg⟩ : ∃ g, g = w5.heap.size := ⟨_, rfl⟩
  rw [← hg] at kg ⊢
  have hs6 := b6.size
  have hgl := kg.lt
  have hgw : w.heap.size + 1 < g := by omega
  have hg5 : w5.heap.size ≤ g := by omega
  clear hg
  replace k0 := k0.new_ b6
  replace kr := kr.new_ b6
  have HOK := hide oK
  have hb56 := b6
  replace hb0 := bthen hb0 b6
  have HKO := hide (fun (w' : World) (hb : Below w5.heap.size w5 w') => (own_rd (own_new (unhide HOK) hb) : Rd w' AK (ks.map (.int .i64))))
  clear oK b6 y0 KH
  go_loopw [9, 28] (fun _ i wr => ∃ (k : Nat) (A' : Option Addr) (c' : Nat) (D : Option Addr) (e' : Nat) (vs : List (List Value)), k ≤ ks.length ∧ i = .int .i64 k ∧ AllR bkR (fun _ => True) w ((ks.take k).map fun k => bAt t k.toNat) vs ∧ wr.ownsRow w6.heap.size 50 6 (.slice A' k c') k vs.flatten ∧ wr.ownsRow w6.heap.size 3 1 (.slice D k e') k (((ks.take k).map fun k => idxL (pAt t k.toNat) 0 ks).map (.int .i64)) ∧ Blk wr g 27 #[.slice A1 t.base.length c1, .slice A' k c', .slice D k e'] ∧ Chg (fun q => q = g) w6 wr) (fun _ i _ => ks.length - (intOf i).toNat)
  case atStart => exact ⟨0, none, 0, none, 0, [], Nat.zero_le _, rfl, trivial, own_nil _ _ _ _, own_nil _ _ _ _, kg, Chg.refl _ _⟩
  case round =>
    clear kg
    obtain ⟨k, A', c', D, e', vs, hk, rfl, hall, oB, oD, kg, hch⟩ := hrel
    have hgsz := hch.size
    have hB5 : Below w5.heap.size w5 wr := hb56.trans (hch.below (fun q hq e => by omega) (by omega))
    have hBw : Below w.heap.size w wr := hb0.trans (hch.below (fun q hq e => by omega) (by omega))
    have HRB := hide (own_rng oB)
    have HRD := hide (own_rng oD)
    have kb := k0.chg hch (by omega)
    have krr := kr.chg hch (by omega)
    by_cases hlt : k < ks.length
    · have i1 : (k : Int) < (ks.length : Int) := by omega
      obtain ⟨bk, offk, hAK, hkb, zk⟩ := (unhide HKO wr hB5).int hlt
      have hkm := unhide HKM ks[k] (List.getElem_mem hlt)
      have HT := hide (show ks.take (k + 1) = ks.take k ++ [ks[k]] from List.take_succ_eq_append_getElem hlt)
      generalize ks[k] = p at *
      obtain ⟨v, rfl⟩ := Int.eq_ofNat_of_zero_le hkm.1
      have hvn : v < t.blocks.length := by omega
      have hvp : v < t.before.length := by have := unhide HLB; omega
      have i2 : (v : Int) < (t.blocks.length : Int) := by omega
      have i3 : (v : Int) < (t.before.length : Int) := by omega
      obtain ⟨bq, offq, L1, e1, hA2, -, hbb, q0, q1, q2, q3, q4, q5, hlc, r1⟩ := hT.b2.bk hvn
      have HXB := hide (show bAt t v = t.blocks[v] from bAt_get t hvn)
      have hbx : bkR (fun _ => True) t.blocks[v] w (bkV t.blocks[v] L1 e1) := ⟨L1, e1, rfl, hlc, r1⟩
      generalize t.blocks[v] = x at *
      obtain ⟨bp, offp, hA3, hpb, zp⟩ := pAt_cell hT.b3 hvp
      have HIX := hide (idxL_bd (pAt t v) ks 0)
      have HAKE := hide hAK
      have HA2 := hide hA2
      have HA3 := hide hA3
      have HX := hide (fun (w' : World) (hb : Below w5.heap.size wr w') => show (w'.cell? ⟨w.heap.size, 1, none⟩ = some (.slice A2 t.blocks.length c2) ∧ w'.cell? ⟨w.heap.size, 2, none⟩ = some (.slice A3 t.before.length c3)) ∧ (w'.cell? ⟨bq, offq + v * 6, none⟩ = some (.int .i64 x.before) ∧ w'.cell? ⟨bq, offq + v * 6 + 1, none⟩ = some (.int .i64 x.height) ∧ w'.cell? ⟨bq, offq + v * 6 + 2, none⟩ = some (.int .i64 x.view) ∧ w'.cell? ⟨bq, offq + v * 6 + 3, none⟩ = some (.slice L1 x.list.length e1) ∧ w'.cell? ⟨bq, offq + v * 6 + 4, none⟩ = some (.int .i64 x.root) ∧ w'.cell? ⟨bq, offq + v * 6 + 5, none⟩ = some (.int .i64 x.eff)) ∧ w'.cell? ⟨bp, offp + v, none⟩ = some (.int .i64 (pAt t v)) ∧ Rd w' (some ⟨bk, offk, none⟩) (ks.map (.int .i64)) from by
        have hbw : Below w.heap.size w w' := hBw.trans ⟨hb.os, hb.tape, hb.output, hb.size, fun q hq => hb.block q (by omega)⟩
        have kb' : Blk w' w.heap.size 27 #[.slice A1 t.base.length c1, .slice A2 t.blocks.length c2, .slice A3 t.before.length c3] := (hb.block w.heap.size (by omega)).trans kb
        exact ⟨⟨kb'.cell 1, kb'.cell 2⟩, ⟨(hbw.cell (p := ⟨bq, offq + v * 6, none⟩) hbb).trans q0, (hbw.cell (p := ⟨bq, offq + v * 6 + 1, none⟩) hbb).trans q1, (hbw.cell (p := ⟨bq, offq + v * 6 + 2, none⟩) hbb).trans q2, (hbw.cell (p := ⟨bq, offq + v * 6 + 3, none⟩) hbb).trans q3, (hbw.cell (p := ⟨bq, offq + v * 6 + 4, none⟩) hbb).trans q4, (hbw.cell (p := ⟨bq, offq + v * 6 + 5, none⟩) hbb).trans q5⟩, (hbw.cell (p := ⟨bp, offp + v, none⟩) hpb).trans zp, by rw [← unhide HAKE]; exact unhide HKO w' (hB5.trans hb)⟩)
      clear hAK hA2 hA3 q0 q1 q2 q3 q4 q5 r1 hlc zp hkm
      have kgl := kg.lt
      rw [unhide HAKE]
      go_wp2
      have hF : StBL [bV (.pointer (some ⟨g, 1, none⟩)), bV (.slice A' k c'), bV (.pointer (some ⟨w.heap.size, 1, none⟩)), bV (.slice (some ⟨bq, offq, none⟩) t.blocks.length c2), bV (.int .i64 (v : Int)), bV (.pointer (some ⟨bq, offq + v * 6, none⟩)), bV (.agg #[.int .i64 x.before, .int .i64 x.height, .int .i64 x.view, .slice L1 x.list.length e1, .int .i64 x.root, .int .i64 x.eff]), rowB x L1 e1] :=
        ⟨sb_V _, sb_V _, sb_V _, sb_V _, sb_V _, sb_V _, sb_V _, sb_rowB _ _ _, trivial⟩
      go_upto_region 10 with fail
      refine wp_region_loc (by kernel_rfl) [(0, some 32), (1, some 33), (2, some 34), (3, some 35), (4, some 36), (5, some 37), (6, some 38), (7, some 39)] [[], [(0, some 32)], [], [(2, some 34)], [], [(3, some 35), (4, some 36)], [(5, some 37)], [(6, some 38)]] (by kernel_rfl)
        (locB _) (fun a b => Below a.heap.size a b) noR [0, 0, 0, 0, 0, 0, 0, 0] 0 (by kernel_rfl) (fun _ => Below.refl _ _) (fun _ _ _ => bthen) (locB_st hF _) trivial ?_ ?_
      · refine steps_cons ?s0 ( steps_cons ?s1 ( steps_cons ?s2 ( steps_cons ?s3 ( steps_cons ?s4 ( steps_cons ?s5 ( steps_cons ?s6 ( steps_cons ?s7 steps_nil)))))))
        case s0 =>
          intro w' m' hE hR
          intro Q hQ
          go_wp2
          exact hQ _ _ _ rfl rfl (Below.refl _ _) trivial
        case s1 =>
          intro w' m' hE hR
          rintro _ rfl Q hQ
          have s1 : w'.cell? ⟨g, 1, none⟩ = some (.slice A' k c') := (kg.new_ (below_undrew hE)).cell 1
          go_wp2
          exact hQ _ _ _ rfl rfl (Below.refl _ _) trivial
        case s2 =>
          intro w' m' hE hR
          intro Q hQ
          go_wp2
          exact hQ _ _ _ rfl rfl (Below.refl _ _) trivial
        case s3 =>
          intro w' m' hE hR
          rintro _ rfl Q hQ
          obtain ⟨⟨s1, s2⟩, ⟨u0, u1, u2, u3, u4, u5⟩, u6, u7⟩ := unhide HX w' (below_le (below_undrew hE) (by omega))
          rw [unhide HA2] at s1
          go_wp2
          exact hQ _ _ _ rfl rfl (Below.refl _ _) trivial
        case s4 =>
          intro w' m' hE hR
          intro Q hQ
          go_wp2
          exact hQ _ _ _ rfl rfl (Below.refl _ _) trivial
        case s5 =>
          intro w' m' hE hR
          rintro _ rfl _ rfl Q hQ
          go_wp2
          exact hQ _ _ _ rfl rfl (Below.refl _ _) trivial
        case s6 =>
          intro w' m' hE hR
          rintro _ rfl Q hQ
          obtain ⟨⟨s1, s2⟩, ⟨u0, u1, u2, u3, u4, u5⟩, u6, u7⟩ := unhide HX w' (below_le (below_undrew hE) (by omega))
          go_wp2
          exact hQ _ _ _ rfl rfl (Below.refl _ _) trivial
        case s7 =>
          intro w' m' hE hR
          rintro _ rfl Q hQ
          go_wp2
          exact hQ _ _ _ rfl ⟨_, rfl, rd_lit w' (bkV x L1 e1) _⟩ ((Below.refl _ _).alloc (Nat.le_refl _) _) trivial
      intro w7 hE _
      rintro v0 - v1 hv1 v2 - v3 - v4 - v5 - v6 - v7 ⟨ql, rfl, rl⟩
      obtain rfl : v1 = _ := hv1
      change wpList _ _ _ [_, _, _] _ _
      simp only [Act.put, List.setIfInBounds_toArray, List.set_cons_succ, List.set_cons_zero]
      have b7 := below_undrew hE
      clear hE hF
      have hs7 := b7.size
      have oB7 := own_new oB b7
      have kg7 := kg.new_ b7
      go_wp2_with (at_builtin; refine wpList_app rfl (.tmp 33) (.tmp 39) 24 rfl el_bk rfl oB7 rfl rl rfl (bkV_one x L1 e1) (by simp only [maxLen]; omega) (by omega) (by omega) ?_; intro A8 c8 w8 o8 ch8 d8 _; have kg8 := kg7.chg ch8 (fun e => by have := unhide HRB _ e; omega); have h1 : w8.cell? ⟨g, 1, none⟩ = some (.slice A' k c') := kg8.cell 1; have h2 : w8.frozen? ⟨g, 1, none⟩ = false := kg8.frozen 1)
      have chG : Chg (fun q => q = g) w8 (w8.setCell ⟨g, 1, none⟩ (.slice A8 (k + 1) c8)) := (Chg.refl (fun q => q = g) w8).setCell (p := ⟨g, 1, none⟩) (.inl rfl) _
      have hs8 := ch8.size
      have hr8 := own_rng o8
      have oB8 := own_chg o8 chG (fun q hq e => by have := hr8 q hq; omega)
      have oD8 := own_chg (own_chg (own_new oD b7) ch8 (fun q hq e => own_ne oB oD ne_bi q e hq)) chG (fun q hq e => by have := unhide HRD q hq; omega)
      have kg8s : Blk (w8.setCell ⟨g, 1, none⟩ (.slice A8 (k + 1) c8)) g 27 #[.slice A1 t.base.length c1, .slice A8 (k + 1) c8, .slice D k e'] := kg8.set_ 1 _
      have hM8 : Below w5.heap.size wr (w8.setCell ⟨g, 1, none⟩ (.slice A8 (k + 1) c8)) := ((below_le b7 (by omega)).trans (ch8.below (fun q hq e => by have := unhide HRB q e; omega) (by omega))).trans (chG.below (fun q hq e => by omega) (by omega))
      have hc8 : ∀ q, q < w6.heap.size → q ≠ g → (w8.setCell ⟨g, 1, none⟩ (.slice A8 (k + 1) c8)).heap[q]? = wr.heap[q]? := fun q h1 h2 => by rw [chG.block q (by omega) h2, ch8.block q (by omega) (fun e => by have := unhide HRB q e; omega), b7.block q (by omega)]
      have hs8s : wr.heap.size ≤ (w8.setCell ⟨g, 1, none⟩ (.slice A8 (k + 1) c8)).heap.size := by have := chG.size; omega
      obtain ⟨w9, hw9⟩ : ∃ w9, w9 = (w8.setCell ⟨g, 1, none⟩ (.slice A8 (k + 1) c8)) := ⟨_, rfl⟩
      rw [← hw9] at oB8 oD8 kg8s hM8 hc8 hs8s ⊢
      clear hw9 chG ch8 kg8 kg7 oB7 o8 h1 h2 hr8 hs8 hs7 b7 rl
      have hF : StBL [bV (.pointer (some ⟨g, 2, none⟩)), bV (.slice D k e'), bV (.slice (some ⟨bk, offk, none⟩) ks.length ck), bV (.pointer (some ⟨w.heap.size, 2, none⟩)), bV (.slice (some ⟨bp, offp, none⟩) t.before.length c3), bV (.int .i64 (v : Int)), bV (.pointer (some ⟨bp, offp + v, none⟩)), bV (.int .i64 (pAt t v)), bV (.int .i64 (idxL (pAt t v) 0 ks)), rowI (idxL (pAt t v) 0 ks)] :=
        ⟨sb_V _, sb_V _, sb_V _, sb_V _, sb_V _, sb_V _, sb_V _, sb_V _, sb_V _, sb_rowI _, trivial⟩
      go_upto_region 11 with fail
      refine wp_region_loc (by kernel_rfl) [(0, some 42), (1, some 43), (2, some 44), (3, some 45), (4, some 46), (5, some 47), (6, some 48), (7, some 49), (8, some 50), (9, some 51)] [[], [(0, some 42)], [], [], [(3, some 45)], [], [(4, some 46), (5, some 47)], [(6, some 48)], [(2, some 44), (7, some 49)], [(8, some 50)]] (by kernel_rfl)
        (locB _) (fun a b => Below a.heap.size a b) noR [0, 0, 0, 0, 0, 0, 0, 0, 0, 0] 0 (by kernel_rfl) (fun _ => Below.refl _ _) (fun _ _ _ => bthen) (locB_st hF _) trivial ?_ ?_
      · refine steps_cons ?s0 ( steps_cons ?s1 ( steps_cons ?s2 ( steps_cons ?s3 ( steps_cons ?s4 ( steps_cons ?s5 ( steps_cons ?s6 ( steps_cons ?s7 ( steps_cons ?s8 ( steps_cons ?s9 steps_nil)))))))))
        case s0 =>
          intro w' m' hE hR
          intro Q hQ
          go_wp2
          exact hQ _ _ _ rfl rfl (Below.refl _ _) trivial
        case s1 =>
          intro w' m' hE hR
          rintro _ rfl Q hQ
          have s1 : w'.cell? ⟨g, 2, none⟩ = some (.slice D k e') := (kg8s.new_ (below_undrew hE)).cell 2
          go_wp2
          exact hQ _ _ _ rfl rfl (Below.refl _ _) trivial
        case s2 =>
          intro w' m' hE hR
          intro Q hQ
          go_wp2
          exact hQ _ _ _ rfl rfl (Below.refl _ _) trivial
        case s3 =>
          intro w' m' hE hR
          intro Q hQ
          go_wp2
          exact hQ _ _ _ rfl rfl (Below.refl _ _) trivial
        case s4 =>
          intro w' m' hE hR
          rintro _ rfl Q hQ
          obtain ⟨⟨s1, s2⟩, ⟨u0, u1, u2, u3, u4, u5⟩, u6, u7⟩ := unhide HX w' (hM8.trans (below_le (below_undrew hE) (by omega)))
          rw [unhide HA3] at s2
          go_wp2
          exact hQ _ _ _ rfl rfl (Below.refl _ _) trivial
        case s5 =>
          intro w' m' hE hR
          intro Q hQ
          go_wp2
          exact hQ _ _ _ rfl rfl (Below.refl _ _) trivial
        case s6 =>
          intro w' m' hE hR
          rintro _ rfl _ rfl Q hQ
          go_wp2
          exact hQ _ _ _ rfl rfl (Below.refl _ _) trivial
        case s7 =>
          intro w' m' hE hR
          rintro _ rfl Q hQ
          obtain ⟨⟨s1, s2⟩, ⟨u0, u1, u2, u3, u4, u5⟩, u6, u7⟩ := unhide HX w' (hM8.trans (below_le (below_undrew hE) (by omega)))
          go_wp2
          exact hQ _ _ _ rfl rfl (Below.refl _ _) trivial
        case s8 =>
          intro w' m' hE hR
          rintro _ rfl _ rfl Q hQ
          obtain ⟨⟨s1, s2⟩, ⟨u0, u1, u2, u3, u4, u5⟩, u6, u7⟩ := unhide HX w' (hM8.trans (below_le (below_undrew hE) (by omega)))
          go_wp2_with fail
          refine (indexI_any _ ck ks (pAt t v) w' u7 (by omega)).mono ?_
          rintro e w1 ⟨rfl, rfl⟩
          go_wp2
          exact hQ _ _ _ rfl rfl (Below.refl _ _) trivial
        case s9 =>
          intro w' m' hE hR
          rintro _ rfl Q hQ
          go_wp2
          exact hQ _ _ _ rfl ⟨_, rfl, rd_lit w' [.int .i64 (idxL (pAt t v) 0 ks)] _⟩ ((Below.refl _ _).alloc (Nat.le_refl _) _) trivial
      intro w10 hE _
      rintro v0 - v1 hv1 v2 - v3 - v4 - v5 - v6 - v7 - v8 - v9 ⟨ql, rfl, rl⟩
      obtain rfl : v1 = _ := hv1
      change wpList _ _ _ [_, _, _] _ _
      simp only [Act.put, List.setIfInBounds_toArray, List.set_cons_succ, List.set_cons_zero]
      have b10 := below_undrew hE
      clear hE hF
      have hs10 := b10.size
      have oD10 := own_new oD8 b10
      have kg10 := kg8s.new_ b10
      go_wp2_with (at_builtin; refine wpList_app rfl (.tmp 43) (.tmp 51) 25 rfl el_int rfl oD10 rfl rl rfl (one_ints [idxL (pAt t v) 0 ks]) (by simp only [maxLen]; omega) (by omega) (by omega) ?_; intro D8 e8 w11 o11 ch11 d11 _; have kg11 := kg10.chg ch11 (fun e => by have := unhide HRD _ e; omega); have h1 : w11.cell? ⟨g, 2, none⟩ = some (.slice D k e') := kg11.cell 2; have h2 : w11.frozen? ⟨g, 2, none⟩ = false := kg11.frozen 2)
      have chG : Chg (fun q => q = g) w11 (w11.setCell ⟨g, 2, none⟩ (.slice D8 (k + 1) e8)) := (Chg.refl (fun q => q = g) w11).setCell (p := ⟨g, 2, none⟩) (.inl rfl) _
      have hs11 := ch11.size
      have hr11 := own_rng o11
      have hrB := own_rng oB8
      have oD12 := own_chg o11 chG (fun q hq e => by have := hr11 q hq; omega)
      have oB12 := own_chg (own_chg (own_new oB8 b10) ch11 (fun q hq e => own_ne oB8 oD8 ne_bi q hq e)) chG (fun q hq e => by have := hrB q hq; omega)
      have kg12 : Blk (w11.setCell ⟨g, 2, none⟩ (.slice D8 (k + 1) e8)) g 27 #[.slice A1 t.base.length c1, .slice A8 (k + 1) c8, .slice D8 (k + 1) e8] := kg11.set_ 2 _
      have hch12 : Chg (fun q => q = g) w6 (w11.setCell ⟨g, 2, none⟩ (.slice D8 (k + 1) e8)) := ⟨(chG.os.trans (ch11.os.trans (b10.os.trans hM8.os))).trans hch.os, (chG.tape.trans (ch11.tape.trans (b10.tape.trans hM8.tape))).trans hch.tape, (chG.output.trans (ch11.output.trans (b10.output.trans hM8.output))).trans hch.output, by have := chG.size; omega, fun q hq hqg => by rw [chG.block q (by omega) hqg, ch11.block q (by omega) (fun e => by have := unhide HRD q e; omega), b10.block q (by omega), hc8 q hq hqg, hch.block q hq hqg]⟩
      have hall12 := hall.append (AllR.one hbx)
      go_roundw
      case rel =>
        refine ⟨k + 1, A8, c8, D8, e8, vs ++ [bkV x L1 e1], by omega, by go_num, ?_, ?_, ?_, kg12, hch12⟩
        · rw [unhide HT, List.map_append]
          simpa [unhide HXB] using hall12
        · rw [List.flatten_append]; simpa using oB12
        · rw [unhide HT, List.map_append, List.map_append]; simpa using oD12
      case measure => simp [intOf]; omega
    · obtain rfl : k = ks.length := by omega
      rw [List.take_length] at hall oD
      have HBP := hide (show ∀ x ∈ (pruneT t n).blocks, x.list.length ≤ 1099511627776 from by
        rw [unhide HAM]
        intro x hx
        obtain ⟨p, hp, rfl⟩ := List.mem_map.1 hx
        have hpm := unhide HKM p hp
        rw [bAt_get t (by omega)]
        exact unhide HBS _ (List.getElem_mem _))
      have hTP : TrR wr (pruneT t n) A1 A' D := by
        rw [unhide HAM]
        refine ⟨(unhide HR wr hBw).b1, ⟨vs, hall.keep bk_good (Kp.below hBw), RdP.of_rd (own_rd oB) fun _ _ _ => trivial⟩, own_rd oD⟩
      have hl1 : (pruneT t n).base.length = t.base.length := by rw [unhide HAM]
      have hl2 : (pruneT t n).blocks.length = ks.length := by rw [unhide HAM]; simp
      have hl3 : (pruneT t n).before.length = ks.length := by rw [unhide HAM]; simp
      have KC := clone_impl (pruneT t n) A1 c1 A' c' D e' wr hTP (by omega) (by omega) (unhide HBP) (by omega)
      simp only [trA] at KC
      rw [hl1, hl2, hl3] at KC
      have HL1 := hide hl1
      have HL2 := hide hl2
      have HL3 := hide hl3
      have z0 : wr.cell? ⟨g, 0, none⟩ = some (.slice A1 t.base.length c1) := kg.cell 0
      have z1 : wr.cell? ⟨g, 1, none⟩ = some (.slice A' ks.length c') := kg.cell 1
      have z2 : wr.cell? ⟨g, 2, none⟩ = some (.slice D ks.length e') := kg.cell 2
      clear hl1 hl2 hl3 hTP hall
      go_wp2_with fail
      refine KC.mono ?_
      rintro e w9 ⟨B1, d1, B2, d2, B3, d3, fp, rfl, tO, b9⟩
      have kr9 := krr.new_ b9
      have hs9 := b9.size
      go_wp2_with (refine wpList_store_row rfl 27 (.tmp 4) (.tmp 56) rfl (w.heap.size + 1) #[.slice B1 t.base.length d1, .slice B2 ks.length d2, .slice B3 ks.length d3] rfl rfl 27 #[.slice none 0 0, .slice none 0 0, .slice none 0 0] kr9 info_tr rfl (sl3_one _ _ _ _ _ _ _ _ _) ?_)
      refine bodyPost_ret (v := .tuple #[.agg #[.slice B1 t.base.length d1, .slice B2 ks.length d2, .slice B3 ks.length d3], .bool true]) (results_cell_tmp (p := 4) (q := 5) (ty := 27) rfl _ _ (w.heap.size + 1) 27 #[.slice B1 t.base.length d1, .slice B2 ks.length d2, .slice B3 ks.length d3] (0, 0) _ rfl (blk_setRow kr9) Tryz.underlying27 rfl info_tr) rfl ?_
      rw [unhide HF]
      refine ⟨B1, d1, B2, d2, B3, d3, fp, ?_, trO_base (trO_setRow tO (by omega) _) (by omega), below_setRow (bthen hBw b9) (by omega) _⟩
      rw [unhide HL1, unhide HL2, unhide HL3]
end Go.Proofs.YtefdhlfljpppfaaGreat
namespace Go.Proofs.YtefdhlfljpppfaaGreat
open Go.RowKit
set_option linter.unusedVariables false
set_option linter.unusedSimpArgs false

set_option maxRecDepth 100000 in
set_option maxHeartbeats 16000000 in
theorem prune_spec (t : Tr) (A1 : Option Addr) (c1 : Nat) (A2 : Option Addr) (c2 : Nat) (A3 : Option Addr) (c3 : Nat) (n : Int) (w : World) (h : TrR w t A1 A2 A3) (hb1 : t.base.length ≤ 1099511627776) (hb2 : t.blocks.length ≤ 1099511627776) (hbs : ∀ x ∈ t.blocks, x.list.length ≤ 1099511627776) (hb3 : t.before.length ≤ 1099511627776) :
    Calls Tryz.prog 24 #[.agg (trA t A1 c1 A2 c2 A3 c3), .int .i64 n] w fun e w' => ∃ B1 d1 B2 d2 B3 d3 fp, e = .returned (.tuple #[.agg (trA (pruneT t n) B1 d1 B2 d2 B3 d3), .bool (pruneOk t n)]) ∧ TrO w' w.heap.size (pruneT t n) B1 d1 B2 d2 B3 d3 fp ∧ Below w.heap.size w w' := by
  have HBS := hide hbs
  clear hbs
  have HR := hide (fun w' (hb : Below w.heap.size w w') => h.new hb)
  have hT := h
  have HAK := hide (fun w' (hb : Below w.heap.size w w') => kept_spec t A1 c1 A2 c2 A3 c3 n w' (unhide HR w' hb) hb1 hb2 (unhide HBS) hb3)
  have HCL := hide (fun w' (hb : Below w.heap.size w w') => copy_spec t A1 c1 A2 c2 A3 c3 w' (unhide HR w' hb) hb1 hb2 (unhide HBS) hb3)
  simp only [trA] at HAK HCL ⊢
  have k0 : Blk ((w.alloc (.cells #[.slice A1 t.base.length c1, .slice A2 t.blocks.length c2, .slice A3 t.before.length c3] 27)).alloc (.cells #[.slice none 0 0, .slice none 0 0, .slice none 0 0] 27)) w.heap.size 27 #[.slice A1 t.base.length c1, .slice A2 t.blocks.length c2, .slice A3 t.before.length c3] := (Blk.new _ _ _).alloc _
  have kr : Blk ((w.alloc (.cells #[.slice A1 t.base.length c1, .slice A2 t.blocks.length c2, .slice A3 t.before.length c3] 27)).alloc (.cells #[.slice none 0 0, .slice none 0 0, .slice none 0 0] 27)) (w.heap.size + 1) 27 #[.slice none 0 0, .slice none 0 0, .slice none 0 0] := by
    have := Blk.new (w.alloc (.cells #[.slice A1 t.base.length c1, .slice A2 t.blocks.length c2, .slice A3 t.before.length c3] 27)) 27 #[.slice none 0 0, .slice none 0 0, .slice none 0 0]
    simpa using this
  have hb0 : Below w.heap.size w ((w.alloc (.cells #[.slice A1 t.base.length c1, .slice A2 t.blocks.length c2, .slice A3 t.before.length c3] 27)).alloc (.cells #[.slice none 0 0, .slice none 0 0, .slice none 0 0] 27)) := ((Below.refl _ _).alloc (Nat.le_refl _) _).alloc (by simp) _
  have hz0 := kr.lt
  have KV := treeValid_spec t A1 c1 A2 c2 A3 c3 ((w.alloc (.cells #[.slice A1 t.base.length c1, .slice A2 t.blocks.length c2, .slice A3 t.before.length c3] 27)).alloc (.cells #[.slice none 0 0, .slice none 0 0, .slice none 0 0] 27)) (unhide HR _ hb0) hb1 hb2 (unhide HBS) hb3
  simp only [trA] at KV
  have x0 : ((w.alloc (.cells #[.slice A1 t.base.length c1, .slice A2 t.blocks.length c2, .slice A3 t.before.length c3] 27)).alloc (.cells #[.slice none 0 0, .slice none 0 0, .slice none 0 0] 27)).cell? ⟨w.heap.size, 0, none⟩ = some (.slice A1 t.base.length c1) := k0.cell 0
  have x1 : ((w.alloc (.cells #[.slice A1 t.base.length c1, .slice A2 t.blocks.length c2, .slice A3 t.before.length c3] 27)).alloc (.cells #[.slice none 0 0, .slice none 0 0, .slice none 0 0] 27)).cell? ⟨w.heap.size, 1, none⟩ = some (.slice A2 t.blocks.length c2) := k0.cell 1
  have x2 : ((w.alloc (.cells #[.slice A1 t.base.length c1, .slice A2 t.blocks.length c2, .slice A3 t.before.length c3] 27)).alloc (.cells #[.slice none 0 0, .slice none 0 0, .slice none 0 0] 27)).cell? ⟨w.heap.size, 2, none⟩ = some (.slice A3 t.before.length c3) := k0.cell 2
  clear h
  go_enter Tryz.func24, Tryz.ntmps24
  go_wp2_with fail
  refine KV.mono ?_
  rintro e w3 ⟨rfl, b3⟩
  replace k0 := k0.new_ b3
  replace kr := kr.new_ b3
  have hw3 : w.heap.size + 1 < w3.heap.size := Nat.lt_of_lt_of_le hz0 b3.size
  replace hb0 := bthen hb0 b3
  clear KV x0 x1 x2 b3 hz0
  have x0 : w3.cell? ⟨w.heap.size, 0, none⟩ = some (.slice A1 t.base.length c1) := k0.cell 0
  have x1 : w3.cell? ⟨w.heap.size, 1, none⟩ = some (.slice A2 t.blocks.length c2) := k0.cell 1
  have x2 : w3.cell? ⟨w.heap.size, 2, none⟩ = some (.slice A3 t.before.length c3) := k0.cell 2
  cases hv : treeB t
  · have HF := hide (show pruneOk t n = false by simp [pruneOk, hv])
    have HA := hide (pruneT_no (n := n) hv)
    go_wp2_with (refine wpList_store_row rfl 27 (.tmp 4) (.tmp 15) rfl (w.heap.size + 1) #[.slice none 0 0, .slice none 0 0, .slice none 0 0] rfl rfl 27 #[.slice none 0 0, .slice none 0 0, .slice none 0 0] kr info_tr rfl (sl3_one _ _ _ _ _ _ _ _ _) ?_)
    refine bodyPost_ret (v := .tuple #[.agg #[.slice none 0 0, .slice none 0 0, .slice none 0 0], .bool false]) (results_cell_tmp (p := 4) (q := 5) (ty := 27) rfl _ _ (w.heap.size + 1) 27 #[.slice none 0 0, .slice none 0 0, .slice none 0 0] (0, 0) _ rfl (blk_setRow kr) Tryz.underlying27 rfl info_tr) rfl ?_
    rw [unhide HA, unhide HF]
    exact ⟨none, 0, none, 0, none, 0, [], rfl, trO_nil _ _, below_setRow hb0 (by omega) _⟩
  have HV := hide hv
  have hl14 := (treeB_yes hv).2.2.1
  have hb32 := store_len (treeB_yes hv).1
  have HLB := hide (treeB_yes hv).2.2.2.1
  clear hv
  go_wp2_with fail
  refine (unhide HAK w3 hb0).mono ?_
  rintro e w5 ⟨AK, ck, rfl, oK, b5⟩
  clear x0 x1 x2
  replace k0 := k0.new_ b5
  replace kr := kr.new_ b5
  have hs4 := b5.size
  replace hb0 := bthen hb0 b5
  have hkl := keptL_len t n
  have HKM := hide (fun x (hx : x ∈ keptL t n) => (keptL_mem (t := t) (n := n) hx).2)
  have HASC := hide (keptL_asc t n)
  have y0 : w5.cell? ⟨w.heap.size, 0, none⟩ = some (.slice A1 t.base.length c1) := k0.cell 0
  have y1 : w5.cell? ⟨w.heap.size, 1, none⟩ = some (.slice A2 t.blocks.length c2) := k0.cell 1
  have y2 : w5.cell? ⟨w.heap.size, 2, none⟩ = some (.slice A3 t.before.length c3) := k0.cell 2
  cases hin : inB n 0 ((t.blocks.length : Int) - 1)
  · have HF := hide (show pruneOk t n = false by simp [pruneOk, hin])
    have HA := hide (pruneT_out (unhide HV) hin)
    have he : ((keptL t n).length : Int) = 0 := by rw [keptL_no2 hin]; rfl
    have he2 : (((keptL t n).length : Int) == 0) = true := by simpa using he
    have HE := hide he
    clear he hin
    go_wp2_with fail
    refine (unhide HCL w5 hb0).mono ?_
    rintro e w6 ⟨B1, d1, B2, d2, B3, d3, fp, rfl, tO, b6⟩
    replace kr := kr.new_ b6
    have hs5 := b6.size
    go_wp2_with (refine wpList_store_row rfl 27 (.tmp 4) (.tmp 23) rfl (w.heap.size + 1) #[.slice B1 t.base.length d1, .slice B2 t.blocks.length d2, .slice B3 t.before.length d3] rfl rfl 27 #[.slice none 0 0, .slice none 0 0, .slice none 0 0] kr info_tr rfl (sl3_one _ _ _ _ _ _ _ _ _) ?_)
    refine bodyPost_ret (v := .tuple #[.agg #[.slice B1 t.base.length d1, .slice B2 t.blocks.length d2, .slice B3 t.before.length d3], .bool false]) (results_cell_tmp (p := 4) (q := 5) (ty := 27) rfl _ _ (w.heap.size + 1) 27 #[.slice B1 t.base.length d1, .slice B2 t.blocks.length d2, .slice B3 t.before.length d3] (0, 0) _ rfl (blk_setRow kr) Tryz.underlying27 rfl info_tr) rfl ?_
    rw [unhide HA, unhide HF]
    exact ⟨B1, d1, B2, d2, B3, d3, fp, rfl, trO_base (trO_setRow tO (by omega) _) (by omega), below_setRow (bthen hb0 b6) (by omega) _⟩
  have HF := hide (show pruneOk t n = true by rw [pruneOk, unhide HV, hin]; rfl)
  have HAM := hide (pruneT_yes (unhide HV) hin)
  have hn0 : 0 < (keptL t n).length := List.length_pos_iff.2 (keptL_self (unhide HV) hin)
  have hne : (((keptL t n).length : Int) == 0) = false := by simp; exact keptL_self (unhide HV) hin
  clear hin
  generalize hks : keptL t n = ks at *
  have HKS := hide hks
  clear hks
  have HOK := hide oK
  have hw5 : w.heap.size < w5.heap.size := by omega
  have hr0 := (unhide HR w5 hb0).b1
  have oe := own_made (base := w5.heap.size) (e := 85) (size := 2) w5 #[] 0 (Nat.le_refl _) (by simp [maxLen]) rfl
  have be : Below w5.heap.size w5 (w5.alloc (.cells #[] 85)) := (Below.refl _ _).alloc (Nat.le_refl _) _
  clear oK
  go_wp2_with (first | (at_builtin; refine wpList_app0 rfl (.tmp 24) (.tmp 26) 23 rfl el_ent rfl oe rfl (hr0.new be) (len_ents t.base) (one_ents t.base) (by simp only [maxLen]; omega) (by omega) (by simp) ?_; intro B1 d1 w7 o1 b7) | (refine wpList_store_row rfl 27 (.tmp 7) (.tmp 28) rfl w7.heap.size #[.slice B1 t.base.length d1, .slice none 0 0, .slice none 0 0] rfl rfl 27 #[.slice none 0 0, .slice none 0 0, .slice none 0 0] (box_new w7 27 #[.slice none 0 0, .slice none 0 0, .slice none 0 0] #[.slice B1 t.base.length d1, .slice none 0 0, .slice none 0 0]).1 info_tr rfl (sl3_one _ _ _ _ _ _ _ _ _) ?_; refine at_world (C := fun W => wpList _ _ _ _ _ W) (F := fun W => Blk W w7.heap.size 27 #[.slice B1 t.base.length d1, .slice none 0 0, .slice none 0 0] ∧ Below w7.heap.size w7 W) ⟨(box_new w7 27 #[.slice none 0 0, .slice none 0 0, .slice none 0 0] #[.slice B1 t.base.length d1, .slice none 0 0, .slice none 0 0]).2.1, (box_new w7 27 #[.slice none 0 0, .slice none 0 0, .slice none 0 0] #[.slice B1 t.base.length d1, .slice none 0 0, .slice none 0 0]).2.2⟩ ?_; rintro w6 ⟨kg, b6⟩))
  obtain ⟨g, hg⟩ : ∃ g, g = w7.heap.size := ⟨_, rfl⟩
  rw [← hg] at kg ⊢
  have hs6 := b6.size
  have b57 := bthen be b7
  have hs57 := b57.size
  have hgl := kg.lt
  have hgw : w.heap.size + 1 < g := by omega
  have hg5 : w5.heap.size ≤ g := by omega
  have HO1 := hide (own_rng o1)
  have hg1 : ∀ q, B1 = some ⟨q, 0, none⟩ → q < g := fun q hq => by have := unhide HO1 q hq; omega
  have HG1 := hide hg1
  clear hg hg1
  have hb56 := bthen b57 b6
  replace k0 := k0.new_ hb56
  replace kr := kr.new_ hb56
  replace hb0 := bthen hb0 hb56
  have o16 := own_new o1 b6
  have HKO := hide (fun (w' : World) (hb : Below w5.heap.size w5 w') => (own_rd (own_new (unhide HOK) hb) : Rd w' AK (ks.map (.int .i64))))
  clear o1 b6 b7 be oe hr0 y0 y1 y2 hn0 b57
  go_loopw [8, 9, 10, 11] (fun i _ _ _ wr => ∃ (k : Nat) (A' : Option Addr) (c' : Nat) (D : Option Addr) (e' : Nat) (vs : List (List Value)) (fs : List (List Nat)), k ≤ ks.length ∧ i = .int .i64 k ∧ AllO bkO wr ((ks.take k).map fun k => bAt t k.toNat) vs fs ∧ fs.flatten.Nodup ∧ Hid (∀ q ∈ fs.flatten, w6.heap.size ≤ q ∧ A' ≠ some ⟨q, 0, none⟩) ∧ Hid (∀ q ∈ fs.flatten, D ≠ some ⟨q, 0, none⟩) ∧ wr.ownsRow w6.heap.size 50 6 (.slice A' k c') k vs.flatten ∧ wr.ownsRow w6.heap.size 3 1 (.slice D k e') k (((ks.take k).map fun k => idxL (pAt t k.toNat) 0 ks).map (.int .i64)) ∧ wr.ownsRow w5.heap.size 85 2 (.slice B1 t.base.length d1) t.base.length (t.base.flatMap encE) ∧ Blk wr g 27 #[.slice B1 t.base.length d1, .slice A' k c', .slice D k e'] ∧ Chg (fun q => q = g) w6 wr) (fun i _ _ _ _ => ks.length - (intOf i).toNat)
  case atStart => exact ⟨0, none, 0, none, 0, [], [], Nat.zero_le _, rfl, trivial, by simp, hide (by simp), hide (by simp), own_nil _ _ _ _, own_nil _ _ _ _, o16, kg, Chg.refl _ _⟩
  case round =>
    clear kg o16
    obtain ⟨k, A', c', D, e', vs, fs, hk, rfl, hall, hnd, HFA, HFD, oB, oD, o1, kg, hch⟩ := hrel
    obtain ⟨wo, rfl⟩ : ∃ wo, wo = wr := ⟨_, rfl⟩
    have hgsz := hch.size
    have hB5 : Below w5.heap.size w5 wo := hb56.trans (hch.below (fun q hq e => by omega) (by omega))
    have hBw : Below w.heap.size w wo := hb0.trans (hch.below (fun q hq e => by omega) (by omega))
    have HRB := hide (own_rng oB)
    have HRD := hide (own_rng oD)
    have kb := k0.chg hch (by omega)
    have krr := kr.chg hch (by omega)
    by_cases hlt : k < ks.length
    · have i1 : (k : Int) < (ks.length : Int) := by omega
      have hkrd := unhide HKO wo hB5
      obtain ⟨bk, offk, hAK, hkb, hzk⟩ : ∃ b off, AK = some ⟨b, off, none⟩ ∧ b < wo.heap.size ∧ ∀ j (hj : j < ks.length), wo.cell? ⟨b, off + j, none⟩ = some (.int .i64 ks[j]) := by
        obtain ⟨b, off, h1, h2, h3⟩ := hkrd (by simp; omega)
        exact ⟨b, off, h1, h2, fun j hj => h3 j _ (by simp [hj])⟩
      have HZK := hide hzk
      have hkm := unhide HKM ks[k] (List.getElem_mem hlt)
      have HT := hide (show ks.take (k + 1) = ks.take k ++ [ks[k]] from List.take_succ_eq_append_getElem hlt)
      have HKV := hide (show ks[k] = ks[k] from rfl)
      obtain ⟨v, hv⟩ := Int.eq_ofNat_of_zero_le hkm.1
      have hvn : v < t.blocks.length := by omega
      have HLI := hide (show lastI (pAt t v) ks k = idxL (pAt t v) 0 ks from lastI_idx (unhide HASC) hlt (by have := pAt_lt (unhide HV) hvn; omega))
      have zv : wo.cell? ⟨bk, offk + k, none⟩ = some (.int .i64 (v : Int)) := by rw [hzk k hlt, hv]
      have HT2 := hide (show ks.take (k + 1) = ks.take k ++ [(v : Int)] by rw [unhide HT, hv])
      have hvp : v < t.before.length := by have := unhide HLB; omega
      have i2 : (v : Int) < (t.blocks.length : Int) := by omega
      have i3 : (v : Int) < (t.before.length : Int) := by omega
      obtain ⟨bq, offq, L1, e1, hA2, -, hbb, q0, q1, q2, q3, q4, q5, hlc, r1⟩ := hT.b2.bk hvn
      have HXB := hide (show bAt t v = t.blocks[v] from bAt_get t hvn)
      have hxl := unhide HBS t.blocks[v] (List.getElem_mem hvn)
      generalize t.blocks[v] = x at *
      obtain ⟨bp, offp, hA3, hpb, zp⟩ := pAt_cell hT.b3 hvp
      have HAKE := hide hAK
      have HA2 := hide hA2
      have HA3 := hide hA3
      have HRX := hide (fun (w' : World) (hb : Below wo.heap.size wo w') => (r1.rd.new (hBw.trans (below_le hb (by omega))) : Rd w' L1 (x.list.flatMap encA)))
      have HX := hide (fun (w' : World) (hb : Below wo.heap.size wo w') => show (w'.cell? ⟨w.heap.size, 1, none⟩ = some (.slice A2 t.blocks.length c2) ∧ w'.cell? ⟨w.heap.size, 2, none⟩ = some (.slice A3 t.before.length c3)) ∧ (w'.cell? ⟨bq, offq + v * 6, none⟩ = some (.int .i64 x.before) ∧ w'.cell? ⟨bq, offq + v * 6 + 1, none⟩ = some (.int .i64 x.height) ∧ w'.cell? ⟨bq, offq + v * 6 + 2, none⟩ = some (.int .i64 x.view) ∧ w'.cell? ⟨bq, offq + v * 6 + 3, none⟩ = some (.slice L1 x.list.length e1) ∧ w'.cell? ⟨bq, offq + v * 6 + 4, none⟩ = some (.int .i64 x.root) ∧ w'.cell? ⟨bq, offq + v * 6 + 5, none⟩ = some (.int .i64 x.eff)) ∧ w'.cell? ⟨bp, offp + v, none⟩ = some (.int .i64 (pAt t v)) ∧ w'.cell? ⟨bk, offk + k, none⟩ = some (.int .i64 (v : Int)) from by
        have hbw : Below w.heap.size w w' := hBw.trans (below_le hb (by omega))
        have kb' := kb.new_ hb
        exact ⟨⟨kb'.cell 1, kb'.cell 2⟩, ⟨(hbw.cell (p := ⟨bq, offq + v * 6, none⟩) hbb).trans q0, (hbw.cell (p := ⟨bq, offq + v * 6 + 1, none⟩) hbb).trans q1, (hbw.cell (p := ⟨bq, offq + v * 6 + 2, none⟩) hbb).trans q2, (hbw.cell (p := ⟨bq, offq + v * 6 + 3, none⟩) hbb).trans q3, (hbw.cell (p := ⟨bq, offq + v * 6 + 4, none⟩) hbb).trans q4, (hbw.cell (p := ⟨bq, offq + v * 6 + 5, none⟩) hbb).trans q5⟩, (hbw.cell (p := ⟨bp, offp + v, none⟩) hpb).trans zp, (hb.cell (p := ⟨bk, offk + k, none⟩) hkb).trans zv⟩)
      clear hAK hA2 hA3 q0 q1 q2 q3 q4 q5 r1 hlc zp zv hkm hv hkrd hzk
      have kgl := kg.lt
      rw [unhide HAKE]
      go_wp2
      go_loopw [9, 10] (fun s i wr => ∃ (j : Nat), j ≤ k ∧ i = .int .i64 j ∧ s = .int .i64 (lastI (pAt t v) ks j) ∧ Below wo.heap.size wo wr) (fun _ i _ => k - (intOf i).toNat)
      case atStart => exact ⟨0, Nat.zero_le _, rfl, rfl, Below.refl _ _⟩
      case round =>
        obtain ⟨j, hj, rfl, rfl, bq1⟩ := hrel
        by_cases hjk : j < k
        · have i4 : (j : Int) < (k : Int) := by omega
          have i5 : (j : Int) < (ks.length : Int) := by omega
          have hjl : j < ks.length := by omega
          have HJ := hide (unhide HZK j hjl)
          have HLS := hide (show lastI (pAt t v) ks (j + 1) = if ks[j] = pAt t v then (j : Int) else lastI (pAt t v) ks j by
            rw [lastI, List.getD_eq_getElem?_getD, List.getElem?_eq_getElem hjl, Option.getD_some])
          generalize ks[j] = kj at *
          go_wp2
          have hF : StBL [bV (.slice (some ⟨bk, offk, none⟩) ks.length ck), bV (.int .i64 (j : Int)), bV (.pointer (some ⟨bk, offk + j, none⟩)), bV (.int .i64 kj), bV (.pointer (some ⟨w.heap.size, 2, none⟩)), bV (.slice (some ⟨bp, offp, none⟩) t.before.length c3), bV (.slice (some ⟨bk, offk, none⟩) ks.length ck), bV (.int .i64 (k : Int)), bV (.pointer (some ⟨bk, offk + k, none⟩)), bV (.int .i64 (v : Int)), bV (.pointer (some ⟨bp, offp + v, none⟩)), bV (.int .i64 (pAt t v))] :=
            ⟨sb_V _, sb_V _, sb_V _, sb_V _, sb_V _, sb_V _, sb_V _, sb_V _, sb_V _, sb_V _, sb_V _, sb_V _, trivial⟩
          go_upto_region 14 with fail
          refine wp_region_loc (by kernel_rfl) [(0, some 40), (1, some 41), (2, some 42), (3, some 43), (4, some 44), (5, some 45), (6, some 46), (7, some 47), (8, some 48), (9, some 49), (10, some 50), (11, some 51)] [[], [], [(0, some 40), (1, some 41)], [(2, some 42)], [], [(4, some 44)], [], [], [(6, some 46), (7, some 47)], [(8, some 48)], [(5, some 45), (9, some 49)], [(10, some 50)]] (by kernel_rfl)
            (locB _) (fun a b => Below a.heap.size a b) noR [0, 0, 0, 0, 0, 0, 0, 0, 0, 0, 0, 0] 0 (by kernel_rfl) (fun _ => Below.refl _ _) (fun _ _ _ => bthen) (locB_st hF _) trivial ?_ ?_
          · refine steps_cons ?s0 ( steps_cons ?s1 ( steps_cons ?s2 ( steps_cons ?s3 ( steps_cons ?s4 ( steps_cons ?s5 ( steps_cons ?s6 ( steps_cons ?s7 ( steps_cons ?s8 ( steps_cons ?s9 ( steps_cons ?s10 ( steps_cons ?s11 steps_nil)))))))))))
            case s0 =>
              intro w' m' hE hR
              intro Q hQ
              go_wp2
              exact hQ _ _ _ rfl rfl (Below.refl _ _) trivial
            case s1 =>
              intro w' m' hE hR
              intro Q hQ
              go_wp2
              exact hQ _ _ _ rfl rfl (Below.refl _ _) trivial
            case s2 =>
              intro w' m' hE hR
              rintro _ rfl _ rfl Q hQ
              go_wp2
              exact hQ _ _ _ rfl rfl (Below.refl _ _) trivial
            case s3 =>
              intro w' m' hE hR
              rintro _ rfl Q hQ
              have u8 : w'.cell? ⟨bk, offk + j, none⟩ = some (.int .i64 kj) := (((bthen bq1 (below_undrew hE))).cell (p := ⟨bk, offk + j, none⟩) hkb).trans (unhide HJ)
              go_wp2
              exact hQ _ _ _ rfl rfl (Below.refl _ _) trivial
            case s4 =>
              intro w' m' hE hR
              intro Q hQ
              go_wp2
              exact hQ _ _ _ rfl rfl (Below.refl _ _) trivial
            case s5 =>
              intro w' m' hE hR
              rintro _ rfl Q hQ
              obtain ⟨⟨s1, s2⟩, ⟨u0, u1, u2, u3, u4, u5⟩, u6, u7⟩ := unhide HX w' (bthen bq1 (below_undrew hE))
              rw [unhide HA3] at s2
              go_wp2
              exact hQ _ _ _ rfl rfl (Below.refl _ _) trivial
            case s6 =>
              intro w' m' hE hR
              intro Q hQ
              go_wp2
              exact hQ _ _ _ rfl rfl (Below.refl _ _) trivial
            case s7 =>
              intro w' m' hE hR
              intro Q hQ
              go_wp2
              exact hQ _ _ _ rfl rfl (Below.refl _ _) trivial
            case s8 =>
              intro w' m' hE hR
              rintro _ rfl _ rfl Q hQ
              go_wp2
              exact hQ _ _ _ rfl rfl (Below.refl _ _) trivial
            case s9 =>
              intro w' m' hE hR
              rintro _ rfl Q hQ
              obtain ⟨⟨s1, s2⟩, ⟨u0, u1, u2, u3, u4, u5⟩, u6, u7⟩ := unhide HX w' (bthen bq1 (below_undrew hE))
              go_wp2
              exact hQ _ _ _ rfl rfl (Below.refl _ _) trivial
            case s10 =>
              intro w' m' hE hR
              rintro _ rfl _ rfl Q hQ
              go_wp2
              exact hQ _ _ _ rfl rfl (Below.refl _ _) trivial
            case s11 =>
              intro w' m' hE hR
              rintro _ rfl Q hQ
              obtain ⟨⟨s1, s2⟩, ⟨u0, u1, u2, u3, u4, u5⟩, u6, u7⟩ := unhide HX w' (bthen bq1 (below_undrew hE))
              go_wp2
              exact hQ _ _ _ rfl rfl (Below.refl _ _) trivial
          intro w9 hE _
          rintro v0 - v1 - v2 - v3 hv3 v4 - v5 - v6 - v7 - v8 - v9 - v10 - v11 hv11
          obtain rfl : v3 = _ := hv3
          obtain rfl : v11 = _ := hv11
          change wpList _ _ _ [_] _ _
          simp only [Act.put, List.setIfInBounds_toArray, List.set_cons_succ, List.set_cons_zero]
          have b9 := below_undrew hE
          clear hE hF
          by_cases he : kj = pAt t v
          · have he2 : (kj == pAt t v) = true := by simpa using he
            have HLN := hide (show (j : Int) = lastI (pAt t v) ks (j + 1) by rw [unhide HLS, if_pos he])
            clear he
            go_wp2
            go_roundw
            case rel => exact ⟨j + 1, by omega, by go_num, by rw [← unhide HLN], bthen bq1 b9⟩
            case measure => simp [intOf]; omega
          · have he2 : (kj == pAt t v) = false := by simpa using he
            have HLN := hide (show lastI (pAt t v) ks j = lastI (pAt t v) ks (j + 1) by rw [unhide HLS, if_neg he])
            clear he
            go_wp2
            go_roundw
            case rel => exact ⟨j + 1, by omega, by go_num, by rw [← unhide HLN], bthen bq1 b9⟩
            case measure => simp [intOf]; omega
        · obtain rfl : j = k := by omega
          rw [unhide HLI]
          have hsq := bq1.size
          go_wp2
          have hF : StBL [bV (.pointer (some ⟨w.heap.size, 1, none⟩)), bV (.slice (some ⟨bq, offq, none⟩) t.blocks.length c2), bV (.slice (some ⟨bk, offk, none⟩) ks.length ck), bV (.int .i64 (j : Int)), bV (.pointer (some ⟨bk, offk + j, none⟩)), bV (.int .i64 (v : Int)), bV (.pointer (some ⟨bq, offq + v * 6, none⟩)), bV (.agg #[.int .i64 x.before, .int .i64 x.height, .int .i64 x.view, .slice L1 x.list.length e1, .int .i64 x.root, .int .i64 x.eff]), newBox wr.heap.size 50 #[.int .i64 0, .int .i64 0, .int .i64 0, .slice none 0 0, .int .i64 0, .int .i64 0]] :=
            ⟨sb_V _, sb_V _, sb_V _, sb_V _, sb_V _, sb_V _, sb_V _, sb_V _, sb_newBox _ _ _, trivial⟩
          go_upto_region 16 with fail
          refine wp_region_loc (by kernel_rfl) [(0, some 54), (1, some 55), (2, some 56), (3, some 57), (4, some 58), (5, some 59), (6, some 60), (7, some 61), (8, some 11)] [[], [(0, some 54)], [], [], [(2, some 56), (3, some 57)], [(4, some 58)], [(1, some 55), (5, some 59)], [(6, some 60)], []] (by kernel_rfl)
            (locB _) (fun a b => Below a.heap.size a b) noR [0, 0, 0, 0, 0, 0, 0, 0, 0] 0 (by kernel_rfl) (fun _ => Below.refl _ _) (fun _ _ _ => bthen) (locB_st hF _) trivial ?_ ?_
          · refine steps_cons ?s0 ( steps_cons ?s1 ( steps_cons ?s2 ( steps_cons ?s3 ( steps_cons ?s4 ( steps_cons ?s5 ( steps_cons ?s6 ( steps_cons ?s7 ( steps_cons ?s8 steps_nil))))))))
            case s0 =>
              intro w' m' hE hR
              intro Q hQ
              go_wp2
              exact hQ _ _ _ rfl rfl (Below.refl _ _) trivial
            case s1 =>
              intro w' m' hE hR
              rintro _ rfl Q hQ
              obtain ⟨⟨s1, s2⟩, ⟨u0, u1, u2, u3, u4, u5⟩, u6, u7⟩ := unhide HX w' (bthen bq1 (below_undrew hE))
              rw [unhide HA2] at s1
              go_wp2
              exact hQ _ _ _ rfl rfl (Below.refl _ _) trivial
            case s2 =>
              intro w' m' hE hR
              intro Q hQ
              go_wp2
              exact hQ _ _ _ rfl rfl (Below.refl _ _) trivial
            case s3 =>
              intro w' m' hE hR
              intro Q hQ
              go_wp2
              exact hQ _ _ _ rfl rfl (Below.refl _ _) trivial
            case s4 =>
              intro w' m' hE hR
              rintro _ rfl _ rfl Q hQ
              go_wp2
              exact hQ _ _ _ rfl rfl (Below.refl _ _) trivial
            case s5 =>
              intro w' m' hE hR
              rintro _ rfl Q hQ
              obtain ⟨⟨s1, s2⟩, ⟨u0, u1, u2, u3, u4, u5⟩, u6, u7⟩ := unhide HX w' (bthen bq1 (below_undrew hE))
              go_wp2
              exact hQ _ _ _ rfl rfl (Below.refl _ _) trivial
            case s6 =>
              intro w' m' hE hR
              rintro _ rfl _ rfl Q hQ
              go_wp2
              exact hQ _ _ _ rfl rfl (Below.refl _ _) trivial
            case s7 =>
              intro w' m' hE hR
              rintro _ rfl Q hQ
              obtain ⟨⟨s1, s2⟩, ⟨u0, u1, u2, u3, u4, u5⟩, u6, u7⟩ := unhide HX w' (bthen bq1 (below_undrew hE))
              go_wp2
              exact hQ _ _ _ rfl rfl (Below.refl _ _) trivial
            case s8 =>
              intro w' m' hE hR
              intro Q hQ
              have hsz := hE.size
              go_wp2
              exact hQ _ _ _ rfl ⟨w'.heap.size, rfl, hsz, Blk.new _ _ _⟩ ((Below.refl _ _).alloc (Nat.le_refl _) _) trivial
          intro w10 hE _
          rintro v0 - v1 - v2 - v3 - v4 - v5 - v6 - v7 hv7 v8 ⟨g5, rfl, hg5q, kz⟩
          obtain rfl : v7 = _ := hv7
          change wpList _ _ _ [_] _ _
          simp only [Act.put, List.setIfInBounds_toArray, List.set_cons_succ, List.set_cons_zero]
          have b10 := bthen bq1 (below_undrew hE)
          clear hE hF
          have hg5r : wo.heap.size ≤ g5 := by omega
          have hne : g ≠ g5 := by omega
          have hne2 : g5 ≠ g := by omega
          go_wp2_with (first | (refine wpList_store_row rfl 50 (.tmp 11) (.tmp 61) rfl g5 #[.int .i64 x.before, .int .i64 x.height, .int .i64 x.view, .slice L1 x.list.length e1, .int .i64 x.root, .int .i64 x.eff] rfl rfl 50 #[.int .i64 0, .int .i64 0, .int .i64 0, .slice none 0 0, .int .i64 0, .int .i64 0] kz info_bkS rfl (bk6_one _ _ _ _ _ _ _ _) ?_; refine at_world (C := fun W => wpList _ _ _ _ _ W) (F := fun W => Blk W g5 50 #[.int .i64 x.before, .int .i64 x.height, .int .i64 x.view, .slice L1 x.list.length e1, .int .i64 x.root, .int .i64 x.eff] ∧ Below wo.heap.size wo W ∧ g5 < W.heap.size) ⟨blk_setRow kz, below_setRow b10 hg5r _, by rw [size_setRow]; exact kz.lt⟩ ?_; rintro w20 ⟨k20, b20, hl20⟩; have v3 : w20.cell? ⟨g5, 3, none⟩ = some (.slice L1 x.list.length e1) := k20.cell 3; have oe := own_made (base := w20.heap.size) (e := 101) (size := 4) w20 #[] 0 (Nat.le_refl _) (by simp [maxLen]) rfl; have hs20 := b20.size; have be : Below wo.heap.size wo (w20.alloc (.cells #[] 101)) := b20.alloc hs20 _) | (at_builtin; refine wpList_app0 rfl (.tmp 62) (.tmp 64) 48 rfl el_actz rfl oe rfl (unhide HRX _ be) (len_acts x.list) (one_acts2 x.list) (by simp only [maxLen]; omega) (by omega) (by simp) ?_; intro A7 c7 w7 o7 b7; have b57 : Below wo.heap.size wo w7 := be.trans (below_le b7 (by simp; omega)); have k7 := (k20.new_ ((Below.refl _ _).alloc (Nat.le_refl _) _)).new_ b7; have u0 : w7.cell? ⟨g5, 0, none⟩ = some _ := k7.cell 0; have u1 : w7.cell? ⟨g5, 1, none⟩ = some _ := k7.cell 1; have u2 : w7.cell? ⟨g5, 2, none⟩ = some _ := k7.cell 2; have u3 : w7.cell? ⟨g5, 3, none⟩ = some _ := k7.cell 3; have u4 : w7.cell? ⟨g5, 4, none⟩ = some _ := k7.cell 4; have u5 : w7.cell? ⟨g5, 5, none⟩ = some _ := k7.cell 5; have f3 : w7.frozen? ⟨g5, 3, none⟩ = false := k7.frozen 3; have kg7 := kg.new_ b57; have g1 : w7.cell? ⟨g, 1, none⟩ = some (.slice A' j c') := kg7.cell 1; have chS : Chg (fun q => q = g5) w7 (w7.setCell ⟨g5, 3, none⟩ (.slice A7 x.list.length c7)) := (Chg.refl (fun q => q = g5) w7).setCell (p := ⟨g5, 3, none⟩) (.inl rfl) _; have oA := own_chg (own_new oB b57) chS (fun q hq e => by have := unhide HRB q hq; omega); have oD7 := own_chg (own_new oD b57) chS (fun q hq e => by have := unhide HRD q hq; omega); have o7s := own_chg o7 chS (fun q hq e => by have := own_rng o7 q hq; omega); have hs7 := b57.size; have kg7s := kg7.chg chS hne; have es : (w7.setCell ⟨g5, 3, none⟩ (.slice A7 x.list.length c7)).heap.size = w7.heap.size := (by simp); have rl := rd_lit (w7.setCell ⟨g5, 3, none⟩ (.slice A7 x.list.length c7)) (bkV x A7 c7) 50; rw [es] at rl; clear es) | (at_builtin; refine wpList_app rfl (.tmp 68) (.tmp 70) 24 rfl el_bk rfl (own_alloc oA _) rfl rl rfl (bkV_one x A7 c7) (by simp only [maxLen]; omega) (by omega) (by simp; omega) ?_; intro A8 c8 w8 o8 ch8 d8 _; have kg8 := (kg7s.alloc (.cells (bkV x A7 c7).toArray 50)).chg ch8 (fun e => by have := unhide HRB _ e; omega); have h1 : w8.cell? ⟨g, 1, none⟩ = some (.slice A' j c') := kg8.cell 1; have h2 : w8.frozen? ⟨g, 1, none⟩ = false := kg8.frozen 1; have h3 : w8.cell? ⟨g, 2, none⟩ = some (.slice D j e') := kg8.cell 2; have hs8 := ch8.size; have oD8a := own_chg (own_alloc oD7 (.cells (bkV x A7 c7).toArray 50)) ch8 (fun q hq e => own_ne oB oD ne_bi q e hq); have chG : Chg (fun q => q = g) w8 (w8.setCell ⟨g, 1, none⟩ (.slice A8 (j + 1) c8)) := (Chg.refl (fun q => q = g) w8).setCell (p := ⟨g, 1, none⟩) (.inl rfl) _; have oD8 := own_chg oD8a chG (fun q hq e => by have := unhide HRD q hq; omega); have kg8s : Blk (w8.setCell ⟨g, 1, none⟩ (.slice A8 (j + 1) c8)) g 27 #[.slice B1 t.base.length d1, .slice A8 (j + 1) c8, .slice D j e'] := kg8.set_ 1 _; have es2 : (w8.setCell ⟨g, 1, none⟩ (.slice A8 (j + 1) c8)).heap.size = w8.heap.size := (by simp); have rl2 := rd_lit (w8.setCell ⟨g, 1, none⟩ (.slice A8 (j + 1) c8)) [.int .i64 (idxL (pAt t v) 0 ks)] 3; rw [es2] at rl2; clear es2) | (at_builtin; refine wpList_app rfl (.tmp 74) (.tmp 76) 25 rfl el_int rfl (own_alloc oD8 _) rfl rl2 rfl (one_ints [idxL (pAt t v) 0 ks]) (by simp only [maxLen]; omega) (by omega) (by simp at *; omega) ?_; intro D8 e8 w11 o11 ch11 d11 _; have kg11 := (kg8s.alloc (.cells #[.int .i64 (idxL (pAt t v) 0 ks)] 3)).chg ch11 (fun e => by have := unhide HRD _ e; omega); have h5 : w11.cell? ⟨g, 2, none⟩ = some (.slice D j e') := kg11.cell 2; have h6 : w11.frozen? ⟨g, 2, none⟩ = false := kg11.frozen 2))
          have b37 : Below wo.heap.size wo (w7.setCell ⟨g5, 3, none⟩ (.slice A7 x.list.length c7)) := b57.trans (chS.below (fun q hq e => by omega) b57.size)
          have hx : bkO x (w7.setCell ⟨g5, 3, none⟩ (.slice A7 x.list.length c7)) (bkV x A7 c7) (blk A7) := ⟨A7, c7, rfl, own_base0 o7s, rfl⟩
          have hfb : ∀ q ∈ blk A7, wo.heap.size ≤ q := fun q hq => by have := (blk_own o7s hq).2.1; omega
          obtain ⟨hall8, hnd8, hF8, hown8⟩ := grow_step bkO_good bk_good hall hnd (unhide HFA) oB hgsz b37 hx (blk_nodup _) hfb ch8 d8 (by simpa [bkV] using o8)
          have hFD8 : ∀ q ∈ (fs ++ [blk A7]).flatten, D ≠ some ⟨q, 0, none⟩ := fun q hq e => by
            rw [List.flatten_append] at hq
            rcases List.mem_append.1 hq with hq | hq
            · exact unhide HFD q hq e
            · have h1 := hfb q (by simpa using hq)
              have h2 := unhide HRD q e
              omega
          have chH : Chg (fun q => q = g) w11 (w11.setCell ⟨g, 2, none⟩ (.slice D8 (j + 1) e8)) := (Chg.refl (fun q => q = g) w11).setCell (p := ⟨g, 2, none⟩) (.inl rfl) _
          have hs11 := ch11.size
          have hsG := chG.size
          have hsH := chH.size
          have hsS := chS.size
          simp only [World.size_alloc, World.size_setCell] at hs8 hs11 hsG hsS
          have keep8 : ∀ q, q < w8.heap.size → q ≠ g → (¬ D = some ⟨q, 0, none⟩) → (w11.setCell ⟨g, 2, none⟩ (.slice D8 (j + 1) e8)).heap[q]? = w8.heap[q]? := fun q h1 h2 h3 => by
            rw [chH.block q (by omega) h2, ch11.block q (by simp; omega) h3, Below.heap_alloc _ _ _ (by simp; omega), chG.block q h1 h2]
          have hcAll : ∀ q, q < w6.heap.size → q ≠ g → (w11.setCell ⟨g, 2, none⟩ (.slice D8 (j + 1) e8)).heap[q]? = wo.heap[q]? := fun q h1 h2 => by
            rw [keep8 q (by omega) h2 (fun e => by have := unhide HRD q e; omega), ch8.block q (by simp; omega) (fun e => by have := unhide HRB q e; omega), Below.heap_alloc _ _ _ (by simp; omega), chS.block q (by omega) (by omega), b57.block q (by omega)]
          have hlt8 := hall8.lt bkO_good
          have hall12 := hall8.keep bkO_good (w' := (w11.setCell ⟨g, 2, none⟩ (.slice D8 (j + 1) e8))) (fun q hq hqw => keep8 q hqw (fun e => by have := (hF8 q hq).1; omega) (hFD8 q hq))
          have hr8 := own_rng hown8
          have oB12 := own_keep hown8 (w' := (w11.setCell ⟨g, 2, none⟩ (.slice D8 (j + 1) e8))) (fun q hq hqw => keep8 q hqw (fun e => by have := hr8 q hq; omega) (own_ne hown8 oD8a ne_bi q hq))
          have hr11 := own_rng o11
          have oD12 := own_chg o11 chH (fun q hq e => by have := hr11 q hq; omega)
          have hr1 := own_rng o1
          have o112 := own_keep o1 (w' := (w11.setCell ⟨g, 2, none⟩ (.slice D8 (j + 1) e8))) (fun q hq hqw => hcAll q (by have := unhide HG1 q hq; omega) (fun e => by have := unhide HG1 q hq; omega))
          have kg12 : Blk (w11.setCell ⟨g, 2, none⟩ (.slice D8 (j + 1) e8)) g 27 #[.slice B1 t.base.length d1, .slice A8 (j + 1) c8, .slice D8 (j + 1) e8] := kg11.set_ 2 _
          have hch12 : Chg (fun q => q = g) w6 (w11.setCell ⟨g, 2, none⟩ (.slice D8 (j + 1) e8)) := ⟨(chH.os.trans (ch11.os.trans (chG.os.trans (ch8.os.trans (chS.os.trans b57.os))))).trans hch.os, (chH.tape.trans (ch11.tape.trans (chG.tape.trans (ch8.tape.trans (chS.tape.trans b57.tape))))).trans hch.tape, (chH.output.trans (ch11.output.trans (chG.output.trans (ch8.output.trans (chS.output.trans b57.output))))).trans hch.output, by omega, fun q hq hqg => by rw [hcAll q hq hqg, hch.block q hq hqg]⟩
          have HFD12 := hide (show ∀ q ∈ (fs ++ [blk A7]).flatten, D8 ≠ some ⟨q, 0, none⟩ from fun q hq e => by
            rcases d11 with rfl | ⟨rfl, _⟩
            · exact hFD8 q hq e
            · have h1 := hlt8 q hq
              injection e with e; injection e with e; simp at e; omega)
          have HFA12 := hide hF8
          go_roundw
          case rel =>
            refine ⟨j + 1, A8, c8, D8, e8, _, _, by omega, by go_num, ?_, hnd8, HFA12, HFD12, oB12, ?_, o112, kg12, hch12⟩
            · rw [unhide HT2, List.map_append]
              simpa [unhide HXB] using hall12
            · rw [unhide HT2, List.map_append, List.map_append]; simpa using oD12
          case measure => simp [intOf]; omega
    · obtain rfl : k = ks.length := by omega
      rw [List.take_length] at hall oD
      have hl1 : (pruneT t n).base.length = t.base.length := by rw [unhide HAM]
      have hl2 : (pruneT t n).blocks.length = ks.length := by rw [unhide HAM]; simp
      have hl3 : (pruneT t n).before.length = ks.length := by rw [unhide HAM]; simp
      have hlm : (ks.map fun k => bAt t k.toNat).length = ks.length := by simp
      have hgd := grow_done (xs := ks.map fun k => bAt t k.toNat) hall hnd (unhide HFA) (by rw [hlm]; exact oB)
      have tP : TrO wo w5.heap.size (pruneT t n) B1 d1 A' c' D e' (blk A' ++ fs.flatten) := by
        rw [unhide HAM]
        refine ⟨o1, hgd.1, ?_, fun q hq => by have := hgd.2 q hq; omega, fun q hq hq2 => ?_, own_ne o1 (own_base oD (base' := 0) (by omega)) ne_ei, fun q hq hq2 => ?_⟩
        · simpa using own_base oD (base' := w5.heap.size) (by omega)
        · have := unhide HG1 q hq
          have := hgd.2 q hq2
          omega
        · rcases List.mem_append.1 hq2 with h1 | h1
          · exact own_ne oB oD ne_bi q (blk_own oB h1).1 hq
          · exact unhide HFD q h1 hq
      have HL1 := hide hl1
      have HL2 := hide hl2
      have HL3 := hide hl3
      have z0 : wo.cell? ⟨g, 0, none⟩ = some (.slice B1 t.base.length d1) := kg.cell 0
      have z1 : wo.cell? ⟨g, 1, none⟩ = some (.slice A' ks.length c') := kg.cell 1
      have z2 : wo.cell? ⟨g, 2, none⟩ = some (.slice D ks.length e') := kg.cell 2
      clear hl1 hl2 hl3 hlm hall hgd
      go_wp2_with (refine wpList_store_row rfl 27 (.tmp 4) (.tmp 79) rfl (w.heap.size + 1) #[.slice B1 t.base.length d1, .slice A' ks.length c', .slice D ks.length e'] rfl rfl 27 #[.slice none 0 0, .slice none 0 0, .slice none 0 0] krr info_tr rfl (sl3_one _ _ _ _ _ _ _ _ _) ?_)
      refine bodyPost_ret (v := .tuple #[.agg #[.slice B1 t.base.length d1, .slice A' ks.length c', .slice D ks.length e'], .bool true]) (results_cell_tmp (p := 4) (q := 5) (ty := 27) rfl _ _ (w.heap.size + 1) 27 #[.slice B1 t.base.length d1, .slice A' ks.length c', .slice D ks.length e'] (0, 0) _ rfl (blk_setRow krr) Tryz.underlying27 rfl info_tr) rfl ?_
      rw [unhide HF]
      refine ⟨B1, d1, A', c', D, e', _, ?_, trO_base (trO_setRow tP (by omega) _) (by omega), below_setRow hBw (by omega) _⟩
      rw [unhide HL1, unhide HL2, unhide HL3]
end Go.Proofs.YtefdhlfljpppfaaGreat
namespace Go.Proofs.YtefdhlfljpppfaaGreat
open Go.RowKit
set_option linter.unusedVariables false
set_option linter.unusedSimpArgs false

theorem keptGo_iff2 {t : Tr} {n x : Int} : ∀ m, x ∈ keptGo t n m ↔ ∃ k : Nat, k < m ∧ x = k ∧ keepB t n k = true
  | 0 => by simp [keptGo]
  | m + 1 => by
    have ih := keptGo_iff2 (t := t) (n := n) (x := x) m
    rw [keptGo]
    constructor
    · intro h
      split at h
      · rename_i hk
        rcases List.mem_append.1 h with h | h
        · obtain ⟨k, h1, h2⟩ := ih.1 h; exact ⟨k, by omega, h2⟩
        · rw [List.mem_singleton] at h; exact ⟨m, by omega, h, hk⟩
      · obtain ⟨k, h1, h2⟩ := ih.1 h; exact ⟨k, by omega, h2⟩
    · rintro ⟨k, h1, h2, h3⟩
      by_cases hkm : k = m
      · subst hkm
        rw [if_pos h3]
        exact List.mem_append_right _ (by rw [h2]; simp)
      · have := ih.2 ⟨k, by omega, h2, h3⟩
        split
        · exact List.mem_append_left _ this
        · exact this
section
variable {t : Tr} {n : Int}
theorem kept_iff (h : treeB t = true) (h0 : 0 ≤ n) (h1 : n < t.blocks.length) {x : Int} : x ∈ keptL t n ↔ (0 ≤ x ∧ x < t.blocks.length ∧ (x ∈ pathT t n ∨ n ∈ pathT t x)) := by
  rw [keptL_yes h (inB_true.2 (by omega)), keptGo_iff2]
  constructor
  · rintro ⟨k, hk, rfl, hb⟩
    simp only [keepB, Bool.or_eq_true, decide_eq_true_eq] at hb
    exact ⟨by omega, by omega, hb⟩
  · rintro ⟨a, b, hb⟩
    obtain ⟨k, rfl⟩ := Int.eq_ofNat_of_zero_le a
    exact ⟨k, by omega, rfl, by simp only [keepB, Bool.or_eq_true, decide_eq_true_eq]; exact hb⟩
theorem path_root2 (h : treeB t = true) : ∀ (m : Nat) (n : Int), n < m → 0 ≤ n → n < t.blocks.length → (0 : Int) ∈ pathT t n
  | 0, n, h0, h1, _ => by omega
  | m + 1, n, h0, h1, h2 => by
    rw [pathT_step h h1 h2]
    by_cases hz : n = 0
    · subst hz; simp
    · have hn := (treeB_yes h).2.2.2.2.2.2.2 n.toNat (by omega) (by omega)
      rw [nodeOk, Bool.and_eq_true] at hn
      have hb := inB_true.1 hn.1
      exact List.mem_append_left _ (path_root2 h m _ (by omega) hb.1 (by omega))
theorem pAt_pos (h : treeB t = true) {k : Nat} (h0 : 0 < k) (hk : k < t.blocks.length) : 0 ≤ pAt t k := by
  have hn := (treeB_yes h).2.2.2.2.2.2.2 k h0 hk
  rw [nodeOk, Bool.and_eq_true] at hn
  exact (inB_true.1 hn.1).1
/-- what is before a kept block is kept -/
theorem kept_up (h : treeB t = true) (h0 : 0 ≤ n) (h1 : n < t.blocks.length) {k : Nat} (hk0 : 0 < k) (hk : (k : Int) ∈ keptL t n) : pAt t k ∈ keptL t n := by
  obtain ⟨-, hkl, hor⟩ := (kept_iff h h0 h1).1 hk
  have hkl' : k < t.blocks.length := by omega
  have hp0 := pAt_pos h hk0 hkl'
  have hpl := pAt_lt h hkl'
  have hup := path_up h hkl' hp0
  refine (kept_iff h h0 h1).2 ⟨hp0, by omega, ?_⟩
  rcases hor with hor | hor
  · exact .inl (path_trans h hup (n.toNat + 1) n (by omega) hor)
  · rw [pathT_step h (by omega) (by omega)] at hor
    rcases List.mem_append.1 hor with hm | hm
    · rw [Int.toNat_natCast] at hm
      exact .inr hm
    · rw [List.mem_singleton] at hm
      subst hm
      exact .inl hup
theorem kept_zero (h : treeB t = true) (h0 : 0 ≤ n) (h1 : n < t.blocks.length) : (0 : Int) ∈ keptL t n :=
  (kept_iff h h0 h1).2 ⟨by omega, by omega, .inl (path_root2 h (n.toNat + 1) n (by omega) h0 h1)⟩
theorem asc_zero {xs : List Int} (hs : xs.Pairwise (· < ·)) (hp : ∀ x ∈ xs, 0 ≤ x) (hz : (0 : Int) ∈ xs) : xs[0]? = some 0 := by
  cases xs with
  | nil => cases hz
  | cons x xs =>
    rcases List.mem_cons.1 hz with h | h
    · rw [← h]; rfl
    · have h1 := (List.pairwise_cons.1 hs).1 0 h
      have h2 := hp x (by simp)
      omega
theorem asc_idx {xs : List Int} (hs : xs.Pairwise (· < ·)) {j : Nat} (hj : j < xs.length) : idxL xs[j] 0 xs = (j : Int) := by
  have := idxL_some (z := xs[j]) (xs := xs) 0 j hj rfl (fun i hi hij => by have := asc_lt hs hij hj; omega)
  rw [this]
  simp
theorem pr_len (h : treeB t = true) (h0 : 0 ≤ n) (h1 : n < t.blocks.length) : (pruneT t n).blocks.length = (keptL t n).length ∧ (pruneT t n).before.length = (keptL t n).length ∧ (pruneT t n).base = t.base := by
  rw [pruneT_yes h (inB_true.2 (by omega))]
  simp
theorem pr_b (h : treeB t = true) (h0 : 0 ≤ n) (h1 : n < t.blocks.length) {i : Nat} (hi : i < (keptL t n).length) : bAt (pruneT t n) i = bAt t ((keptL t n)[i]).toNat := by
  have hl := (pr_len h h0 h1).1
  rw [bAt_get _ (by omega)]
  simp [pruneT_yes h (inB_true.2 (by omega : 0 ≤ n ∧ n ≤ (t.blocks.length : Int) - 1))]
theorem pr_p (h : treeB t = true) (h0 : 0 ≤ n) (h1 : n < t.blocks.length) {i : Nat} (hi : i < (keptL t n).length) : pAt (pruneT t n) i = idxL (pAt t ((keptL t n)[i]).toNat) 0 (keptL t n) := by
  have hl := (pr_len h h0 h1).2.1
  rw [pAt_get _ (by omega)]
  simp [pruneT_yes h (inB_true.2 (by omega : 0 ≤ n ∧ n ≤ (t.blocks.length : Int) - 1))]
theorem kept_first2 (h : treeB t = true) (h0 : 0 ≤ n) (h1 : n < t.blocks.length) : ∃ hl : 0 < (keptL t n).length, (keptL t n)[0] = 0 := by
  have hz := asc_zero (keptL_asc t n) (fun x hx => ((kept_iff h h0 h1).1 hx).1) (kept_zero h h0 h1)
  obtain ⟨hl, he⟩ := List.getElem?_eq_some_iff.1 hz
  exact ⟨hl, he⟩
/-- the block before a kept one, in the new numbers -/
theorem pr_up (h : treeB t = true) (h0 : 0 ≤ n) (h1 : n < t.blocks.length) {i : Nat} (hi : i < (keptL t n).length) (hi0 : 0 < i) : ∃ j, ∃ hj : j < (keptL t n).length, j < i ∧ pAt (pruneT t n) i = (j : Int) ∧ (keptL t n)[j] = pAt t ((keptL t n)[i]).toNat ∧ 0 < ((keptL t n)[i]).toNat ∧ ((keptL t n)[i]).toNat < t.blocks.length := by
  have hm := (kept_iff h h0 h1).1 (List.getElem_mem hi)
  obtain ⟨hl0, hz⟩ := kept_first2 h h0 h1
  have hlt := asc_lt (keptL_asc t n) hi0 hi
  rw [hz] at hlt
  rw [pr_p h h0 h1 hi]
  obtain ⟨k, hk⟩ := Int.eq_ofNat_of_zero_le hm.1
  have hmem : ((k : Nat) : Int) ∈ keptL t n := by rw [← hk]; exact List.getElem_mem hi
  rw [hk, Int.toNat_natCast]
  obtain ⟨j, hj, he⟩ := List.getElem_of_mem (kept_up h h0 h1 (k := k) (by omega) hmem)
  have hpl := pAt_lt h (k := k) (by omega)
  refine ⟨j, hj, ?_, ?_, he, by omega, by omega⟩
  · rcases Nat.lt_or_ge j i with hji | hji
    · exact hji
    · exfalso
      rcases Nat.eq_or_lt_of_le hji with e | e
      · subst e; omega
      · have := asc_lt (keptL_asc t n) e hj; omega
  · rw [← he]; exact asc_idx (keptL_asc t n) hj
/-- a pruned tree is a tree -/
theorem prune_valid (h : treeB t = true) (h0 : 0 ≤ n) (h1 : n < t.blocks.length) : treeB (pruneT t n) = true := by
  obtain ⟨hs, hl1, hl14, hlb, hb0, hp0, hsum, hnode⟩ := treeB_yes h
  obtain ⟨e1, e2, e3⟩ := pr_len h h0 h1
  obtain ⟨hl0, hz⟩ := kept_first2 h h0 h1
  have hkl := keptL_len t n
  have hin : ∀ i (hi : i < (keptL t n).length), 0 ≤ (keptL t n)[i] ∧ ((keptL t n)[i]).toNat < t.blocks.length := fun i hi => by
    have := (kept_iff h h0 h1).1 (List.getElem_mem hi); omega
  simp only [treeB, Bool.and_eq_true]
  refine ⟨?_, ?_, upTo_all fun i hi => ?_, upTo_all fun i hi => ?_⟩
  · simp only [tree0, Bool.and_eq_true, decide_eq_true_eq]
    exact ⟨by rw [e3]; exact hs, inB_true.2 (by omega), by omega⟩
  · simp only [tree1, Bool.and_eq_true, decide_eq_true_eq, beq_iff_eq]
    refine ⟨by rw [pr_b h h0 h1 hl0, hz, e3]; exact hb0, ?_⟩
    rw [pr_p h h0 h1 hl0, hz]
    refine idxL_none 0 fun hm => ?_
    have := ((kept_iff h h0 h1).1 hm).1
    have e : pAt t (0 : Int).toNat = -1 := hp0
    omega
  · rw [e1] at hi
    have h2 := hsum _ (hin i hi).2
    simp only [sumOk, Bool.and_eq_true, Bool.not_eq_true', decide_eq_false_iff_not] at h2 ⊢
    rw [pr_b h h0 h1 hi]
    refine ⟨h2.1, fun hm => h2.2 ?_⟩
    obtain ⟨b, hb, e⟩ := List.mem_map.1 hm
    obtain ⟨j, hj, rfl⟩ := List.getElem_of_mem hb
    simp only [List.length_take] at hj
    rw [List.getElem_take, ← bAt_get _ (by omega), pr_b h h0 h1 (by omega)] at e
    have hlt := asc_lt (keptL_asc t n) (i := j) (j := i) (by omega) hi
    have h3 := hin j (by omega)
    rw [← e]
    refine List.mem_map.2 ⟨bAt t ((keptL t n)[j]'(by omega)).toNat, ?_, rfl⟩
    rw [bAt_get _ h3.2]
    refine List.mem_iff_getElem.2 ⟨((keptL t n)[j]'(by omega)).toNat, by rw [List.length_take]; omega, by rw [List.getElem_take]⟩
  · rw [e1] at hi
    simp only [nodeOk0, Bool.or_eq_true, beq_iff_eq]
    rcases Nat.eq_zero_or_pos i with hi0 | hi0
    · exact .inl hi0
    · refine .inr ?_
      obtain ⟨j, hj, hji, hpe, hje, hk0, hkl2⟩ := pr_up h h0 h1 hi hi0
      have h2 := hnode _ hk0 hkl2
      unfold nodeOk at h2 ⊢
      rw [hpe, Int.toNat_natCast, pr_b h h0 h1 hi, pr_b h h0 h1 hj, hje]
      simp only [Bool.and_eq_true] at h2 ⊢
      exact ⟨inB_true.2 (by omega), h2.2⟩
/-- the way to a kept block, in the new numbers -/
theorem prune_path (h : treeB t = true) (h0 : 0 ≤ n) (h1 : n < t.blocks.length) : ∀ (m i : Nat) (hi : i < (keptL t n).length), i < m → (pathT (pruneT t n) (i : Int)).map (fun j => (keptL t n).getD j.toNat 0) = pathT t (keptL t n)[i]
  | 0, i, hi, hm => by omega
  | m + 1, i, hi, hm => by
    obtain ⟨e1, e2, e3⟩ := pr_len h h0 h1
    have hv := prune_valid h h0 h1
    have hk := (kept_iff h h0 h1).1 (List.getElem_mem hi)
    have hgd : (keptL t n).getD i 0 = (keptL t n)[i] := by rw [List.getD_eq_getElem?_getD, List.getElem?_eq_getElem hi]; rfl
    rw [pathT_step hv (by omega) (by omega), pathT_step h hk.1 hk.2.1, List.map_append, Int.toNat_natCast]
    congr 1
    · rcases Nat.eq_zero_or_pos i with hi0 | hi0
      · subst hi0
        obtain ⟨hl0, hz⟩ := kept_first2 h h0 h1
        have hp0 := (treeB_yes h).2.2.2.2.2.1
        have hx0 := (treeB_yes hv).2.2.2.2.2.1
        rw [hx0, hz, pathT_out _ (by omega)]
        rw [show pAt t (0 : Int).toNat = -1 from hp0, pathT_out _ (by omega)]
        rfl
      · obtain ⟨j, hj, hji, hpe, hje, -⟩ := pr_up h h0 h1 hi hi0
        rw [hpe, prune_path h h0 h1 m j hj (by omega), hje]
    · simp only [List.map_cons, List.map_nil, Int.toNat_natCast, hgd]
/-- the store after a kept block is the same -/
theorem prune_store (h : treeB t = true) (h0 : 0 ≤ n) (h1 : n < t.blocks.length) {i : Nat} (hi : i < (keptL t n).length) : storeT (pruneT t n) (i : Int) = storeT t (keptL t n)[i] := by
  obtain ⟨e1, e2, e3⟩ := pr_len h h0 h1
  have hv := prune_valid h h0 h1
  have hk := (kept_iff h h0 h1).1 (List.getElem_mem hi)
  rw [storeT_yes hv (inB_true.2 (by omega)), storeT_yes h (inB_true.2 (by omega)), ← prune_path h h0 h1 (i + 1) i hi (by omega)]
  unfold afterV
  rw [e3, List.foldl_map]
  congr 1
  have key : ∀ (ps : List Int) (v : List Int), (∀ p ∈ ps, 0 ≤ p ∧ p < (pruneT t n).blocks.length) → ps.foldl (fun v k => runAllV v (bAt (pruneT t n) k.toNat).list) v = ps.foldl (fun v k => runAllV v (bAt t ((keptL t n).getD k.toNat 0).toNat).list) v := by
    intro ps
    induction ps with
    | nil => intro v _; rfl
    | cons p ps ih =>
      intro v hp
      have h2 := hp p (by simp)
      have h3 : p.toNat < (keptL t n).length := by omega
      simp only [List.foldl_cons]
      rw [ih _ fun q hq => hp q (by simp [hq]), pr_b h h0 h1 h3]
      congr 4
      rw [List.getD_eq_getElem?_getD, List.getElem?_eq_getElem h3]
      rfl
  exact key _ _ fun p hp => pathT_mem hp
end
end Go.Proofs.YtefdhlfljpppfaaGreat
namespace Go.Proofs.YtefdhlfljpppfaaGreat
open Go.RowKit
set_option linter.unusedVariables false
set_option linter.unusedSimpArgs false

set_option maxRecDepth 100000 in
set_option maxHeartbeats 2000000 in
theorem sameB_law (x y : Bk) (A : Option Addr) (c : Nat) (B : Option Addr) (d : Nat) (w : World) (h : Rd w A (x.list.flatMap encA)) (k : Rd w B (y.list.flatMap encA)) (hb : x.list.length ≤ 4611686018427387904) (hb2 : y.list.length ≤ 4611686018427387904) :
    Calls Tryz.prog 62 #[.agg #[.int .i64 x.before, .int .i64 x.height, .int .i64 x.view, .slice A x.list.length c, .int .i64 x.root, .int .i64 x.eff], .agg #[.int .i64 y.before, .int .i64 y.height, .int .i64 y.view, .slice B y.list.length d, .int .i64 y.root, .int .i64 y.eff]] w fun e w' => e = .returned (.bool (decide (x = y))) ∧ Below w.heap.size w w' := by
  have hB : Below w.heap.size w ((w.alloc (.cells #[.int .i64 x.before, .int .i64 x.height, .int .i64 x.view, .slice A x.list.length c, .int .i64 x.root, .int .i64 x.eff] 50)).alloc (.cells #[.int .i64 y.before, .int .i64 y.height, .int .i64 y.view, .slice B y.list.length d, .int .i64 y.root, .int .i64 y.eff] 50)) := ((Below.refl _ _).alloc (Nat.le_refl _) _).alloc (by simp) _
  have K0 := (Blk.new w 50 #[.int .i64 x.before, .int .i64 x.height, .int .i64 x.view, .slice A x.list.length c, .int .i64 x.root, .int .i64 x.eff]).alloc (.cells #[.int .i64 y.before, .int .i64 y.height, .int .i64 y.view, .slice B y.list.length d, .int .i64 y.root, .int .i64 y.eff] 50)
  have K1 := Blk.new (w.alloc (.cells #[.int .i64 x.before, .int .i64 x.height, .int .i64 x.view, .slice A x.list.length c, .int .i64 x.root, .int .i64 x.eff] 50)) 50 #[.int .i64 y.before, .int .i64 y.height, .int .i64 y.view, .slice B y.list.length d, .int .i64 y.root, .int .i64 y.eff]
  simp only [World.size_alloc] at K1
  by_cases e0 : x.before = y.before
  rotate_left
  · have HE := hide (show ¬ x = y from fun h => e0 (by rw [h]))
    have g0 : (x.before == y.before) = false := by simpa using e0
    have n0 : (x.before != y.before) = true := by simpa using e0
    clear e0
    go_enter Tryz.func62, Tryz.ntmps62
    go_wp2
    go_ret
    exact ⟨retb (decide_eq_false (unhide HE)).symm, hB⟩
  have H0 := hide e0
  have g0 : (x.before == y.before) = true := by simpa using e0
  have n0 : (x.before != y.before) = false := by simpa using e0
  clear e0
  by_cases e1 : x.height = y.height
  rotate_left
  · have HE := hide (show ¬ x = y from fun h => e1 (by rw [h]))
    have g1 : (x.height == y.height) = false := by simpa using e1
    have n1 : (x.height != y.height) = true := by simpa using e1
    clear e1
    go_enter Tryz.func62, Tryz.ntmps62
    go_wp2
    go_ret
    exact ⟨retb (decide_eq_false (unhide HE)).symm, hB⟩
  have H1 := hide e1
  have g1 : (x.height == y.height) = true := by simpa using e1
  have n1 : (x.height != y.height) = false := by simpa using e1
  clear e1
  by_cases e2 : x.view = y.view
  rotate_left
  · have HE := hide (show ¬ x = y from fun h => e2 (by rw [h]))
    have g2 : (x.view == y.view) = false := by simpa using e2
    have n2 : (x.view != y.view) = true := by simpa using e2
    clear e2
    go_enter Tryz.func62, Tryz.ntmps62
    go_wp2
    go_ret
    exact ⟨retb (decide_eq_false (unhide HE)).symm, hB⟩
  have H2 := hide e2
  have g2 : (x.view == y.view) = true := by simpa using e2
  have n2 : (x.view != y.view) = false := by simpa using e2
  clear e2
  by_cases e3 : x.root = y.root
  rotate_left
  · have HE := hide (show ¬ x = y from fun h => e3 (by rw [h]))
    have g3 : (x.root == y.root) = false := by simpa using e3
    have n3 : (x.root != y.root) = true := by simpa using e3
    clear e3
    go_enter Tryz.func62, Tryz.ntmps62
    go_wp2
    go_ret
    exact ⟨retb (decide_eq_false (unhide HE)).symm, hB⟩
  have H3 := hide e3
  have g3 : (x.root == y.root) = true := by simpa using e3
  have n3 : (x.root != y.root) = false := by simpa using e3
  clear e3
  by_cases e4 : x.eff = y.eff
  rotate_left
  · have HE := hide (show ¬ x = y from fun h => e4 (by rw [h]))
    have g4 : (x.eff == y.eff) = false := by simpa using e4
    have n4 : (x.eff != y.eff) = true := by simpa using e4
    clear e4
    go_enter Tryz.func62, Tryz.ntmps62
    go_wp2
    go_ret
    exact ⟨retb (decide_eq_false (unhide HE)).symm, hB⟩
  have H4 := hide e4
  have g4 : (x.eff == y.eff) = true := by simpa using e4
  have n4 : (x.eff != y.eff) = false := by simpa using e4
  clear e4
  by_cases hl : x.list.length = y.list.length
  rotate_left
  · have HE := hide (show ¬ x = y from fun h => hl (by rw [h]))
    have g6 : ((x.list.length : Int) != (y.list.length : Int)) = true := by simp; omega
    clear hl
    go_enter Tryz.func62, Tryz.ntmps62
    go_wp2
    go_ret
    exact ⟨retb (decide_eq_false (unhide HE)).symm, hB⟩
  have g6 : ((x.list.length : Int) != (y.list.length : Int)) = false := by simp [hl]
  have HL := hide hl
  have hl1 : x.list.length ≤ y.list.length := by omega
  clear hl
  go_enter Tryz.func62, Tryz.ntmps62
  go_wp2
  obtain ⟨W, hW⟩ : ∃ W : World, W = ((w.alloc (.cells #[.int .i64 x.before, .int .i64 x.height, .int .i64 x.view, .slice A x.list.length c, .int .i64 x.root, .int .i64 x.eff] 50)).alloc (.cells #[.int .i64 y.before, .int .i64 y.height, .int .i64 y.view, .slice B y.list.length d, .int .i64 y.root, .int .i64 y.eff] 50)) := ⟨_, rfl⟩
  rw [← hW] at hB K0 K1
  rw [← hW]
  clear hW
  go_loopw [5] (fun i wr => ∃ k : Nat, k ≤ x.list.length ∧ i = .int .i64 k ∧ (∀ j (h1 : j < x.list.length) (h2 : j < y.list.length), j < k → x.list[j] = y.list[j]) ∧ ∃ m, W.drewN m = wr) (fun i _ => x.list.length - (intOf i).toNat)
  case atStart => exact ⟨0, Nat.zero_le _, rfl, fun j _ _ h => absurd h (by omega), 0, rfl⟩
  case round =>
    obtain ⟨k', hk, rfl, hsame, m, rfl⟩ := hrel
    have HS := hide hsame
    clear hsame
    have x3 : W.cell? ⟨w.heap.size, 3, none⟩ = some (.slice A x.list.length c) := K0.cell 3
    have y3 : W.cell? ⟨w.heap.size + 1, 3, none⟩ = some (.slice B y.list.length d) := K1.cell 3
    by_cases hlt : k' < x.list.length
    · have hlt2 : k' < y.list.length := by omega
      obtain ⟨b, off, rfl, hbb, c0, c1, c2, c3⟩ := (h.new hB).act hlt
      obtain ⟨b', off', rfl, hbb', d0, d1, d2, d3⟩ := (k.new hB).act hlt2
      generalize hxk : x.list[k'] = xk at *
      generalize hyk : y.list[k'] = yk at *
      have HX := hide hxk
      have HY := hide hyk
      clear hxk hyk
      have i1 : (k' : Int) < (x.list.length : Int) := by omega
      have i2 : (k' : Int) < (y.list.length : Int) := by omega
      have e0 := eqIn_actB xk yk
      have e1 := hm_actB
      by_cases he : xk = yk
      · have e2 : decide (xk = yk) = true := by simpa using he
        have HE := hide he
        clear he
        rw [e2] at e0
        clear e2
        go_wp2
        go_quiet (fail)
        go_wp2
        go_roundw
        case rel =>
          refine ⟨k' + 1, by omega, by go_num, fun j h1 h2 h3 => ?_, m + nq, rfl⟩
          rcases Nat.lt_or_ge j k' with h4 | h4
          · exact unhide HS j h1 h2 h4
          · have : j = k' := by omega
            subst this
            rw [unhide HX, unhide HY]
            exact unhide HE
        case measure => simp [intOf]; omega
      · have e2 : decide (xk = yk) = false := by simpa using he
        have HR := hide (show decide (x = y) = false by
          rw [decide_eq_false_iff_not]
          intro hh
          apply he
          subst hh
          rw [← unhide HX, ← unhide HY])
        clear he
        rw [e2] at e0
        clear e2
        go_wp2
        go_quiet (fail)
        go_wp2
        go_ret
        exact ⟨retb (unhide HR).symm, by first | exact below_drewN (below_drewN hB m) _ | exact below_drewN hB _⟩
    · have HR := hide (show decide (x = y) = true by
        rw [decide_eq_true_eq]
        exact bk_ext (unhide H0) (unhide H1) (unhide H2) (List.ext_getElem (unhide HL) fun j h1 h2 => unhide HS j h1 h2 (by omega)) (unhide H3) (unhide H4))
      go_wp2
      go_ret
      exact ⟨retb (unhide HR).symm, below_drewN hB m⟩
set_option maxRecDepth 100000 in
set_option maxHeartbeats 4000000 in
theorem sameTree_eq (t : Tr) (A1 : Option Addr) (c1 : Nat) (A2 : Option Addr) (c2 : Nat) (A3 : Option Addr) (c3 : Nat) (B1 : Option Addr) (d1 : Nat) (B2 : Option Addr) (d2 : Nat) (B3 : Option Addr) (d3 : Nat) (w : World) (h : TrR w t A1 A2 A3) (g : TrR w t B1 B2 B3) (hb1 : t.base.length ≤ 1099511627776) (hb2 : t.blocks.length ≤ 1099511627776) (hbs : ∀ x ∈ t.blocks, x.list.length ≤ 1099511627776) (hb3 : t.before.length ≤ 1099511627776) :
    Calls Tryz.prog 25 #[.agg (trA t A1 c1 A2 c2 A3 c3), .agg (trA t B1 d1 B2 d2 B3 d3)] w fun e w' => e = .returned (.bool true) ∧ Below w.heap.size w w' := by
  have HBS := hide hbs
  clear hbs
  have hb0 : Below w.heap.size w ((w.alloc (.cells (trA t A1 c1 A2 c2 A3 c3) 27)).alloc (.cells (trA t B1 d1 B2 d2 B3 d3) 27)) := ((Below.refl _ _).alloc (Nat.le_refl _) _).alloc (by simp) _
  have k0 := (Blk.new w 27 (trA t A1 c1 A2 c2 A3 c3)).alloc (.cells (trA t B1 d1 B2 d2 B3 d3) 27)
  have k1 : Blk ((w.alloc (.cells (trA t A1 c1 A2 c2 A3 c3) 27)).alloc (.cells (trA t B1 d1 B2 d2 B3 d3) 27)) (w.heap.size + 1) 27 (trA t B1 d1 B2 d2 B3 d3) := by
    have := Blk.new (w.alloc (.cells (trA t A1 c1 A2 c2 A3 c3) 27)) 27 (trA t B1 d1 B2 d2 B3 d3)
    simpa using this
  have h0 := h.new hb0
  have g0 := g.new hb0
  simp only [trA] at k0 k1 hb0 h0 g0 ⊢
  go_enter Tryz.func25, Tryz.ntmps25
  obtain ⟨W, hW⟩ : ∃ W : World, W = ((w.alloc (.cells #[.slice A1 t.base.length c1, .slice A2 t.blocks.length c2, .slice A3 t.before.length c3] 27)).alloc (.cells #[.slice B1 t.base.length d1, .slice B2 t.blocks.length d2, .slice B3 t.before.length d3] 27)) := ⟨_, rfl⟩
  rw [← hW] at k0 k1 hb0 h0 g0
  have hl1 := k1.lt
  have hl0 := k0.lt
  have HX := hide (fun (w' : World) (hb : Below W.heap.size W w') => show (w'.cell? ⟨w.heap.size, 0, none⟩ = some (.slice A1 t.base.length c1) ∧ w'.cell? ⟨w.heap.size, 1, none⟩ = some (.slice A2 t.blocks.length c2) ∧ w'.cell? ⟨w.heap.size, 2, none⟩ = some (.slice A3 t.before.length c3)) ∧ (w'.cell? ⟨w.heap.size + 1, 0, none⟩ = some (.slice B1 t.base.length d1) ∧ w'.cell? ⟨w.heap.size + 1, 1, none⟩ = some (.slice B2 t.blocks.length d2) ∧ w'.cell? ⟨w.heap.size + 1, 2, none⟩ = some (.slice B3 t.before.length d3)) from ⟨⟨(k0.new_ hb).cell 0, (k0.new_ hb).cell 1, (k0.new_ hb).cell 2⟩, ⟨(k1.new_ hb).cell 0, (k1.new_ hb).cell 1, (k1.new_ hb).cell 2⟩⟩)
  clear k0 k1 h g
  obtain ⟨⟨x0, x1, x2⟩, ⟨y0, y1, y2⟩⟩ := unhide HX W (Below.refl _ _)
  rw [hW] at x0 x1 x2 y0 y1 y2
  go_wp2_with fail
  rw [← hW]
  clear x0 x1 x2 y0 y1 y2
  have HW := hide hW
  clear hW
  refine (sameStore_any A1 B1 c1 d1 t.base t.base W h0.b1 g0.b1 (by omega)).mono ?_
  rintro e w' ⟨rfl, m, rfl⟩
  rw [show decide (t.base = t.base) = true by simp]
  have b1 := below_drewN (Below.refl W.heap.size W) m
  generalize W.drewN m = w1 at *
  obtain ⟨⟨x0, x1, x2⟩, ⟨y0, y1, y2⟩⟩ := unhide HX w1 b1
  go_wp2_with fail
  refine (sameInts_any A3 B3 c3 d3 t.before t.before w1 (h0.new b1).b3 (g0.new b1).b3 (by omega)).mono ?_
  rintro e w' ⟨rfl, m, rfl⟩
  rw [show decide (t.before = t.before) = true by simp]
  have b2 := below_drewN b1 m
  clear x0 x1 x2 y0 y1 y2 b1
  generalize w1.drewN m = w2 at *
  clear w1
  obtain ⟨⟨x0, x1, x2⟩, ⟨y0, y1, y2⟩⟩ := unhide HX w2 b2
  have hnn : ((t.blocks.length : Int) != (t.blocks.length : Int)) = false := by simp
  go_wp2
  clear x0 x1 x2 y0 y1 y2 hnn
  go_loopw [5] (fun i wr => ∃ (k : Nat), k ≤ t.blocks.length ∧ i = .int .i64 k ∧ Below W.heap.size W wr) (fun i _ => t.blocks.length - (intOf i).toNat)
  case atStart => exact ⟨0, Nat.zero_le _, rfl, b2⟩
  case round =>
    clear b2
    obtain ⟨k, hk, rfl, bk⟩ := hrel
    obtain ⟨⟨x0, x1, x2⟩, ⟨y0, y1, y2⟩⟩ := unhide HX wr bk
    by_cases hlt : k < t.blocks.length
    · have i1 : (k : Int) < (t.blocks.length : Int) := by omega
      obtain ⟨ba, oa, L1, e1, hA2, -, hab, a0, a1, a2, a3, a4, a5, -, r1⟩ := (h0.new bk).b2.bk hlt
      obtain ⟨bb, ob, L2, e2, hB2, -, hbb, z0, z1, z2, z3, z4, z5, -, r2⟩ := (g0.new bk).b2.bk hlt
      have hxl := unhide HBS _ (List.getElem_mem hlt)
      generalize t.blocks[k] = x at *
      have HA2 := hide hA2
      have HB2 := hide hB2
      have HY := hide (fun (w' : World) (hb : Below wr.heap.size wr w') => show (w'.cell? ⟨ba, oa + k * 6, none⟩ = some (.int .i64 x.before) ∧ w'.cell? ⟨ba, oa + k * 6 + 1, none⟩ = some (.int .i64 x.height) ∧ w'.cell? ⟨ba, oa + k * 6 + 2, none⟩ = some (.int .i64 x.view) ∧ w'.cell? ⟨ba, oa + k * 6 + 3, none⟩ = some (.slice L1 x.list.length e1) ∧ w'.cell? ⟨ba, oa + k * 6 + 4, none⟩ = some (.int .i64 x.root) ∧ w'.cell? ⟨ba, oa + k * 6 + 5, none⟩ = some (.int .i64 x.eff)) ∧ (w'.cell? ⟨bb, ob + k * 6, none⟩ = some (.int .i64 x.before) ∧ w'.cell? ⟨bb, ob + k * 6 + 1, none⟩ = some (.int .i64 x.height) ∧ w'.cell? ⟨bb, ob + k * 6 + 2, none⟩ = some (.int .i64 x.view) ∧ w'.cell? ⟨bb, ob + k * 6 + 3, none⟩ = some (.slice L2 x.list.length e2) ∧ w'.cell? ⟨bb, ob + k * 6 + 4, none⟩ = some (.int .i64 x.root) ∧ w'.cell? ⟨bb, ob + k * 6 + 5, none⟩ = some (.int .i64 x.eff)) ∧ (Rd w' L1 (x.list.flatMap encA) ∧ Rd w' L2 (x.list.flatMap encA)) from
        ⟨⟨(hb.cell (p := ⟨ba, oa + k * 6, none⟩) hab).trans a0, (hb.cell (p := ⟨ba, oa + k * 6 + 1, none⟩) hab).trans a1, (hb.cell (p := ⟨ba, oa + k * 6 + 2, none⟩) hab).trans a2, (hb.cell (p := ⟨ba, oa + k * 6 + 3, none⟩) hab).trans a3, (hb.cell (p := ⟨ba, oa + k * 6 + 4, none⟩) hab).trans a4, (hb.cell (p := ⟨ba, oa + k * 6 + 5, none⟩) hab).trans a5⟩, ⟨(hb.cell (p := ⟨bb, ob + k * 6, none⟩) hbb).trans z0, (hb.cell (p := ⟨bb, ob + k * 6 + 1, none⟩) hbb).trans z1, (hb.cell (p := ⟨bb, ob + k * 6 + 2, none⟩) hbb).trans z2, (hb.cell (p := ⟨bb, ob + k * 6 + 3, none⟩) hbb).trans z3, (hb.cell (p := ⟨bb, ob + k * 6 + 4, none⟩) hbb).trans z4, (hb.cell (p := ⟨bb, ob + k * 6 + 5, none⟩) hbb).trans z5⟩, Rd.new (RdP.rd r1) hb, Rd.new (RdP.rd r2) hb⟩)
      clear hA2 hB2 a0 a1 a2 a3 a4 a5 z0 z1 z2 z3 z4 z5 r1 r2
      go_upto_region 6 with fail
      clear x0 x1 x2 y0 y1 y2
      have hF : StBL [bV (.pointer (some ⟨w.heap.size, 1, none⟩)), bV (.slice A2 t.blocks.length c2), bV (.int .i64 (k : Int)), bV (.pointer (some ⟨ba, oa + k * 6, none⟩)), bV (.agg #[.int .i64 x.before, .int .i64 x.height, .int .i64 x.view, .slice L1 x.list.length e1, .int .i64 x.root, .int .i64 x.eff]), bV (.pointer (some ⟨w.heap.size + 1, 1, none⟩)), bV (.slice B2 t.blocks.length d2), bV (.int .i64 (k : Int)), bV (.pointer (some ⟨bb, ob + k * 6, none⟩)), bV (.agg #[.int .i64 x.before, .int .i64 x.height, .int .i64 x.view, .slice L2 x.list.length e2, .int .i64 x.root, .int .i64 x.eff])] :=
        ⟨sb_V _, sb_V _, sb_V _, sb_V _, sb_V _, sb_V _, sb_V _, sb_V _, sb_V _, sb_V _, trivial⟩
      refine wp_region_loc (by kernel_rfl) [(0, some 36), (1, some 37), (2, some 38), (3, some 39), (4, some 40), (5, some 41), (6, some 42), (7, some 43), (8, some 44), (9, some 45)] [[], [(0, some 36)], [], [(1, some 37), (2, some 38)], [(3, some 39)], [], [(5, some 41)], [], [(6, some 42), (7, some 43)], [(8, some 44)]] (by kernel_rfl)
        (locB _) (fun a b => Below a.heap.size a b) noR [0, 0, 0, 0, 0, 0, 0, 0, 0, 0] 0 (by kernel_rfl) (fun _ => Below.refl _ _) (fun _ _ _ => bthen) (locB_st hF _) trivial ?_ ?_
      · refine steps_cons ?s0 ( steps_cons ?s1 ( steps_cons ?s2 ( steps_cons ?s3 ( steps_cons ?s4 ( steps_cons ?s5 ( steps_cons ?s6 ( steps_cons ?s7 ( steps_cons ?s8 ( steps_cons ?s9 steps_nil)))))))))
        case s0 =>
          intro w' m' hE hR
          intro Q hQ
          go_wp2
          exact hQ _ _ _ rfl rfl (Below.refl _ _) trivial
        case s1 =>
          intro w' m' hE hR
          rintro _ rfl Q hQ
          obtain ⟨⟨x0, x1, x2⟩, ⟨y0, y1, y2⟩⟩ := unhide HX w' (bthen bk (below_undrew hE))
          go_wp2
          exact hQ _ _ _ rfl rfl (Below.refl _ _) trivial
        case s2 =>
          intro w' m' hE hR
          intro Q hQ
          go_wp2
          exact hQ _ _ _ rfl rfl (Below.refl _ _) trivial
        case s3 =>
          intro w' m' hE hR
          rintro _ rfl _ rfl Q hQ
          obtain rfl := unhide HA2
          go_wp2
          exact hQ _ _ _ rfl rfl (Below.refl _ _) trivial
        case s4 =>
          intro w' m' hE hR
          rintro _ rfl Q hQ
          obtain ⟨⟨a0, a1, a2, a3, a4, a5⟩, ⟨z0, z1, z2, z3, z4, z5⟩, -⟩ := unhide HY w' (below_undrew hE)
          go_wp2
          exact hQ _ _ _ rfl rfl (Below.refl _ _) trivial
        case s5 =>
          intro w' m' hE hR
          intro Q hQ
          go_wp2
          exact hQ _ _ _ rfl rfl (Below.refl _ _) trivial
        case s6 =>
          intro w' m' hE hR
          rintro _ rfl Q hQ
          obtain ⟨⟨x0, x1, x2⟩, ⟨y0, y1, y2⟩⟩ := unhide HX w' (bthen bk (below_undrew hE))
          go_wp2
          exact hQ _ _ _ rfl rfl (Below.refl _ _) trivial
        case s7 =>
          intro w' m' hE hR
          intro Q hQ
          go_wp2
          exact hQ _ _ _ rfl rfl (Below.refl _ _) trivial
        case s8 =>
          intro w' m' hE hR
          rintro _ rfl _ rfl Q hQ
          obtain rfl := unhide HB2
          go_wp2
          exact hQ _ _ _ rfl rfl (Below.refl _ _) trivial
        case s9 =>
          intro w' m' hE hR
          rintro _ rfl Q hQ
          obtain ⟨⟨a0, a1, a2, a3, a4, a5⟩, ⟨z0, z1, z2, z3, z4, z5⟩, -⟩ := unhide HY w' (below_undrew hE)
          go_wp2
          exact hQ _ _ _ rfl rfl (Below.refl _ _) trivial
      intro w9 hE _
      rintro v0 - v1 - v2 - v3 - v4 hv4 v5 - v6 - v7 - v8 - v9 hv9
      obtain rfl : v4 = _ := hv4
      obtain rfl : v9 = _ := hv9
      change wpList _ _ _ [_, _] _ _
      simp only [Act.put, List.setIfInBounds_toArray, List.set_cons_succ, List.set_cons_zero]
      have b9 := below_undrew hE
      clear hE hF
      obtain ⟨-, -, r1, r2⟩ := unhide HY w9 b9
      go_wp2_with fail
      refine (sameB_law x x L1 e1 L2 e2 w9 r1 r2 (by omega) (by omega)).mono ?_
      rintro e w10 ⟨rfl, b10⟩
      rw [show decide (x = x) = true by simp]
      have b11 := bthen bk (bthen b9 b10)
      go_wp2
      go_roundw
      case rel => exact ⟨k + 1, by omega, by go_num, b11⟩
      case measure => simp [intOf]; omega
    · obtain rfl : k = t.blocks.length := by omega
      go_wp2
      go_ret
      exact ⟨rfl, bthen hb0 bk⟩
end Go.Proofs.YtefdhlfljpppfaaGreat
namespace Go.Proofs.YtefdhlfljpppfaaGreat
open Go.RowKit
set_option linter.unusedVariables false
set_option linter.unusedSimpArgs false

def beforeB (t : Tr) (a b : Int) : Bool := decide (a ∈ pathS t b)
set_option maxRecDepth 100000 in
set_option maxHeartbeats 4000000 in
theorem isBefore_impl (t : Tr) (A1 : Option Addr) (c1 : Nat) (A2 : Option Addr) (c2 : Nat) (A3 : Option Addr) (c3 : Nat) (a b : Int) (w : World) (h : TrR w t A1 A2 A3) (hb1 : t.base.length ≤ 1099511627776) (hb2 : t.blocks.length ≤ 1099511627776) (hbs : ∀ x ∈ t.blocks, x.list.length ≤ 1099511627776) (hb3 : t.before.length ≤ 1099511627776) :
    Calls Tryz.prog 30 #[.agg (trA t A1 c1 A2 c2 A3 c3), .int .i64 a, .int .i64 b] w fun e w' => e = .returned (.bool (beforeB t a b)) ∧ Below w.heap.size w w' := by
  have hb0 : Below w.heap.size w (w.alloc (.cells (trA t A1 c1 A2 c2 A3 c3) 27)) := (Below.refl _ _).alloc (Nat.le_refl _) _
  have k0 := Blk.new w 27 (trA t A1 c1 A2 c2 A3 c3)
  have HR := hide (fun w' (hb : Below w.heap.size w w') => h.new hb)
  have KV := treeValid_impl t A1 c1 A2 c2 A3 c3 _ (h.new hb0) hb1 hb2 hbs hb3
  have HKA := hide (fun w' => has_impl t A1 c1 A2 c2 A3 c3 a w' hb2)
  have HKB := hide (fun w' => has_impl t A1 c1 A2 c2 A3 c3 b w' hb2)
  have HKP := hide (fun w' (hb : Below w.heap.size w w') => path_impl t A1 c1 A2 c2 A3 c3 b w' (h.new hb))
  simp only [trA] at KV HKA HKB HKP hb0 k0 ⊢
  have x0 : (w.alloc (.cells #[.slice A1 t.base.length c1, .slice A2 t.blocks.length c2, .slice A3 t.before.length c3] 27)).cell? ⟨w.heap.size, 0, none⟩ = some (.slice A1 t.base.length c1) := k0.cell 0
  have x1 : (w.alloc (.cells #[.slice A1 t.base.length c1, .slice A2 t.blocks.length c2, .slice A3 t.before.length c3] 27)).cell? ⟨w.heap.size, 1, none⟩ = some (.slice A2 t.blocks.length c2) := k0.cell 1
  have x2 : (w.alloc (.cells #[.slice A1 t.base.length c1, .slice A2 t.blocks.length c2, .slice A3 t.before.length c3] 27)).cell? ⟨w.heap.size, 2, none⟩ = some (.slice A3 t.before.length c3) := k0.cell 2
  clear hbs h
  go_enter Tryz.func30, Tryz.ntmps30
  go_wp2_with fail
  refine KV.mono ?_
  rintro e w1 ⟨rfl, b1⟩
  replace k0 := k0.new_ b1
  replace hb0 := bthen hb0 b1
  clear KV x0 x1 x2 b1
  have x0 : w1.cell? ⟨w.heap.size, 0, none⟩ = some (.slice A1 t.base.length c1) := k0.cell 0
  have x1 : w1.cell? ⟨w.heap.size, 1, none⟩ = some (.slice A2 t.blocks.length c2) := k0.cell 1
  have x2 : w1.cell? ⟨w.heap.size, 2, none⟩ = some (.slice A3 t.before.length c3) := k0.cell 2
  cases hv : treeB t
  · have HF := hide (show false = beforeB t a b by simp [beforeB, pathS, hv])
    clear hv
    go_wp2
    go_ret
    exact ⟨retb (unhide HF), hb0⟩
  have HV := hide hv
  go_wp2_with fail
  refine (unhide HKA w1).mono ?_
  rintro e w2 ⟨rfl, b2⟩
  replace k0 := k0.new_ b2
  replace hb0 := bthen hb0 b2
  clear x0 x1 x2 b2
  have x0 : w2.cell? ⟨w.heap.size, 0, none⟩ = some (.slice A1 t.base.length c1) := k0.cell 0
  have x1 : w2.cell? ⟨w.heap.size, 1, none⟩ = some (.slice A2 t.blocks.length c2) := k0.cell 1
  have x2 : w2.cell? ⟨w.heap.size, 2, none⟩ = some (.slice A3 t.before.length c3) := k0.cell 2
  cases ha : inB a 0 ((t.blocks.length : Int) - 1)
  · have HF := hide (show false = beforeB t a b by
      refine (decide_eq_false fun hm => ?_).symm
      have := (pathS_mem hm).2
      have := inB_false.1 ha
      omega)
    clear hv ha
    go_wp2
    go_ret
    exact ⟨retb (unhide HF), hb0⟩
  clear ha
  go_wp2_with fail
  refine (unhide HKB w2).mono ?_
  rintro e w3 ⟨rfl, b3⟩
  replace k0 := k0.new_ b3
  replace hb0 := bthen hb0 b3
  clear x0 x1 x2 b3
  have x0 : w3.cell? ⟨w.heap.size, 0, none⟩ = some (.slice A1 t.base.length c1) := k0.cell 0
  have x1 : w3.cell? ⟨w.heap.size, 1, none⟩ = some (.slice A2 t.blocks.length c2) := k0.cell 1
  have x2 : w3.cell? ⟨w.heap.size, 2, none⟩ = some (.slice A3 t.before.length c3) := k0.cell 2
  cases hbi : inB b 0 ((t.blocks.length : Int) - 1)
  · have HF := hide (show false = beforeB t a b by
      refine (decide_eq_false fun hm => ?_).symm
      rw [pathS, if_pos (unhide HV)] at hm
      have := path_ne hm
      have := inB_false.1 hbi
      omega)
    clear hv hbi
    go_wp2
    go_ret
    exact ⟨retb (unhide HF), hb0⟩
  have hbr := inB_true.1 hbi
  clear hbi hv
  go_wp2_with fail
  refine (unhide HKP w3 hb0 (unhide HV) (by omega) (by omega)).mono ?_
  rintro e w4 ⟨AP, cp, rfl, o4, b4⟩
  have hpl := pathT_len t b
  have rp := own_rd o4
  have hb4 := bthen hb0 b4
  have HF := hide (show decide (a ∈ pathT t b) = beforeB t a b by rw [beforeB, pathS, if_pos (unhide HV)])
  clear x0 x1 x2 o4
  generalize pathT t b = ps at *
  go_wp2_with fail
  refine (containsI_any AP cp ps a w4 rp (by omega)).mono ?_
  rintro e w5 ⟨rfl, rfl⟩
  go_wp2
  go_ret
  exact ⟨retb (unhide HF), hb4⟩
set_option maxRecDepth 100000 in
set_option maxHeartbeats 4000000 in
theorem leavesOf_impl (t : Tr) (A1 : Option Addr) (c1 : Nat) (A2 : Option Addr) (c2 : Nat) (A3 : Option Addr) (c3 : Nat) (w : World) (h : TrR w t A1 A2 A3) (hb1 : t.base.length ≤ 1099511627776) (hb2 : t.blocks.length ≤ 1099511627776) (hbs : ∀ x ∈ t.blocks, x.list.length ≤ 1099511627776) (hb3 : t.before.length ≤ 1099511627776) :
    Calls Tryz.prog 29 #[.agg (trA t A1 c1 A2 c2 A3 c3)] w fun e w' => ∃ A' c', e = .returned (.slice A' (leavesL t).length c') ∧ w'.ownsRow w.heap.size 3 1 (.slice A' (leavesL t).length c') (leavesL t).length ((leavesL t).map (.int .i64)) ∧ Below w.heap.size w w' := by
  have hb0 : Below w.heap.size w (w.alloc (.cells (trA t A1 c1 A2 c2 A3 c3) 27)) := (Below.refl _ _).alloc (Nat.le_refl _) _
  have k0 := Blk.new w 27 (trA t A1 c1 A2 c2 A3 c3)
  have HR := hide (fun w' (hb : Below w.heap.size w w') => h.new hb)
  have KV := treeValid_impl t A1 c1 A2 c2 A3 c3 _ (h.new hb0) hb1 hb2 hbs hb3
  simp only [trA] at KV hb0 k0 ⊢
  have x0 : (w.alloc (.cells #[.slice A1 t.base.length c1, .slice A2 t.blocks.length c2, .slice A3 t.before.length c3] 27)).cell? ⟨w.heap.size, 0, none⟩ = some (.slice A1 t.base.length c1) := k0.cell 0
  have x1 : (w.alloc (.cells #[.slice A1 t.base.length c1, .slice A2 t.blocks.length c2, .slice A3 t.before.length c3] 27)).cell? ⟨w.heap.size, 1, none⟩ = some (.slice A2 t.blocks.length c2) := k0.cell 1
  have x2 : (w.alloc (.cells #[.slice A1 t.base.length c1, .slice A2 t.blocks.length c2, .slice A3 t.before.length c3] 27)).cell? ⟨w.heap.size, 2, none⟩ = some (.slice A3 t.before.length c3) := k0.cell 2
  clear hbs h
  go_enter Tryz.func29, Tryz.ntmps29
  go_wp2_with fail
  refine KV.mono ?_
  rintro e w1 ⟨rfl, b1⟩
  replace k0 := k0.new_ b1
  replace hb0 := bthen hb0 b1
  clear KV x0 x1 x2 b1
  have x1 : w1.cell? ⟨w.heap.size, 1, none⟩ = some (.slice A2 t.blocks.length c2) := k0.cell 1
  cases hv : treeB t
  · have HF := hide (leavesL_no hv)
    clear hv
    go_wp2
    go_ret
    rw [unhide HF]
    exact ⟨none, 0, rfl, own_nil _ _ _ _, hb0⟩
  have HF := hide (leavesL_yes hv)
  have HV := hide hv
  clear hv
  have hsz := hb0.size
  go_wp2
  clear x1
  go_loopw [3, 4, 11] (fun s _ i wr => ∃ (k : Nat) (A' : Option Addr) (c' : Nat), k ≤ t.blocks.length ∧ i = .int .i64 k ∧ s = .slice A' (leavesGo t k).length c' ∧ wr.ownsRow w.heap.size 3 1 (.slice A' (leavesGo t k).length c') (leavesGo t k).length ((leavesGo t k).map (.int .i64)) ∧ Below w.heap.size w wr ∧ Blk wr w.heap.size 27 #[.slice A1 t.base.length c1, .slice A2 t.blocks.length c2, .slice A3 t.before.length c3] ∧ (∀ q, A' = some ⟨q, 0, none⟩ → q ≠ w.heap.size)) (fun _ _ i _ => t.blocks.length - (intOf i).toNat)
  case atStart => exact ⟨0, none, 0, Nat.zero_le _, rfl, rfl, own_nil _ _ _ _, hb0, k0, fun q e => nomatch e⟩
  case round =>
    clear k0 hb0
    obtain ⟨k, A', c', hk, rfl, rfl, hown, hB, k0, hne⟩ := hrel
    have hszr := hB.size
    have hgl := leavesGo_len t k
    by_cases hlt : k < t.blocks.length
    · have i1 : (k : Int) < (t.blocks.length : Int) := by omega
      have x2 : wr.cell? ⟨w.heap.size, 2, none⟩ = some (.slice A3 t.before.length c3) := k0.cell 2
      have hr := (unhide HR wr hB).b3
      go_wp2_with fail
      refine (containsI_any A3 c3 t.before (k : Int) wr hr (by omega)).mono ?_
      rintro e w5 ⟨rfl, rfl⟩
      by_cases hm : (k : Int) ∈ t.before
      · have hd : decide ((k : Int) ∈ t.before) = true := decide_eq_true hm
        have HG := hide (show leavesGo t (k + 1) = leavesGo t k by rw [leavesGo, if_pos hm])
        clear hm
        go_wp2
        go_roundw
        case rel => exact ⟨k + 1, A', c', by omega, by go_num, by rw [unhide HG], by rw [unhide HG]; exact hown, hB, k0, hne⟩
        case measure => simp [intOf]; omega
      · have hd : decide ((k : Int) ∈ t.before) = false := decide_eq_false hm
        have HG := hide (show leavesGo t (k + 1) = leavesGo t k ++ [(k : Int)] by rw [leavesGo, if_neg hm])
        clear hm
        go_wp2_with (at_builtin; refine wpList_app rfl (.tmp 19) (.tmp 21) 25 rfl el_int rfl (own_alloc hown _) rfl (rd_lit wr [.int .i64 (k : Int)] _) rfl (one_ints [(k : Int)]) (by simp only [maxLen]; omega) (by omega) (by simp; omega) ?_; intro A7 c7 w7 o7 ch7 d7 _)
        have k7 := (k0.alloc (.cells #[.int .i64 (k : Int)] 3)).chg ch7 (fun e => hne _ e rfl)
        have hB7 := app_below hB hown ch7 (Nat.le_refl _)
        have hne7 : ∀ q, A7 = some ⟨q, 0, none⟩ → q ≠ w.heap.size := fun q hq => by
          rcases d7 with rfl | ⟨rfl, _⟩
          · exact hne q hq
          · injection hq with hq; injection hq with hq; simp at hq; omega
        go_roundw
        case rel => exact ⟨k + 1, A7, c7, by omega, by go_num, by rw [unhide HG]; simp, by rw [unhide HG]; simpa using o7, hB7, k7, hne7⟩
        case measure => simp [intOf]; omega
    · obtain rfl : k = t.blocks.length := by omega
      go_wp2
      go_ret
      rw [unhide HF]
      exact ⟨A', c', rfl, hown, hB⟩
end Go.Proofs.YtefdhlfljpppfaaGreat
namespace Go.Proofs.YtefdhlfljpppfaaGreat
open Go.RowKit
set_option linter.unusedVariables false
set_option linter.unusedSimpArgs false

def findF (t : Tr) (z : Int) : Int := if treeB t = true ∧ 0 ≤ z then findB t.blocks z else -1
set_option maxRecDepth 100000 in
set_option maxHeartbeats 1000000 in
theorem findClosure (x : Bk) (L : Option Addr) (e gz : Nat) (z : Int) (w : World) (h : Rd w L (x.list.flatMap encA)) (hb : x.list.length ≤ 4611686018427387904) (hz : w.cell? ⟨gz, 0, none⟩ = some (.int .i64 z)) (hg : gz < w.heap.size) :
    Calls Tryz.prog 99 #[.agg #[.int .i64 x.before, .int .i64 x.height, .int .i64 x.view, .slice L x.list.length e, .int .i64 x.root, .int .i64 x.eff], .pointer (some ⟨gz, 0, none⟩)] w fun e w' => e = .returned (.bool (bsum x == z)) ∧ Below w.heap.size w w' := by
  have hb0 : Below w.heap.size w (w.alloc (.cells #[.int .i64 x.before, .int .i64 x.height, .int .i64 x.view, .slice L x.list.length e, .int .i64 x.root, .int .i64 x.eff] 50)) := (Below.refl _ _).alloc (Nat.le_refl _) _
  have k0 : Blk (w.alloc (.cells #[.int .i64 x.before, .int .i64 x.height, .int .i64 x.view, .slice L x.list.length e, .int .i64 x.root, .int .i64 x.eff] 50)) w.heap.size 50 #[.int .i64 x.before, .int .i64 x.height, .int .i64 x.view, .slice L x.list.length e, .int .i64 x.root, .int .i64 x.eff] := Blk.new _ _ _
  have HX := hide (fun (w' : World) (hb : Below (w.alloc (.cells #[.int .i64 x.before, .int .i64 x.height, .int .i64 x.view, .slice L x.list.length e, .int .i64 x.root, .int .i64 x.eff] 50)).heap.size (w.alloc (.cells #[.int .i64 x.before, .int .i64 x.height, .int .i64 x.view, .slice L x.list.length e, .int .i64 x.root, .int .i64 x.eff] 50)) w') => show (w'.cell? ⟨w.heap.size, 0, none⟩ = some (.int .i64 x.before) ∧ w'.cell? ⟨w.heap.size, 1, none⟩ = some (.int .i64 x.height) ∧ w'.cell? ⟨w.heap.size, 2, none⟩ = some (.int .i64 x.view) ∧ w'.cell? ⟨w.heap.size, 3, none⟩ = some (.slice L x.list.length e) ∧ w'.cell? ⟨w.heap.size, 4, none⟩ = some (.int .i64 x.root) ∧ w'.cell? ⟨w.heap.size, 5, none⟩ = some (.int .i64 x.eff)) ∧ w'.cell? ⟨gz, 0, none⟩ = some (.int .i64 z) ∧ Rd w' L (x.list.flatMap encA) ∧ Below w.heap.size w w' from
    ⟨⟨(k0.new_ hb).cell 0, (k0.new_ hb).cell 1, (k0.new_ hb).cell 2, (k0.new_ hb).cell 3, (k0.new_ hb).cell 4, (k0.new_ hb).cell 5⟩, ((bthen hb0 hb).cell (p := ⟨gz, 0, none⟩) hg).trans hz, h.new (bthen hb0 hb), bthen hb0 hb⟩)
  clear k0 hz h
  go_enter Tryz.func99, Tryz.ntmps99
  go_upto_region 1 with fail
  have hF : StBL [bV (.agg #[.int .i64 x.before, .int .i64 x.height, .int .i64 x.view, .slice L x.list.length e, .int .i64 x.root, .int .i64 x.eff]), bV (.int .i64 (bsum x)), bV (.int .i64 z)] :=
    ⟨sb_V _, sb_V _, sb_V _, trivial⟩
  refine wp_region_loc (by kernel_rfl) [(0, some 4), (1, some 5), (2, some 6)] [[], [(0, some 4)], []] (by kernel_rfl)
    (locB _) (fun a b => Below a.heap.size a b) noR [0, 0, 0] 0 (by kernel_rfl) (fun _ => Below.refl _ _) (fun _ _ _ => bthen) (locB_st hF _) trivial ?_ ?_
  · refine steps_cons ?s0 ( steps_cons ?s1 ( steps_cons ?s2 steps_nil))
    case s0 =>
      intro w' m' hE hR
      intro Q hQ
      obtain ⟨⟨a0, a1, a2, a3, a4, a5⟩, a6, a7, a8⟩ := unhide HX w' (below_undrew hE)
      go_wp2
      exact hQ _ _ _ rfl rfl (Below.refl _ _) trivial
    case s1 =>
      intro w' m' hE hR
      rintro _ rfl Q hQ
      obtain ⟨⟨a0, a1, a2, a3, a4, a5⟩, a6, a7, a8⟩ := unhide HX w' (below_undrew hE)
      go_wp2_with fail
      refine (blockSum_impl x L e w' a7 hb).mono ?_
      rintro e w1 ⟨rfl, b1⟩
      go_wp2
      exact hQ _ _ _ rfl rfl b1 trivial
    case s2 =>
      intro w' m' hE hR
      intro Q hQ
      obtain ⟨⟨a0, a1, a2, a3, a4, a5⟩, a6, a7, a8⟩ := unhide HX w' (below_undrew hE)
      go_wp2
      exact hQ _ _ _ rfl rfl (Below.refl _ _) trivial
  intro w9 hE _
  rintro v0 - v1 hv1 v2 hv2
  obtain rfl : v1 = _ := hv1
  obtain rfl : v2 = _ := hv2
  change wpList _ _ _ [_, _] _ _
  simp only [Act.put, List.setIfInBounds_toArray, List.set_cons_succ, List.set_cons_zero]
  obtain ⟨-, -, -, b9⟩ := unhide HX w9 (below_undrew hE)
  clear hE hF
  go_wp2
  go_ret
  exact ⟨rfl, b9⟩
set_option maxRecDepth 100000 in
set_option maxHeartbeats 1000000 in
theorem indexFuncB_any (gz : Nat) (z : Int) (A : Option Addr) (c : Nat) (xs : List Bk) (w : World) (h : RdD bkR (fun _ => True) w A xs) (hb : xs.length ≤ 4611686018427387904) (hbs : ∀ x ∈ xs, x.list.length ≤ 4611686018427387904) (hz : w.cell? ⟨gz, 0, none⟩ = some (.int .i64 z)) (hg : gz < w.heap.size) :
    Calls Tryz.prog 98 #[.slice A xs.length c, .func (.func 99) #[] #[.pointer (some ⟨gz, 0, none⟩)]] w fun e w' => e = .returned (.int .i64 (findB xs z)) ∧ Below w.heap.size w w' := by
  have HBS := hide hbs
  clear hbs
  go_enter Tryz.func98, Tryz.ntmps98
  go_wp2
  go_loopw [5, 8] (fun _ i wr => ∃ k : Nat, k ≤ xs.length ∧ i = .int .i64 k ∧ (∀ j (h1 : j < xs.length), j < k → bsum xs[j] ≠ z) ∧ Below w.heap.size w wr) (fun _ i _ => xs.length - (intOf i).toNat)
  case atStart => exact ⟨0, Nat.zero_le _, rfl, fun j _ h => absurd h (by omega), Below.refl _ _⟩
  case round =>
    obtain ⟨k, hk, rfl, hn, hB⟩ := hrel
    have HN := hide hn
    clear hn
    have hzr := (hB.cell (p := ⟨gz, 0, none⟩) hg).trans hz
    have hgr := Nat.lt_of_lt_of_le hg hB.size
    by_cases hlt : k < xs.length
    · obtain ⟨bq, offq, L, e, rfl, -, hbb, q0, q1, q2, q3, q4, q5, hlc, r1⟩ := (h.new bk_good hB).bk hlt
      have hxl := unhide HBS _ (List.getElem_mem hlt)
      have HX := hide (show bsum xs[k] = bsum xs[k] from rfl)
      have HFA := hide (fun (hp : bsum xs[k] = z) => findB_at hlt (unhide HN) hp)
      have HNX := hide (fun (hp : bsum xs[k] ≠ z) j (h1 : j < xs.length) (h2 : j < k + 1) => show bsum xs[j] ≠ z by
        rcases Nat.lt_or_ge j k with h3 | h3
        · exact unhide HN j h1 h3
        · have : j = k := by omega
          subst this
          exact hp)
      clear HX
      generalize xs[k] = x at *
      have i1 : (k : Int) < (xs.length : Int) := by omega
      have r2 := RdP.rd r1
      by_cases hp : bsum x = z
      · have hp2 : (bsum x == z) = true := by simpa using hp
        have HF := hide (unhide HFA hp)
        clear hp
        go_wp2_with fail
        refine (findClosure x L e gz z wr r2 hxl hzr hgr).mono ?_
        rintro e w1 ⟨rfl, b1⟩
        rw [hp2]
        have hB1 := below_then hB b1 hB.size
        go_wp2
        go_ret
        exact ⟨reti (unhide HF).symm, hB1⟩
      · have hp2 : (bsum x == z) = false := by simpa using hp
        have HF := hide (unhide HNX hp)
        clear hp
        go_wp2_with fail
        refine (findClosure x L e gz z wr r2 hxl hzr hgr).mono ?_
        rintro e w1 ⟨rfl, b1⟩
        rw [hp2]
        have hB1 := below_then hB b1 hB.size
        go_wp2
        go_roundw
        case rel => exact ⟨k + 1, by omega, by go_num, unhide HF, hB1⟩
        case measure => simp [intOf]; omega
    · have HF := hide (findB_none (bs := xs) (z := z) fun j hj => unhide HN j hj (by omega))
      go_wp2
      go_ret
      exact ⟨reti (unhide HF).symm, hB⟩
set_option maxRecDepth 100000 in
set_option maxHeartbeats 1000000 in
theorem find_impl (t : Tr) (A1 : Option Addr) (c1 : Nat) (A2 : Option Addr) (c2 : Nat) (A3 : Option Addr) (c3 : Nat) (z : Int) (w : World) (h : TrR w t A1 A2 A3) (hb2 : t.blocks.length ≤ 1099511627776) (hbs : ∀ x ∈ t.blocks, x.list.length ≤ 1099511627776) :
    Calls Tryz.prog 65 #[.agg (trA t A1 c1 A2 c2 A3 c3), .int .i64 z] w fun e w' => e = .returned (.int .i64 (findB t.blocks z)) ∧ Below w.heap.size w w' := by
  have HBS := hide (fun x hx => Nat.le_trans (hbs x hx) (by omega) : ∀ x ∈ t.blocks, x.list.length ≤ 4611686018427387904)
  clear hbs
  have hb0 : Below w.heap.size w ((w.alloc (.cells (trA t A1 c1 A2 c2 A3 c3) 27)).alloc (.cells #[.int .i64 z] 3)) := ((Below.refl _ _).alloc (Nat.le_refl _) _).alloc (by simp) _
  have k0 := (Blk.new w 27 (trA t A1 c1 A2 c2 A3 c3)).alloc (.cells #[.int .i64 z] 3)
  have k1 : Blk ((w.alloc (.cells (trA t A1 c1 A2 c2 A3 c3) 27)).alloc (.cells #[.int .i64 z] 3)) (w.heap.size + 1) 3 #[.int .i64 z] := by
    have := Blk.new (w.alloc (.cells (trA t A1 c1 A2 c2 A3 c3) 27)) 3 #[.int .i64 z]
    simpa using this
  have h0 := h.new hb0
  simp only [trA] at k0 k1 hb0 h0 ⊢
  have x1 := k0.cell 1
  have y0 := k1.cell 0
  have hg := k1.lt
  have HK := hide (indexFuncB_any (w.heap.size + 1) z A2 c2 t.blocks _ h0.b2 (by omega) (unhide HBS) y0 hg)
  clear k0 k1 h h0 y0 hg
  go_enter Tryz.func65, Tryz.ntmps65
  go_wp2_with fail
  refine (unhide HK).mono ?_
  rintro e w1 ⟨rfl, b1⟩
  go_wp2
  go_ret
  exact ⟨rfl, bthen hb0 b1⟩
set_option maxRecDepth 100000 in
set_option maxHeartbeats 1000000 in
theorem findBlock_impl (t : Tr) (A1 : Option Addr) (c1 : Nat) (A2 : Option Addr) (c2 : Nat) (A3 : Option Addr) (c3 : Nat) (z : Int) (w : World) (h : TrR w t A1 A2 A3) (hb1 : t.base.length ≤ 1099511627776) (hb2 : t.blocks.length ≤ 1099511627776) (hbs : ∀ x ∈ t.blocks, x.list.length ≤ 1099511627776) (hb3 : t.before.length ≤ 1099511627776) :
    Calls Tryz.prog 27 #[.agg (trA t A1 c1 A2 c2 A3 c3), .int .i64 z] w fun e w' => e = .returned (.int .i64 (findF t z)) ∧ Below w.heap.size w w' := by
  have HBS := hide hbs
  have hb0 : Below w.heap.size w (w.alloc (.cells (trA t A1 c1 A2 c2 A3 c3) 27)) := (Below.refl _ _).alloc (Nat.le_refl _) _
  have k0 := Blk.new w 27 (trA t A1 c1 A2 c2 A3 c3)
  have KV := treeValid_impl t A1 c1 A2 c2 A3 c3 _ (h.new hb0) hb1 hb2 hbs hb3
  have HF := hide (fun (w' : World) (hb : Below w.heap.size w w') => find_impl t A1 c1 A2 c2 A3 c3 z w' (h.new hb) hb2 (unhide HBS))
  simp only [trA] at KV HF hb0 k0 ⊢
  have x0 := k0.cell 0
  have x1 := k0.cell 1
  have x2 := k0.cell 2
  clear hbs h
  go_enter Tryz.func27, Tryz.ntmps27
  go_wp2_with fail
  refine KV.mono ?_
  rintro e w1 ⟨rfl, b1⟩
  replace k0 := k0.new_ b1
  replace hb0 := bthen hb0 b1
  clear KV x0 x1 x2 b1
  have x0 : w1.cell? ⟨w.heap.size, 0, none⟩ = some (.slice A1 t.base.length c1) := k0.cell 0
  have x1 : w1.cell? ⟨w.heap.size, 1, none⟩ = some (.slice A2 t.blocks.length c2) := k0.cell 1
  have x2 : w1.cell? ⟨w.heap.size, 2, none⟩ = some (.slice A3 t.before.length c3) := k0.cell 2
  cases hv : treeB t
  · have HR := hide (show findF t z = -1 by rw [findF, if_neg (by simp [hv])])
    clear hv
    go_wp2
    go_ret
    exact ⟨reti (unhide HR).symm, hb0⟩
  by_cases hz : z < 0
  · have HR := hide (show findF t z = -1 by rw [findF, if_neg (by omega)])
    clear hv
    go_wp2
    go_ret
    exact ⟨reti (unhide HR).symm, hb0⟩
  · have HR := hide (show findF t z = findB t.blocks z by rw [findF, if_pos ⟨hv, by omega⟩])
    clear hv
    go_wp2_with fail
    refine (unhide HF w1 hb0).mono ?_
    rintro e w2 ⟨rfl, b2⟩
    go_wp2
    go_ret
    exact ⟨reti (unhide HR).symm, bthen hb0 b2⟩
end Go.Proofs.YtefdhlfljpppfaaGreat
namespace Go.Proofs.YtefdhlfljpppfaaGreat
open Go.RowKit
set_option linter.unusedVariables false
set_option linter.unusedSimpArgs false

section
variable {t : Tr} {n : Int}
theorem path_before (h : treeB t = true) {a : Int} : ∀ (m : Nat) (c : Int), c < m → a ∈ pathT t c → a ≠ c → a ∈ t.before
  | 0, c, hc, hac, _ => by have := path_ne hac; omega
  | m + 1, c, hc, hac, hne => by
    obtain ⟨h0, h1⟩ := path_ne hac
    have hp := pAt_lt h (k := c.toNat) (by omega)
    have hl := (treeB_yes h).2.2.2.1
    rw [pathT_step h h0 h1] at hac
    rcases List.mem_append.1 hac with hb | hb
    · by_cases he : a = pAt t c.toNat
      · rw [he, pAt_get t (by omega)]; exact List.getElem_mem _
      · exact path_before h m _ (by omega) hb he
    · rw [List.mem_singleton] at hb; exact absurd hb hne
theorem asc_inj {xs : List Int} (hs : xs.Pairwise (· < ·)) {i j : Nat} (hi : i < xs.length) (hj : j < xs.length) (h : xs[i] = xs[j]) : i = j := by
  rcases Nat.lt_trichotomy i j with h1 | h1 | h1
  · have := asc_lt hs h1 hj; omega
  · exact h1
  · have := asc_lt hs h1 hi; omega
/-- ways between kept blocks, in both numberings -/
theorem path_kept (h : treeB t = true) (h0 : 0 ≤ n) (h1 : n < t.blocks.length) {i j : Nat} (hi : i < (keptL t n).length) (hj : j < (keptL t n).length) (hm : (keptL t n)[i] ∈ pathT t (keptL t n)[j]) : (i : Int) ∈ pathT (pruneT t n) (j : Int) := by
  rw [← prune_path h h0 h1 (j + 1) j hj (by omega)] at hm
  obtain ⟨k, hk, he⟩ := List.mem_map.1 hm
  have hkb := pathT_mem hk
  rw [(pr_len h h0 h1).1] at hkb
  have hkl : k.toNat < (keptL t n).length := by omega
  rw [List.getD_eq_getElem?_getD, List.getElem?_eq_getElem hkl, Option.getD_some] at he
  have := asc_inj (keptL_asc t n) hkl hi he
  have e : (i : Int) = k := by omega
  rw [e]; exact hk
theorem head_idx (h : treeB t = true) (h0 : 0 ≤ n) (h1 : n < t.blocks.length) : ∃ i, ∃ hi : i < (keptL t n).length, (keptL t n)[i] = n :=
  List.getElem_of_mem ((kept_iff h h0 h1).2 ⟨h0, h1, .inl (path_self h h0 h1)⟩)
theorem head_find (h : treeB t = true) (h0 : 0 ≤ n) (h1 : n < t.blocks.length) {i : Nat} (hi : i < (keptL t n).length) (he : (keptL t n)[i] = n) : findF (pruneT t n) (bsum (bAt t n.toNat)) = (i : Int) := by
  have hv := prune_valid h h0 h1
  have hl := (pr_len h h0 h1).1
  have hs := (treeB_yes hv).2.2.2.2.2.2.1 i (by omega)
  simp only [sumOk, Bool.and_eq_true] at hs
  have hb := pr_b h h0 h1 hi
  rw [he] at hb
  rw [hb] at hs
  have hnn := bsum_nn hs.1
  rw [findF, if_pos ⟨hv, hnn⟩]
  have hi2 : i < (pruneT t n).blocks.length := by omega
  have hg := bAt_get (pruneT t n) hi2
  have := findB_self (bs := (pruneT t n).blocks) hi2
  rw [← hg, hb] at this
  rw [hs.2] at this
  exact of_decide_eq_true this
theorem leaf_head (h : treeB t = true) (h0 : 0 ≤ n) (h1 : n < t.blocks.length) {i : Nat} (hi : i < (keptL t n).length) (he : (keptL t n)[i] = n) {l : Int} (hl : l ∈ leavesL (pruneT t n)) : (i : Int) ∈ pathT (pruneT t n) l := by
  have hv := prune_valid h h0 h1
  obtain ⟨l0, l1, l2⟩ := (leavesL_mem hv).1 hl
  rw [(pr_len h h0 h1).1] at l1
  obtain ⟨j, rfl⟩ := Int.eq_ofNat_of_zero_le l0
  have hj : j < (keptL t n).length := by omega
  rcases ((kept_iff h h0 h1).1 (List.getElem_mem hj)).2.2 with hor | hor
  · have hm := path_kept h h0 h1 hj hi (by rw [he]; exact hor)
    by_cases hji : (j : Int) = (i : Int)
    · rw [← hji]; exact path_self hv (by omega) (by rw [(pr_len h h0 h1).1]; omega)
    · exact absurd (path_before hv (i + 1) (i : Int) (by omega) hm hji) l2
  · exact path_kept h h0 h1 hi hj (by rw [he]; exact hor)
theorem kept_again (h : treeB t = true) (h0 : 0 ≤ n) (h1 : n < t.blocks.length) {i : Nat} (hi : i < (keptL t n).length) (he : (keptL t n)[i] = n) : keptL (pruneT t n) (i : Int) = (List.range (pruneT t n).blocks.length).map (fun k : Nat => (k : Int)) := by
  have hv := prune_valid h h0 h1
  have hl := (pr_len h h0 h1).1
  rw [keptL_yes hv (inB_true.2 (by omega))]
  have key : ∀ m, m ≤ (pruneT t n).blocks.length → keptGo (pruneT t n) (i : Int) m = (List.range m).map (fun k : Nat => (k : Int)) := by
    intro m
    induction m with
    | zero => intro _; rfl
    | succ m ih =>
      intro hm
      have hj : m < (keptL t n).length := by omega
      have hk : keepB (pruneT t n) (i : Int) m = true := by
        simp only [keepB, Bool.or_eq_true, decide_eq_true_eq]
        rcases ((kept_iff h h0 h1).1 (List.getElem_mem hj)).2.2 with hor | hor
        · exact .inl (path_kept h h0 h1 hj hi (by rw [he]; exact hor))
        · exact .inr (path_kept h h0 h1 hi hj (by rw [he]; exact hor))
      rw [keptGo, if_pos hk, ih (by omega), List.range_succ, List.map_append]
      rfl
  exact key _ (Nat.le_refl _)
theorem prune_again (h : treeB t = true) (h0 : 0 ≤ n) (h1 : n < t.blocks.length) {i : Nat} (hi : i < (keptL t n).length) (he : (keptL t n)[i] = n) : pruneT (pruneT t n) (i : Int) = pruneT t n ∧ pruneOk (pruneT t n) (i : Int) = true := by
  have hv := prune_valid h h0 h1
  have hl := (pr_len h h0 h1).1
  have hin : inB (i : Int) 0 (((pruneT t n).blocks.length : Int) - 1) = true := inB_true.2 (by omega)
  refine ⟨?_, by simp only [pruneOk, Bool.and_eq_true]; exact ⟨hv, hin⟩⟩
  rw [pruneT_yes hv hin, kept_again h h0 h1 hi he]
  obtain ⟨-, -, -, hbl, -, hp0, -, hnode⟩ := treeB_yes hv
  generalize pruneT t n = x at *
  have hb : ((List.range x.blocks.length).map (fun k : Nat => (k : Int))).map (fun k => bAt x k.toNat) = x.blocks := by
    refine List.ext_getElem (by simp) fun k a b => ?_
    simp only [List.getElem_map, List.getElem_range, Int.toNat_natCast]
    exact bAt_get x b
  have hp : ((List.range x.blocks.length).map (fun k : Nat => (k : Int))).map (fun k => idxL (pAt x k.toNat) 0 ((List.range x.blocks.length).map (fun k : Nat => (k : Int)))) = x.before := by
    refine List.ext_getElem (by simp [hbl]) fun k a b => ?_
    simp only [List.getElem_map, List.getElem_range, Int.toNat_natCast]
    rw [← pAt_get x b]
    have hkl : k < x.blocks.length := by omega
    have hpk := pAt_lt hv hkl
    by_cases hneg : pAt x k < 0
    · rw [idxL_none 0 fun hm => by obtain ⟨q, -, e⟩ := List.mem_map.1 hm; omega]
      omega
    · obtain ⟨q, hq⟩ := Int.eq_ofNat_of_zero_le (show 0 ≤ pAt x k by omega)
      have hql : q < x.blocks.length := by omega
      rw [hq]
      have := idxL_some (z := (q : Int)) (xs := (List.range x.blocks.length).map (fun k : Nat => (k : Int))) 0 q (by simpa using hql) (by simp) (fun j hj hjq => by simp; omega)
      rw [this]
      simp
  simp only [hb, hp]
/-- everything that the law FnPruneTree asks, plain -/
theorem prune_all {t : Tr} {n : Int} (h : pruneOk t n = true) : ∃ i : Nat, i < (pruneT t n).blocks.length ∧ n.toNat < t.blocks.length ∧ inB n 0 ((t.blocks.length : Int) - 1) = true ∧ findF (pruneT t n) (bsum (bAt t n.toNat)) = (i : Int) ∧ (∀ l ∈ leavesL (pruneT t n), beforeB (pruneT t n) (i : Int) l = true) ∧ pruneT (pruneT t n) (i : Int) = pruneT t n ∧ pruneOk (pruneT t n) (i : Int) = true ∧ treeB (pruneT t n) = true ∧ storeT (pruneT t n) (i : Int) = storeT t n ∧ (pruneT t n).blocks.length = (keptL t n).length := by
  simp only [pruneOk, Bool.and_eq_true] at h
  obtain ⟨hv, hin⟩ := h
  have hb := inB_true.1 hin
  have h1 : n < t.blocks.length := by omega
  obtain ⟨i, hi, he⟩ := head_idx hv hb.1 h1
  have hl := (pr_len hv hb.1 h1).1
  have hpv := prune_valid hv hb.1 h1
  have ha := prune_again hv hb.1 h1 hi he
  refine ⟨i, by omega, by omega, hin, head_find hv hb.1 h1 hi he, fun l hlm => ?_, ha.1, ha.2, hpv, by rw [prune_store hv hb.1 h1 hi, he], hl⟩
  have hm := leaf_head hv hb.1 h1 hi he hlm
  simp only [beforeB, decide_eq_true_eq]
  rw [pathS, if_pos hpv]; exact hm
end
end Go.Proofs.YtefdhlfljpppfaaGreat
