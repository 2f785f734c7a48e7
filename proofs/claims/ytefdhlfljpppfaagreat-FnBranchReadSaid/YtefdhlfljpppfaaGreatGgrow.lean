/- New trees, of the reference (printed by gen_in.py from xtreeof.in). A block put behind a tree, of the reference (printed by gen_in.py from xputb.in). The sums of effects, of the reference (printed by gen_in.py from xeffsum.in). The next block, of the reference (printed by gen_in.py from xnext.in). A tree with a next block, of the reference (printed by gen_in.py from xgrowt.in). A region that draws its order and holds one operation that writes (s), operations that draw from a reader, and one that lays a variable (p). No program is in sight here. -/
import Derived.Test.YtefdhlfljpppfaaGreatGtree
import Derived.Test.YtefdhlfljpppfaaGreatRootS
import Derived.Test.YtefdhlfljpppfaaGreatBTree
import Derived.Test.YtefdhlfljpppfaaGreatBTreeS
import Derived.Test.YtefdhlfljpppfaaGreatEffS
import Derived.Test.YtefdhlfljpppfaaGreatBSum
import Derived.Test.YtefdhlfljpppfaaGreatRdr
namespace Go.Proofs.YtefdhlfljpppfaaGreat
open Go.RowKit
set_option linter.unusedVariables false
set_option linter.unusedSimpArgs false

def treeOf (s : List Ent) : Tr := if storeB s = true then ⟨s, [fstB s], [-1]⟩ else ⟨[], [], []⟩
theorem treeOf_yes {s : List Ent} (h : storeB s = true) : treeOf s = ⟨s, [fstB s], [-1]⟩ := by rw [treeOf, if_pos h]
theorem treeOf_no {s : List Ent} (h : storeB s = false) : treeOf s = ⟨[], [], []⟩ := by rw [treeOf, if_neg (by simp [h])]
set_option maxRecDepth 100000 in
set_option maxHeartbeats 4000000 in
theorem treeOf_spec (A : Option Addr) (c : Nat) (s : List Ent) (w : World) (h : Rd w A (s.flatMap encE)) (hb : s.length ≤ 1099511627776) (hs : storeB s = true) :
    Calls Tryz.prog 101 #[.slice A s.length c] w fun e w' => ∃ B1 d1 B2 d2 B3 d3 fp, e = .returned (.agg (trA (treeOf s) B1 d1 B2 d2 B3 d3)) ∧ TrO w' w.heap.size (treeOf s) B1 d1 B2 d2 B3 d3 fp ∧ Below w.heap.size w w' := by
  have HT := hide (treeOf_yes hs)
  have hb0 : Below w.heap.size w (w.alloc (.cells #[.slice none 0 0, .slice none 0 0, .slice none 0 0] 27)) := (Below.refl _ _).alloc (Nat.le_refl _) _
  have kr : Blk (w.alloc (.cells #[.slice none 0 0, .slice none 0 0, .slice none 0 0] 27)) w.heap.size 27 #[.slice none 0 0, .slice none 0 0, .slice none 0 0] := Blk.new _ _ _
  have KV := storeB_store_spec A c s (w.alloc (.cells #[.slice none 0 0, .slice none 0 0, .slice none 0 0] 27)) (h.new hb0) (by omega)
  rw [hs] at KV
  have hrl := kr.lt
  clear hs
  go_enter Tryz.func101, Tryz.ntmps101
  go_wp2_with fail
  refine KV.mono ?_
  rintro e w3 ⟨rfl, m, hm⟩
  have b3 : Below (w.alloc (.cells #[.slice none 0 0, .slice none 0 0, .slice none 0 0] 27)).heap.size (w.alloc (.cells #[.slice none 0 0, .slice none 0 0, .slice none 0 0] 27)) w3 := by rw [← hm]; exact below_drewN (Below.refl _ _) m
  clear hm KV
  replace kr := kr.new_ b3
  replace hb0 := bthen hb0 b3
  replace hrl := kr.lt
  clear b3
  have oe := own_made (base := w3.heap.size) (e := 85) (size := 2) w3 #[] 0 (Nat.le_refl _) (by simp [maxLen]) rfl
  have be : Below w3.heap.size w3 (w3.alloc (.cells #[] 85)) := (Below.refl _ _).alloc (Nat.le_refl _) _
  have hr3 := h.new hb0
  go_wp2_with (at_builtin; refine wpList_app0 rfl (.tmp 7) (.tmp 8) 23 rfl el_ent rfl oe rfl (hr3.new be) (len_ents s) (one_ents s) (by simp only [maxLen]; omega) (by omega) (by simp) ?_; intro B1 d1 w4 o1 b4)
  have b34 := bthen be b4
  refine (firstBlock_spec A c s w4 (hr3.new b34) (by omega)).mono ?_
  rintro e w5 ⟨rfl, b5⟩
  have o15 := own_new o1 b5
  have b35 := bthen b34 b5
  have hs35 := b35.size
  have hs45 := b5.size
  have hr1 := own_rng o1
  replace kr := kr.new_ b35
  replace hb0 := bthen hb0 b35
  have HFL := hide (show (fstB s).list = [] by unfold fstB; split <;> rfl)
  have hfl : (fstB s).list.length = 0 := by rw [unhide HFL]; rfl
  have o2 := own_made (base := w5.heap.size) (e := 50) (size := 6) w5 #[.int .i64 (fstB s).before, .int .i64 (fstB s).height, .int .i64 (fstB s).view, .slice none (fstB s).list.length 0, .int .i64 (fstB s).root, .int .i64 (fstB s).eff] 1 (Nat.le_refl _) (by simp [maxLen]) rfl
  have o3 := own_made (base := w5.heap.size) (e := 3) (size := 1) (w5.alloc (.cells #[.int .i64 (fstB s).before, .int .i64 (fstB s).height, .int .i64 (fstB s).view, .slice none (fstB s).list.length 0, .int .i64 (fstB s).root, .int .i64 (fstB s).eff] 50)) #[.int .i64 (-1)] 1 (by simp) (by simp [maxLen]) rfl
  have hx := own_alloc o2 (.cells #[.int .i64 (-1)] 3)
  have b57 : Below w5.heap.size w5 ((w5.alloc (.cells #[.int .i64 (fstB s).before, .int .i64 (fstB s).height, .int .i64 (fstB s).view, .slice none (fstB s).list.length 0, .int .i64 (fstB s).root, .int .i64 (fstB s).eff] 50)).alloc (.cells #[.int .i64 (-1)] 3)) := ((Below.refl _ _).alloc (Nat.le_refl _) _).alloc (by simp) _
  have o17 := own_new o15 b57
  have kr7 := kr.new_ b57
  have HFE := hide hfl
  have o3' : ((w5.alloc (.cells #[.int .i64 (fstB s).before, .int .i64 (fstB s).height, .int .i64 (fstB s).view, .slice none (fstB s).list.length 0, .int .i64 (fstB s).root, .int .i64 (fstB s).eff] 50)).alloc (.cells #[.int .i64 (-1)] 3)).ownsRow w5.heap.size 3 1 (.slice (some ⟨w5.heap.size + 1, 0, none⟩) 1 1) 1 [.int .i64 (-1)] := by simpa using o3
  clear hfl o3 hr3 oe be o2 o15 o1 h b5 b4
  go_wp2_with (refine wpList_store_row rfl 27 (.tmp 2) (.tmp 14) rfl w.heap.size #[.slice B1 s.length d1, .slice (some ⟨w5.heap.size, 0, none⟩) 1 1, .slice (some ⟨w5.heap.size + 1, 0, none⟩) 1 1] rfl rfl 27 #[.slice none 0 0, .slice none 0 0, .slice none 0 0] kr7 info_tr rfl (sl3_one _ _ _ _ _ _ _ _ _) ?_)
  refine bodyPost_ret (v := .agg #[.slice B1 s.length d1, .slice (some ⟨w5.heap.size, 0, none⟩) 1 1, .slice (some ⟨w5.heap.size + 1, 0, none⟩) 1 1]) (results_cell_row (p := 2) (ty := 27) rfl _ _ w.heap.size 27 #[.slice B1 s.length d1, .slice (some ⟨w5.heap.size, 0, none⟩) 1 1, .slice (some ⟨w5.heap.size + 1, 0, none⟩) 1 1] (0, 0) _ rfl (blk_setRow kr7) Tryz.underlying27 rfl info_tr) rfl ?_
  rw [unhide HT]
  have q1 := own_setRow (own_base o17 (base' := w.heap.size + 1) (by omega)) (g := w.heap.size) (by omega) #[.slice B1 s.length d1, .slice (some ⟨w5.heap.size, 0, none⟩) 1 1, .slice (some ⟨w5.heap.size + 1, 0, none⟩) 1 1]
  have q2 := own_setRow (own_base hx (base' := w.heap.size + 1) (by omega)) (g := w.heap.size) (by omega) #[.slice B1 s.length d1, .slice (some ⟨w5.heap.size, 0, none⟩) 1 1, .slice (some ⟨w5.heap.size + 1, 0, none⟩) 1 1]
  have q3 := own_setRow (own_base o3' (base' := w.heap.size + 1) (by omega)) (g := w.heap.size) (by omega) #[.slice B1 s.length d1, .slice (some ⟨w5.heap.size, 0, none⟩) 1 1, .slice (some ⟨w5.heap.size + 1, 0, none⟩) 1 1]
  refine ⟨B1, d1, some ⟨w5.heap.size, 0, none⟩, 1, some ⟨w5.heap.size + 1, 0, none⟩, 1, [w5.heap.size], rfl, ⟨own_base q1 (by omega), ⟨[bkV (fstB s) none 0], [[]], ⟨⟨none, 0, rfl, by rw [unhide HFL]; exact own_nil _ _ _ _, rfl⟩, trivial⟩, ?_, rfl, by simp⟩, own_base q3 (by omega), ?_, ?_, ?_, ?_⟩, below_setRow (bthen hb0 b57) (Nat.le_refl _) _⟩
  · simpa [bkV] using own_base0 q2
  · intro q hq
    rw [List.mem_singleton] at hq
    omega
  · intro q hq hq2
    rw [List.mem_singleton] at hq2
    have := hr1 q hq
    omega
  · intro q hq e
    have := hr1 q hq
    injection e with e
    injection e with e
    omega
  · intro q hq hq2
    injection hq with hq
    injection hq with hq
    rw [List.mem_singleton] at hq2
    omega
theorem fstB_ok {s : List Ent} (h : storeB s = true) : blkB (fstB s) = true := by
  have hv : valOk (valsL s) := valOk_vals (storeB_def _ ▸ h) (by omega)
  have h1 : sumIn (rootL s) := by
    rw [rootL, if_pos h]
    have hl := lvN_len (valsL s) 5 (by omega)
    have := lvN_in hv 5 ((lvN (valsL s) 5).getD 0 0) (by
      rw [List.getD_eq_getElem?_getD, List.getElem?_eq_getElem (by rw [hl]; simp), Option.getD_some]
      exact List.getElem_mem _)
    exact this
  unfold fstB
  rw [if_pos h]
  unfold sumIn at h1
  simp only [blkB, Bool.and_eq_true]
  refine ⟨inB_true.2 (by omega), inB_true.2 (by omega), inB_true.2 (by omega), inB_true.2 (by omega), inB_true.2 (by omega), ?_⟩
  rfl
/-- a new tree is a tree -/
theorem treeOf_ok {s : List Ent} (h : storeB s = true) : treeB (treeOf s) = true := by
  rw [treeOf_yes h]
  have hf := fstB_ok h
  simp [treeB, tree0, tree1, h, upTo, sumOk, nodeOk0, bAt, pAt, hf, inB]
end Go.Proofs.YtefdhlfljpppfaaGreat
namespace Go.Proofs.YtefdhlfljpppfaaGreat
open Go.RowKit
set_option linter.unusedVariables false
set_option linter.unusedSimpArgs false

def pbX (t : Tr) (b : Bk) : Tr := ⟨t.base, t.blocks ++ [b], t.before ++ [findB t.blocks b.before]⟩
def pbOk (t : Tr) (b : Bk) : Bool := treeB t && treeB (pbX t b)
def pbT (t : Tr) (b : Bk) : Tr := if treeB t = true then (if treeB (pbX t b) = true then pbX t b else t) else ⟨[], [], []⟩
/-- a tree stays a tree -/
theorem pbT_ok {t : Tr} (b : Bk) (h : treeB t = true) : treeB (pbT t b) = true := by
  rw [pbT, if_pos h]
  split
  · assumption
  · exact h
theorem pbT_no {t : Tr} {b : Bk} (h : treeB t = false) : pbT t b = ⟨[], [], []⟩ := by rw [pbT, if_neg (by simp [h])]
theorem pbT_out {t : Tr} {b : Bk} (h : treeB t = true) (hx : treeB (pbX t b) = false) : pbT t b = t := by rw [pbT, if_pos h, if_neg (by simp [hx])]
theorem pbT_yes {t : Tr} {b : Bk} (h : treeB t = true) (hx : treeB (pbX t b) = true) : pbT t b = pbX t b := by rw [pbT, if_pos h, if_pos hx]
theorem own_raise {w : World} {base : Nat} {e : TypeId} {size n c : Nat} {A : Option Addr} {xs : List Value} (h : w.ownsRow 0 e size (.slice A n c) n xs) (hq : ∀ q, A = some ⟨q, 0, none⟩ → base ≤ q) : w.ownsRow base e size (.slice A n c) n xs := by
  refine ⟨h.1, ?_⟩
  rcases h.2 with h2 | ⟨g, cap, cur, hv, hg, r⟩
  · exact .inl h2
  · refine .inr ⟨g, cap, cur, hv, ?_, r⟩
    injection hv with hv
    exact hq g hv
/-- what a row of things that own memory is, for one more -/
theorem ownD_open {α : Type} {O : ORel α} {e : TypeId} {s : Nat} {w : World} {A : Option Addr} {c : Nat} {xs : List α} {fp : List Nat} {base : Nat} (h : OwnD O e s w A c xs fp) (hge : ∀ k ∈ fp, base ≤ k) :
    ∃ vs fs, AllO O w xs vs fs ∧ fs.flatten.Nodup ∧ (∀ q ∈ fs.flatten, base ≤ q ∧ A ≠ some ⟨q, 0, none⟩) ∧ w.ownsRow base e s (.slice A xs.length c) xs.length vs.flatten ∧ fp = blk A ++ fs.flatten := by
  obtain ⟨vs, fs, h1, h2, rfl, h4⟩ := h
  rw [List.nodup_append] at h4
  refine ⟨vs, fs, h1, h4.2.1, fun q hq => ⟨hge q (List.mem_append_right _ hq), fun e => h4.2.2 q (mem_blk e) q hq rfl⟩, own_raise h2 fun q hq => hge q (List.mem_append_left _ (mem_blk hq)), rfl⟩
theorem grow_step3 {α : Type} {O : ORel α} {R : Rel α} {s : Nat} (G : OGood O R) (GR : Good R s) {wr w3 w7 : World} {base : Nat} {e : TypeId} {A' A7 : Option Addr} {c' c7 n m : Nat} {xs : List α} {vs : List (List Value)} {fs : List (List Nat)} {x : α} {cs : List Value} {f : List Nat} {o : Obj}
    (hall : AllO O wr xs vs fs) (hnd : fs.flatten.Nodup) (hF : ∀ q ∈ fs.flatten, base ≤ q ∧ A' ≠ some ⟨q, 0, none⟩) (hown : wr.ownsRow base e s (.slice A' n c') n vs.flatten) (hbase : base ≤ wr.heap.size)
    (hs3 : wr.heap.size ≤ w3.heap.size) (hkp : ∀ q ∈ fs.flatten, q < wr.heap.size → w3.heap[q]? = wr.heap[q]?) (hx : O x w3 cs f) (hfn : f.Nodup) (hfb : ∀ q ∈ f, wr.heap.size ≤ q)
    (ch7 : Chg (fun g => A' = some ⟨g, 0, none⟩) (w3.alloc o) w7) (d7 : A7 = A' ∨ (A7 = some ⟨(w3.alloc o).heap.size, 0, none⟩ ∧ Below (w3.alloc o).heap.size (w3.alloc o) w7)) (o7 : w7.ownsRow base e s (.slice A7 m c7) m (vs.flatten ++ cs)) :
    AllO O w7 (xs ++ [x]) (vs ++ [cs]) (fs ++ [f]) ∧ (fs ++ [f]).flatten.Nodup ∧ (∀ q ∈ (fs ++ [f]).flatten, base ≤ q ∧ A7 ≠ some ⟨q, 0, none⟩) ∧ w7.ownsRow base e s (.slice A7 m c7) m (vs ++ [cs]).flatten := by
  have hl := hall.lt G
  have hl3 : ∀ q ∈ f, q < w3.heap.size := by
    have := (AllO.one hx).lt G
    intro q hq
    exact this q (by simpa using hq)
  have hrg := own_rng hown
  have hall3 := (hall.keep G (w' := w3) fun q hq hqw => hkp q hq hqw).append (AllO.one hx)
  have key : ∀ q ∈ (fs ++ [f]).flatten, base ≤ q ∧ q < w3.heap.size ∧ A' ≠ some ⟨q, 0, none⟩ := fun q hq => by
    rw [List.flatten_append] at hq
    rcases List.mem_append.1 hq with hq | hq
    · have h1 := hF q hq
      have h2 := hl q hq
      exact ⟨h1.1, by omega, h1.2⟩
    · have hq : q ∈ f := by simpa using hq
      have h1 := hfb q hq
      exact ⟨by omega, hl3 q hq, fun e => by have := hrg q e; omega⟩
  refine ⟨hall3.keep G fun q hq hqw => ?_, ?_, fun q hq => ?_, by rw [List.flatten_append]; simpa using o7⟩
  · have h1 := key q hq
    rw [ch7.block q (by simp; omega) h1.2.2]
    exact Below.heap_alloc _ _ _ hqw
  · rw [List.flatten_append]
    exact fresh_nodup (m := wr.heap.size) hnd (by simpa using hfn) hl (fun q hq => hfb q (by simpa using hq))
  · have h1 := key q hq
    refine ⟨h1.1, fun e => ?_⟩
    rcases d7 with rfl | ⟨rfl, _⟩
    · exact h1.2.2 e
    · injection e with e; injection e with e; simp at e; omega
theorem ne_bi2 : (50 : TypeId) ≠ 3 := by decide
theorem ne_ib : (3 : TypeId) ≠ 50 := by decide
theorem ne_eb : (85 : TypeId) ≠ 50 := by decide
def rowI2 (z : Int) (v : Value) (w : World) : Prop := ∃ q, v = .slice (some ⟨q, 0, none⟩) 1 1 ∧ Rd w (some ⟨q, 0, none⟩) [Value.int .i64 z]
theorem sb_rowI2 (z : Int) : StB (rowI2 z) := fun _ _ _ hb ⟨q, h1, h2⟩ => ⟨q, h1, h2.new hb⟩
theorem below_le2 {B B' : Nat} {a b : World} (h : Below B a b) (hle : B' ≤ B) : Below B' a b := ⟨h.os, h.tape, h.output, h.size, fun q hq => h.block q (Nat.lt_of_lt_of_le hq hle)⟩
theorem trO_nil2 (w : World) (B : Nat) : TrO w B ⟨[], [], []⟩ none 0 none 0 none 0 [] := ⟨own_nil _ _ _ _, ownD_nil _ _ _ _, own_nil _ _ _ _, by simp, by simp, by simp, by simp⟩
theorem trO_setRow2 {w : World} {B : Nat} {t : Tr} {A1 A2 A3 : Option Addr} {c1 c2 c3 : Nat} {fp : List Nat} (h : TrO w B t A1 c1 A2 c2 A3 c3 fp) {g : Nat} (hg : g < B) (ds : Array Value) : TrO (w.setRow g ds) B t A1 c1 A2 c2 A3 c3 fp :=
  ⟨own_setRow h.o1 hg ds, h.o2.keep bkO_good (fun q hq _ => setRow_other w g q ds (by have := h.ge q hq; omega)), own_setRow h.o3 hg ds, h.ge, h.a12, h.a13, h.a23⟩
theorem trO_base2 {w : World} {B B' : Nat} {t : Tr} {A1 A2 A3 : Option Addr} {c1 c2 c3 : Nat} {fp : List Nat} (h : TrO w B t A1 c1 A2 c2 A3 c3 fp) (hB : B' ≤ B) : TrO w B' t A1 c1 A2 c2 A3 c3 fp :=
  ⟨own_base h.o1 hB, h.o2, own_base h.o3 hB, fun k hk => Nat.le_trans hB (h.ge k hk), h.a12, h.a13, h.a23⟩
set_option maxRecDepth 100000 in
set_option maxHeartbeats 8000000 in
theorem put_spec (t : Tr) (A1 : Option Addr) (c1 : Nat) (A2 : Option Addr) (c2 : Nat) (A3 : Option Addr) (c3 : Nat) (b : Bk) (A : Option Addr) (c : Nat) (w : World) (h : TrR w t A1 A2 A3) (hl : Rd w A (b.list.flatMap encA)) (hb1 : t.base.length ≤ 1000000) (hb2 : t.blocks.length ≤ 1000000) (hbs : ∀ x ∈ t.blocks, x.list.length ≤ 1000000) (hb3 : t.before.length ≤ 1000000) (hbl : b.list.length ≤ 1000000) :
    Calls Tryz.prog 106 #[.agg (trA t A1 c1 A2 c2 A3 c3), .agg #[.int .i64 b.before, .int .i64 b.height, .int .i64 b.view, .slice A b.list.length c, .int .i64 b.root, .int .i64 b.eff]] w fun e w' => ∃ B1 d1 B2 d2 B3 d3 fp, e = .returned (.tuple #[.agg (trA (pbT t b) B1 d1 B2 d2 B3 d3), .bool (pbOk t b)]) ∧ TrO w' w.heap.size (pbT t b) B1 d1 B2 d2 B3 d3 fp ∧ Below w.heap.size w w' := by
  have HBS := hide (fun x hx => Nat.le_trans (hbs x hx) (by omega) : ∀ x ∈ t.blocks, x.list.length ≤ 1099511627776)
  have HBO := hide hbs
  clear hbs
  have HR := hide (fun w' (hb : Below w.heap.size w w') => h.new hb)
  have HRL := hide (fun w' (hb : Below w.heap.size w w') => (hl.new hb : Rd w' A (b.list.flatMap encA)))
  have HCL := hide (fun w' (hb : Below w.heap.size w w') => copy_spec t A1 c1 A2 c2 A3 c3 w' (unhide HR w' hb) (by omega) (by omega) (unhide HBS) (by omega))
  have HFN := hide (fun w' (hb : Below w.heap.size w w') => find_spec t A1 c1 A2 c2 A3 c3 b.before w' (unhide HR w' hb) (by omega) (unhide HBS))
  simp only [trA] at HCL HFN ⊢
  have k0 : Blk (((w.alloc (.cells #[.slice A1 t.base.length c1, .slice A2 t.blocks.length c2, .slice A3 t.before.length c3] 27)).alloc (.cells #[.int .i64 b.before, .int .i64 b.height, .int .i64 b.view, .slice A b.list.length c, .int .i64 b.root, .int .i64 b.eff] 50)).alloc (.cells #[.slice none 0 0, .slice none 0 0, .slice none 0 0] 27)) w.heap.size 27 #[.slice A1 t.base.length c1, .slice A2 t.blocks.length c2, .slice A3 t.before.length c3] := ((Blk.new _ _ _).alloc _).alloc _
  have k1 : Blk (((w.alloc (.cells #[.slice A1 t.base.length c1, .slice A2 t.blocks.length c2, .slice A3 t.before.length c3] 27)).alloc (.cells #[.int .i64 b.before, .int .i64 b.height, .int .i64 b.view, .slice A b.list.length c, .int .i64 b.root, .int .i64 b.eff] 50)).alloc (.cells #[.slice none 0 0, .slice none 0 0, .slice none 0 0] 27)) (w.heap.size + 1) 50 #[.int .i64 b.before, .int .i64 b.height, .int .i64 b.view, .slice A b.list.length c, .int .i64 b.root, .int .i64 b.eff] := by
    have := (Blk.new (w.alloc (.cells #[.slice A1 t.base.length c1, .slice A2 t.blocks.length c2, .slice A3 t.before.length c3] 27)) 50 #[.int .i64 b.before, .int .i64 b.height, .int .i64 b.view, .slice A b.list.length c, .int .i64 b.root, .int .i64 b.eff]).alloc (.cells #[.slice none 0 0, .slice none 0 0, .slice none 0 0] 27)
    simpa using this
  have kr : Blk (((w.alloc (.cells #[.slice A1 t.base.length c1, .slice A2 t.blocks.length c2, .slice A3 t.before.length c3] 27)).alloc (.cells #[.int .i64 b.before, .int .i64 b.height, .int .i64 b.view, .slice A b.list.length c, .int .i64 b.root, .int .i64 b.eff] 50)).alloc (.cells #[.slice none 0 0, .slice none 0 0, .slice none 0 0] 27)) (w.heap.size + 1 + 1) 27 #[.slice none 0 0, .slice none 0 0, .slice none 0 0] := by
    have := Blk.new ((w.alloc (.cells #[.slice A1 t.base.length c1, .slice A2 t.blocks.length c2, .slice A3 t.before.length c3] 27)).alloc (.cells #[.int .i64 b.before, .int .i64 b.height, .int .i64 b.view, .slice A b.list.length c, .int .i64 b.root, .int .i64 b.eff] 50)) 27 #[.slice none 0 0, .slice none 0 0, .slice none 0 0]
    simpa using this
  have hb0 : Below w.heap.size w (((w.alloc (.cells #[.slice A1 t.base.length c1, .slice A2 t.blocks.length c2, .slice A3 t.before.length c3] 27)).alloc (.cells #[.int .i64 b.before, .int .i64 b.height, .int .i64 b.view, .slice A b.list.length c, .int .i64 b.root, .int .i64 b.eff] 50)).alloc (.cells #[.slice none 0 0, .slice none 0 0, .slice none 0 0] 27)) := (((Below.refl _ _).alloc (Nat.le_refl _) _).alloc (by simp) _).alloc (by simp; omega) _
  have hz0 := kr.lt
  have KV := treeValid_spec t A1 c1 A2 c2 A3 c3 (((w.alloc (.cells #[.slice A1 t.base.length c1, .slice A2 t.blocks.length c2, .slice A3 t.before.length c3] 27)).alloc (.cells #[.int .i64 b.before, .int .i64 b.height, .int .i64 b.view, .slice A b.list.length c, .int .i64 b.root, .int .i64 b.eff] 50)).alloc (.cells #[.slice none 0 0, .slice none 0 0, .slice none 0 0] 27)) (unhide HR _ hb0) (by omega) (by omega) (unhide HBS) (by omega)
  simp only [trA] at KV
  have x0 : (((w.alloc (.cells #[.slice A1 t.base.length c1, .slice A2 t.blocks.length c2, .slice A3 t.before.length c3] 27)).alloc (.cells #[.int .i64 b.before, .int .i64 b.height, .int .i64 b.view, .slice A b.list.length c, .int .i64 b.root, .int .i64 b.eff] 50)).alloc (.cells #[.slice none 0 0, .slice none 0 0, .slice none 0 0] 27)).cell? ⟨w.heap.size, 0, none⟩ = some (.slice A1 t.base.length c1) := k0.cell 0
  have x1 : (((w.alloc (.cells #[.slice A1 t.base.length c1, .slice A2 t.blocks.length c2, .slice A3 t.before.length c3] 27)).alloc (.cells #[.int .i64 b.before, .int .i64 b.height, .int .i64 b.view, .slice A b.list.length c, .int .i64 b.root, .int .i64 b.eff] 50)).alloc (.cells #[.slice none 0 0, .slice none 0 0, .slice none 0 0] 27)).cell? ⟨w.heap.size, 1, none⟩ = some (.slice A2 t.blocks.length c2) := k0.cell 1
  have x2 : (((w.alloc (.cells #[.slice A1 t.base.length c1, .slice A2 t.blocks.length c2, .slice A3 t.before.length c3] 27)).alloc (.cells #[.int .i64 b.before, .int .i64 b.height, .int .i64 b.view, .slice A b.list.length c, .int .i64 b.root, .int .i64 b.eff] 50)).alloc (.cells #[.slice none 0 0, .slice none 0 0, .slice none 0 0] 27)).cell? ⟨w.heap.size, 2, none⟩ = some (.slice A3 t.before.length c3) := k0.cell 2
  clear h hl
  go_enter Tryz.func106, Tryz.ntmps106
  go_wp2_with fail
  refine KV.mono ?_
  rintro e w3 ⟨rfl, b3⟩
  replace k0 := k0.new_ b3
  replace k1 := k1.new_ b3
  replace kr := kr.new_ b3
  replace hb0 := bthen hb0 b3
  replace hz0 := kr.lt
  clear KV x0 x1 x2 b3
  have x0 : w3.cell? ⟨w.heap.size, 0, none⟩ = some (.slice A1 t.base.length c1) := k0.cell 0
  have x1 : w3.cell? ⟨w.heap.size, 1, none⟩ = some (.slice A2 t.blocks.length c2) := k0.cell 1
  have x2 : w3.cell? ⟨w.heap.size, 2, none⟩ = some (.slice A3 t.before.length c3) := k0.cell 2
  cases hv : treeB t
  · have HF := hide (show pbOk t b = false by simp [pbOk, hv])
    have HA := hide (pbT_no (b := b) hv)
    go_wp2_with (refine wpList_store_row rfl 27 (.tmp 4) (.tmp 10) rfl (w.heap.size + 1 + 1) #[.slice none 0 0, .slice none 0 0, .slice none 0 0] rfl rfl 27 #[.slice none 0 0, .slice none 0 0, .slice none 0 0] kr info_tr rfl (sl3_one _ _ _ _ _ _ _ _ _) ?_)
    refine bodyPost_ret (v := .tuple #[.agg #[.slice none 0 0, .slice none 0 0, .slice none 0 0], .bool false]) (results_cell_tmp (p := 4) (q := 5) (ty := 27) rfl _ _ (w.heap.size + 1 + 1) 27 #[.slice none 0 0, .slice none 0 0, .slice none 0 0] (0, 0) _ rfl (blk_setRow kr) Tryz.underlying27 rfl info_tr) rfl ?_
    rw [unhide HA, unhide HF]
    exact ⟨none, 0, none, 0, none, 0, [], rfl, trO_nil2 _ _, below_setRow hb0 (by omega) _⟩
  have HV := hide hv
  clear hv
  go_wp2_with fail
  refine (unhide HCL w3 hb0).mono ?_
  rintro e w4 ⟨B1, d1, B2, d2, B3, d3, fp, rfl, tO, b4⟩
  replace k0 := k0.new_ b4
  replace k1 := k1.new_ b4
  replace kr := kr.new_ b4
  replace hb0 := bthen hb0 b4
  have hs4 := b4.size
  have v3 : w4.cell? ⟨w.heap.size + 1, 3, none⟩ = some (.slice A b.list.length c) := k1.cell 3
  obtain ⟨vs, fs, hall, hnd, hF, oB, hfp⟩ := ownD_open tO.o2 tO.ge
  have o1 := tO.o1
  have o3 := tO.o3
  have HRG := hide tO.rng
  have HA12 := hide tO.a12
  have HA23 := hide tO.a23
  clear x0 x1 x2 b4 tO
  have hr1 := own_rng o1
  have hrB := own_rng oB
  have hr3 := own_rng o3
  have HR1 := hide (fun q hq => (own_rng o1 q hq))
  have HRB := hide (fun q hq => (⟨(own_rng oB q hq).1, (unhide HRG q (.inr (.inl (by rw [hfp]; exact List.mem_append_left _ (mem_blk hq))))).2⟩ : w3.heap.size ≤ q ∧ q < w4.heap.size))
  have HR3 := hide (fun q hq => (own_rng o3 q hq))
  have hxw : w.heap.size + 1 < w4.heap.size := by omega
  have hxw0 : w.heap.size < w4.heap.size := by omega
  have HFB3 := hide (fun q (hq : q ∈ fs.flatten) (e : B3 = some ⟨q, 0, none⟩) => unhide HA23 q e (by rw [hfp]; exact List.mem_append_right _ hq))
  have HFB1 := hide (fun q (hq : q ∈ fs.flatten) (e : B1 = some ⟨q, 0, none⟩) => unhide HA12 q e (by rw [hfp]; exact List.mem_append_right _ hq))
  have HB34 := hide (fun q (e : B3 = some ⟨q, 0, none⟩) => (unhide HRG q (.inr (.inr e))).2)
  have HB14 := hide (fun q (e : B1 = some ⟨q, 0, none⟩) => (unhide HRG q (.inl e)).2)
  clear hr1 hrB hr3 hfp
  go_wp2_with (first | (refine wpList_store_row rfl 27 (.tmp 6) (.tmp 12) rfl w4.heap.size #[.slice B1 t.base.length d1, .slice B2 t.blocks.length d2, .slice B3 t.before.length d3] rfl rfl 27 #[.slice none 0 0, .slice none 0 0, .slice none 0 0] (box_new w4 27 #[.slice none 0 0, .slice none 0 0, .slice none 0 0] #[.slice B1 t.base.length d1, .slice B2 t.blocks.length d2, .slice B3 t.before.length d3]).1 info_tr rfl (sl3_one _ _ _ _ _ _ _ _ _) ?_; refine at_world (C := fun W => wpList _ _ _ _ _ W) (F := fun W => Blk W w4.heap.size 27 #[.slice B1 t.base.length d1, .slice B2 t.blocks.length d2, .slice B3 t.before.length d3] ∧ Below w4.heap.size w4 W) ⟨(box_new w4 27 #[.slice none 0 0, .slice none 0 0, .slice none 0 0] #[.slice B1 t.base.length d1, .slice B2 t.blocks.length d2, .slice B3 t.before.length d3]).2.1, (box_new w4 27 #[.slice none 0 0, .slice none 0 0, .slice none 0 0] #[.slice B1 t.base.length d1, .slice B2 t.blocks.length d2, .slice B3 t.before.length d3]).2.2⟩ ?_; rintro w5 ⟨k6, b5⟩; have v35 : w5.cell? ⟨w.heap.size + 1, 3, none⟩ = some (.slice A b.list.length c) := (k1.new_ b5).cell 3; have hl6 := k6.lt; have hxw5 : w.heap.size + 1 < w5.heap.size := (by omega); have oe := own_made (base := w5.heap.size) (e := 101) (size := 4) w5 #[] 0 (Nat.le_refl _) (by simp [maxLen]) rfl; have be : Below w4.heap.size w4 (w5.alloc (.cells #[] 101)) := bthen b5 ((Below.refl _ _).alloc (Nat.le_refl _) _)) | (at_builtin; refine wpList_app0 rfl (.tmp 13) (.tmp 15) 48 rfl el_actz rfl oe rfl (unhide HRL _ (bthen hb0 be)) (len_acts b.list) (one_acts2 b.list) (by simp only [maxLen]; omega) (by omega) (by simp) ?_; intro A7 c7 w7 o7 b7; have b47 := bthen be b7; have k17 := k1.new_ b47; have u0 : w7.cell? ⟨w.heap.size + 1, 0, none⟩ = some _ := k17.cell 0; have u1 : w7.cell? ⟨w.heap.size + 1, 1, none⟩ = some _ := k17.cell 1; have u2 : w7.cell? ⟨w.heap.size + 1, 2, none⟩ = some _ := k17.cell 2; have u3 : w7.cell? ⟨w.heap.size + 1, 3, none⟩ = some _ := k17.cell 3; have u4 : w7.cell? ⟨w.heap.size + 1, 4, none⟩ = some _ := k17.cell 4; have u5 : w7.cell? ⟨w.heap.size + 1, 5, none⟩ = some _ := k17.cell 5; have f3 : w7.frozen? ⟨w.heap.size + 1, 3, none⟩ = false := k17.frozen 3; have k67 := (k6.new_ ((Below.refl _ _).alloc (Nat.le_refl _) _)).new_ b7; have g1 : w7.cell? ⟨w4.heap.size, 1, none⟩ = some (.slice B2 t.blocks.length d2) := k67.cell 1; have chS : Chg (fun q => q = w.heap.size + 1) w7 (w7.setCell ⟨w.heap.size + 1, 3, none⟩ (.slice A7 b.list.length c7)) := (Chg.refl (fun q => q = w.heap.size + 1) w7).setCell (p := ⟨w.heap.size + 1, 3, none⟩) (.inl rfl) _; have hs7 := b47.size; have oB7 := own_chg (own_new oB b47) chS (fun q hq e => by have := unhide HRB q hq; omega); have o37 := own_chg (own_new o3 b47) chS (fun q hq e => by have := unhide HR3 q hq; omega); have o7s := own_chg o7 chS (fun q hq e => by have := own_rng o7 q hq; omega); have k67s := k67.chg chS (by omega); have es : (w7.setCell ⟨w.heap.size + 1, 3, none⟩ (.slice A7 b.list.length c7)).heap.size = w7.heap.size := (by simp); have rl := rd_lit (w7.setCell ⟨w.heap.size + 1, 3, none⟩ (.slice A7 b.list.length c7)) (bkV b A7 c7) 50; rw [es] at rl; clear es; have hne : w4.heap.size ≠ w.heap.size + 1 := (by omega)) | (at_builtin; refine wpList_app rfl (.tmp 19) (.tmp 21) 24 rfl el_bk rfl (own_alloc oB7 _) rfl rl rfl (bkV_one b A7 c7) (by simp only [maxLen]; omega) (by omega) (by simp; omega) ?_; intro A8 c8 w8 o8 ch8 d8 _; have k68 := (k67s.alloc (.cells (bkV b A7 c7).toArray 50)).chg ch8 (fun e => by have := unhide HRB _ e; omega); have h1 : w8.cell? ⟨w4.heap.size, 1, none⟩ = some (.slice B2 t.blocks.length d2) := k68.cell 1; have h2 : w8.frozen? ⟨w4.heap.size, 1, none⟩ = false := k68.frozen 1))
  have chG : Chg (fun q => q = w4.heap.size) w8 (w8.setCell ⟨w4.heap.size, 1, none⟩ (.slice A8 (t.blocks.length + 1) c8)) := (Chg.refl (fun q => q = w4.heap.size) w8).setCell (p := ⟨w4.heap.size, 1, none⟩) (.inl rfl) _
  have hs8 := ch8.size
  have hsS := chS.size
  have hsG := chG.size
  simp only [World.size_alloc, World.size_setCell] at hs8 hsS hsG
  have hx : bkO b (w7.setCell ⟨w.heap.size + 1, 3, none⟩ (.slice A7 b.list.length c7)) (bkV b A7 c7) (blk A7) := ⟨A7, c7, rfl, own_base0 o7s, rfl⟩
  have hlt4 := hall.lt bkO_good
  have key7 : ∀ q, q < w4.heap.size → q ≠ w.heap.size + 1 → (w7.setCell ⟨w.heap.size + 1, 3, none⟩ (.slice A7 b.list.length c7)).heap[q]? = w4.heap[q]? := fun q h1 h2 => by rw [chS.block q (by omega) h2, b47.block q h1]
  have hfb : ∀ q ∈ blk A7, w4.heap.size ≤ q := fun q hq => by have := (blk_own o7s hq).2.1; omega
  obtain ⟨hall8, hnd8, hF8, hown8⟩ := grow_step3 bkO_good bk_good hall hnd hF oB (by omega) (by simp; omega) (fun q hq hqw => key7 q hqw (by have := (hF q hq).1; omega)) hx (blk_nodup _) hfb ch8 d8 (by simpa [bkV] using o8)
  have o38 := own_chg (own_chg (own_alloc o37 (.cells (bkV b A7 c7).toArray 50)) ch8 (fun q hq e => own_ne o3 oB ne_ib q hq e)) chG (fun q hq e => by have := unhide HR3 q hq; have := unhide HRG q (.inr (.inr hq)); omega)
  have o18 := own_chg (own_chg (own_alloc (own_chg (own_new o1 b47) chS (fun q hq e => by have := unhide HR1 q hq; omega)) (.cells (bkV b A7 c7).toArray 50)) ch8 (fun q hq e => own_ne o1 oB ne_eb q hq e)) chG (fun q hq e => by have := unhide HR1 q hq; omega)
  have hr8 := own_rng hown8
  have hlt8 := hall8.lt bkO_good
  have hA8 : ∀ q, A8 = some ⟨q, 0, none⟩ → q ≠ w4.heap.size := fun q hq => by
    rcases d8 with rfl | ⟨rfl, _⟩
    · have := unhide HRB q hq; omega
    · injection hq with hq; injection hq with hq; simp at hq; omega
  have hfn : ∀ q ∈ (fs ++ [blk A7]).flatten, q ≠ w4.heap.size := fun q hq => by
    rw [List.flatten_append] at hq
    rcases List.mem_append.1 hq with hq | hq
    · have := hlt4 q hq; omega
    · have := (blk_own o7s (show q ∈ blk A7 by simpa using hq)).2.1; omega
  have hall9 := hall8.keep bkO_good (w' := (w8.setCell ⟨w4.heap.size, 1, none⟩ (.slice A8 (t.blocks.length + 1) c8))) (fun q hq hqw => chG.block q hqw (hfn q hq))
  have hown9 := own_chg hown8 chG (fun q hq e => hA8 q hq e)
  have k69 : Blk (w8.setCell ⟨w4.heap.size, 1, none⟩ (.slice A8 (t.blocks.length + 1) c8)) w4.heap.size 27 #[.slice B1 t.base.length d1, .slice A8 (t.blocks.length + 1) c8, .slice B3 t.before.length d3] := k68.set_ 1 _
  have keep9 : ∀ q, q < w4.heap.size → q ≠ w.heap.size + 1 → (¬ B2 = some ⟨q, 0, none⟩) → (w8.setCell ⟨w4.heap.size, 1, none⟩ (.slice A8 (t.blocks.length + 1) c8)).heap[q]? = w4.heap[q]? := fun q h1 h2 h3 => by rw [chG.block q (by omega) (by omega), ch8.block q (by simp; omega) h3, Below.heap_alloc _ _ _ (by simp; omega), key7 q h1 h2]
  have kb9 : Blk (w8.setCell ⟨w4.heap.size, 1, none⟩ (.slice A8 (t.blocks.length + 1) c8)) w.heap.size 27 #[.slice A1 t.base.length c1, .slice A2 t.blocks.length c2, .slice A3 t.before.length c3] := (keep9 w.heap.size (by omega) (by omega) (fun e => by have := unhide HRB _ e; omega)).trans k0
  have kr9 : Blk (w8.setCell ⟨w4.heap.size, 1, none⟩ (.slice A8 (t.blocks.length + 1) c8)) (w.heap.size + 1 + 1) 27 #[.slice none 0 0, .slice none 0 0, .slice none 0 0] := (keep9 (w.heap.size + 1 + 1) (by omega) (by omega) (fun e => by have := unhide HRB _ e; omega)).trans kr
  have c19 : (w8.setCell ⟨w4.heap.size, 1, none⟩ (.slice A8 (t.blocks.length + 1) c8)).cell? ⟨w.heap.size + 1, 0, none⟩ = some (.int .i64 b.before) := (((((k17.set_ 3 (.slice A7 b.list.length c7)).alloc (.cells (bkV b A7 c7).toArray 50)).chg ch8 (fun e => by have := unhide HRB _ e; omega)).chg chG (by omega)).cell 0)
  have hl19 : w.heap.size + 1 < (w8.setCell ⟨w4.heap.size, 1, none⟩ (.slice A8 (t.blocks.length + 1) c8)).heap.size := by simp only [World.size_setCell]; omega
  have hB9 : Below w.heap.size w (w8.setCell ⟨w4.heap.size, 1, none⟩ (.slice A8 (t.blocks.length + 1) c8)) := hb0.trans ⟨chG.os.trans (ch8.os.trans (chS.os.trans b47.os)), chG.tape.trans (ch8.tape.trans (chS.tape.trans b47.tape)), chG.output.trans (ch8.output.trans (chS.output.trans b47.output)), by simp only [World.size_setCell]; omega, fun q hq => keep9 q (by omega) (by omega) (fun e => by have := unhide HRB q e; omega)⟩
  have hs49 : w4.heap.size < (w8.setCell ⟨w4.heap.size, 1, none⟩ (.slice A8 (t.blocks.length + 1) c8)).heap.size := by simp only [World.size_setCell]; omega
  obtain ⟨w9, hw9⟩ : ∃ w9, w9 = (w8.setCell ⟨w4.heap.size, 1, none⟩ (.slice A8 (t.blocks.length + 1) c8)) := ⟨_, rfl⟩
  rw [← hw9] at hall9 hown9 k69 kb9 kr9 c19 hl19 hB9 hs49 o38 o18 ⊢
  clear hw9 keep9 chG ch8 k68 k67s k67 oB7 o37 o7s o8 h1 h2 hr8 hs8 hs7 hsS hsG chS rl key7 hall8 hlt8 hlt4 hall d8 u0 u1 u2 u3 u4 u5 f3 g1 k17 b7 b47 be oe b5 k6
  have HX := hide (fun (w' : World) (hb : Below w9.heap.size w9 w') => show (w'.cell? ⟨w.heap.size, 0, none⟩ = some (.slice A1 t.base.length c1) ∧ w'.cell? ⟨w.heap.size, 1, none⟩ = some (.slice A2 t.blocks.length c2) ∧ w'.cell? ⟨w.heap.size, 2, none⟩ = some (.slice A3 t.before.length c3)) ∧ w'.cell? ⟨w4.heap.size, 2, none⟩ = some (.slice B3 t.before.length d3) ∧ w'.cell? ⟨w.heap.size + 1, 0, none⟩ = some (.int .i64 b.before) ∧ Below w.heap.size w w' from ⟨⟨(kb9.new_ hb).cell 0, (kb9.new_ hb).cell 1, (kb9.new_ hb).cell 2⟩, (k69.new_ hb).cell 2, (hb.cell (p := ⟨w.heap.size + 1, 0, none⟩) hl19).trans c19, bthen hB9 hb⟩)
  have hF : StBL [bV (.pointer (some ⟨w4.heap.size, 2, none⟩)), bV (.slice B3 t.before.length d3), bV (.agg #[.slice A1 t.base.length c1, .slice A2 t.blocks.length c2, .slice A3 t.before.length c3]), bV (.pointer (some ⟨w.heap.size + 1, 0, none⟩)), bV (.int .i64 b.before), bV (.int .i64 (findB t.blocks b.before)), rowI2 (findB t.blocks b.before)] :=
    ⟨sb_V _, sb_V _, sb_V _, sb_V _, sb_V _, sb_V _, sb_rowI2 _, trivial⟩
  go_upto_region 6 with fail
  refine wp_region_loc (by kernel_rfl) [(0, some 24), (1, some 25), (2, some 26), (3, some 27), (4, some 28), (5, some 29), (6, some 30)] [[], [(0, some 24)], [], [], [(3, some 27)], [(2, some 26), (4, some 28)], [(5, some 29)]] (by kernel_rfl)
    (locB _) (fun a b => Below a.heap.size a b) noR [0, 0, 0, 0, 0, 0, 0] 0 (by kernel_rfl) (fun _ => Below.refl _ _) (fun _ _ _ => bthen) (locB_st hF _) trivial ?_ ?_
  · refine steps_cons ?s0 ( steps_cons ?s1 ( steps_cons ?s2 ( steps_cons ?s3 ( steps_cons ?s4 ( steps_cons ?s5 ( steps_cons ?s6 steps_nil))))))
    case s0 =>
      intro w' m' hE hR
      intro Q hQ
      go_wp2
      exact hQ _ _ _ rfl rfl (Below.refl _ _) trivial
    case s1 =>
      intro w' m' hE hR
      rintro _ rfl Q hQ
      obtain ⟨⟨s1, s2, s3⟩, s4, s5, s6⟩ := unhide HX w' (below_undrew hE)
      go_wp2
      exact hQ _ _ _ rfl rfl (Below.refl _ _) trivial
    case s2 =>
      intro w' m' hE hR
      intro Q hQ
      obtain ⟨⟨s1, s2, s3⟩, s4, s5, s6⟩ := unhide HX w' (below_undrew hE)
      go_wp2
      exact hQ _ _ _ rfl rfl (Below.refl _ _) trivial
    case s3 =>
      intro w' m' hE hR
      intro Q hQ
      go_wp2
      exact hQ _ _ _ rfl rfl (Below.refl _ _) trivial
    case s4 =>
      intro w' m' hE hR
      rintro _ rfl Q hQ
      obtain ⟨⟨s1, s2, s3⟩, s4, s5, s6⟩ := unhide HX w' (below_undrew hE)
      go_wp2
      exact hQ _ _ _ rfl rfl (Below.refl _ _) trivial
    case s5 =>
      intro w' m' hE hR
      rintro _ rfl _ rfl Q hQ
      obtain ⟨⟨s1, s2, s3⟩, s4, s5, s6⟩ := unhide HX w' (below_undrew hE)
      go_wp2_with fail
      refine (unhide HFN w' s6).mono ?_
      rintro e w1 ⟨rfl, b1⟩
      go_wp2
      exact hQ _ _ _ rfl rfl b1 trivial
    case s6 =>
      intro w' m' hE hR
      rintro _ rfl Q hQ
      go_wp2
      exact hQ _ _ _ rfl ⟨_, rfl, rd_lit w' [.int .i64 (findB t.blocks b.before)] _⟩ ((Below.refl _ _).alloc (Nat.le_refl _) _) trivial
  intro w10 hE _
  rintro v0 - v1 hv1 v2 - v3 - v4 - v5 - v6 ⟨ql, rfl, rl⟩
  obtain rfl : v1 = _ := hv1
  change wpList _ _ _ [_, _, _] _ _
  simp only [Act.put, List.setIfInBounds_toArray, List.set_cons_succ, List.set_cons_zero]
  have b10 := below_undrew hE
  clear hE hF
  have hs10 := b10.size
  have o310 := own_new o38 b10
  have k610 := k69.new_ b10
  have hlt9 := hall9.lt bkO_good
  go_wp2_with (at_builtin; refine wpList_app rfl (.tmp 25) (.tmp 30) 25 rfl el_int rfl o310 rfl rl rfl (one_ints [findB t.blocks b.before]) (by simp only [maxLen]; omega) (by omega) (by omega) ?_; intro D8 e8 w11 o11 ch11 d11 _; have k611 := k610.chg ch11 (fun e => by have := unhide HB34 _ e; omega); have h1 : w11.cell? ⟨w4.heap.size, 2, none⟩ = some (.slice B3 t.before.length d3) := k611.cell 2; have h2 : w11.frozen? ⟨w4.heap.size, 2, none⟩ = false := k611.frozen 2; have h3 : w11.cell? ⟨w4.heap.size, 0, none⟩ = some (.slice B1 t.base.length d1) := k611.cell 0; have h4 : w11.cell? ⟨w4.heap.size, 1, none⟩ = some (.slice A8 (t.blocks.length + 1) c8) := k611.cell 1)
  have chH : Chg (fun q => q = w4.heap.size) w11 (w11.setCell ⟨w4.heap.size, 2, none⟩ (.slice D8 (t.before.length + 1) e8)) := (Chg.refl (fun q => q = w4.heap.size) w11).setCell (p := ⟨w4.heap.size, 2, none⟩) (.inl rfl) _
  have hs11 := ch11.size
  have hD8 : ∀ q, D8 = some ⟨q, 0, none⟩ → q ≠ w4.heap.size := fun q hq => by
    rcases d11 with rfl | ⟨rfl, _⟩
    · have := unhide HB34 q hq; omega
    · injection hq with hq; injection hq with hq; omega
  have keep12 : ∀ q, q < w9.heap.size → q ≠ w4.heap.size → (¬ B3 = some ⟨q, 0, none⟩) → (w11.setCell ⟨w4.heap.size, 2, none⟩ (.slice D8 (t.before.length + 1) e8)).heap[q]? = w9.heap[q]? := fun q h1 h2 h3 => by rw [chH.block q (by omega) h2, ch11.block q (by omega) h3, b10.block q h1]
  have hfb3 : ∀ q ∈ (fs ++ [blk A7]).flatten, B3 ≠ some ⟨q, 0, none⟩ := fun q hq e => by
    rw [List.flatten_append] at hq
    rcases List.mem_append.1 hq with hq | hq
    · exact unhide HFB3 q hq e
    · have := hfb q (by simpa using hq); have := unhide HB34 q e; omega
  have hfb1 : ∀ q ∈ (fs ++ [blk A7]).flatten, B1 ≠ some ⟨q, 0, none⟩ := fun q hq e => by
    rw [List.flatten_append] at hq
    rcases List.mem_append.1 hq with hq | hq
    · exact unhide HFB1 q hq e
    · have := hfb q (by simpa using hq); have := unhide HB14 q e; omega
  have hall12 := hall9.keep bkO_good (w' := (w11.setCell ⟨w4.heap.size, 2, none⟩ (.slice D8 (t.before.length + 1) e8))) (fun q hq hqw => keep12 q hqw (hfn q hq) (hfb3 q hq))
  have hown12 := own_keep hown9 (w' := (w11.setCell ⟨w4.heap.size, 2, none⟩ (.slice D8 (t.before.length + 1) e8))) (fun q hq hqw => keep12 q hqw (hA8 q hq) (own_ne hown9 o38 ne_bi2 q hq))
  have o112 := own_keep o18 (w' := (w11.setCell ⟨w4.heap.size, 2, none⟩ (.slice D8 (t.before.length + 1) e8))) (fun q hq hqw => keep12 q hqw (by have := unhide HB14 q hq; omega) (own_ne o18 o38 ne_ei q hq))
  have o312 := own_chg o11 chH (fun q hq e => hD8 q hq e)
  have kr12 : Blk (w11.setCell ⟨w4.heap.size, 2, none⟩ (.slice D8 (t.before.length + 1) e8)) (w.heap.size + 1 + 1) 27 #[.slice none 0 0, .slice none 0 0, .slice none 0 0] := (keep12 _ (by omega) (by omega) (fun e => by have := unhide HR3 _ e; omega)).trans kr9
  have kb12 : Blk (w11.setCell ⟨w4.heap.size, 2, none⟩ (.slice D8 (t.before.length + 1) e8)) w.heap.size 27 #[.slice A1 t.base.length c1, .slice A2 t.blocks.length c2, .slice A3 t.before.length c3] := (keep12 _ (by omega) (by omega) (fun e => by have := unhide HR3 _ e; omega)).trans kb9
  have k612 : Blk (w11.setCell ⟨w4.heap.size, 2, none⟩ (.slice D8 (t.before.length + 1) e8)) w4.heap.size 27 #[.slice B1 t.base.length d1, .slice A8 (t.blocks.length + 1) c8, .slice D8 (t.before.length + 1) e8] := k611.set_ 2 _
  have hB12 : Below w.heap.size w (w11.setCell ⟨w4.heap.size, 2, none⟩ (.slice D8 (t.before.length + 1) e8)) := hB9.trans ⟨chH.os.trans (ch11.os.trans b10.os), chH.tape.trans (ch11.tape.trans b10.tape), chH.output.trans (ch11.output.trans b10.output), by simp only [World.size_setCell]; omega, fun q hq => keep12 q (by omega) (by omega) (fun e => by have := unhide HR3 q e; omega)⟩
  have hgd := grow_done (xs := t.blocks ++ [b]) hall12 hnd8 hF8 (by simpa using hown12)
  have tX : TrO (w11.setCell ⟨w4.heap.size, 2, none⟩ (.slice D8 (t.before.length + 1) e8)) w3.heap.size (pbX t b) B1 d1 A8 c8 D8 e8 (blk A8 ++ (fs ++ [blk A7]).flatten) := by
    refine ⟨own_base o112 (Nat.le_refl _), hgd.1, by simpa [pbX] using o312, hgd.2, fun q hq hq2 => ?_, own_ne o112 o312 ne_ei, fun q hq hq2 => ?_⟩
    · rcases List.mem_append.1 hq2 with h5 | h5
      · exact own_ne o112 hown12 ne_eb q hq (blk_own hown12 h5).1
      · exact hfb1 q h5 hq
    · rcases List.mem_append.1 hq2 with h5 | h5
      · exact own_ne o312 hown12 ne_ib q hq (blk_own hown12 h5).1
      · rcases d11 with rfl | ⟨rfl, _⟩
        · exact hfb3 q h5 hq
        · have := hlt9 q h5
          injection hq with hq; injection hq with hq; omega
  obtain ⟨w12, hw12⟩ : ∃ w12, w12 = (w11.setCell ⟨w4.heap.size, 2, none⟩ (.slice D8 (t.before.length + 1) e8)) := ⟨_, rfl⟩
  rw [← hw12] at tX kr12 kb12 k612 hB12 ⊢
  clear hw12 hgd o312 o112 hown12 hall12 hfb1 hfb3 keep12 hD8 chH ch11 k611 h1 h2 h3 h4 d11 o11 b10 hall9 hown9 o38 o18 k69 kb9 kr9 c19 hlt9 k610 o310 HX rl
  have hlx1 : (pbX t b).base.length = t.base.length := rfl
  have hlx2 : (pbX t b).blocks.length = t.blocks.length + 1 := by simp [pbX]
  have hlx3 : (pbX t b).before.length = t.before.length + 1 := by simp [pbX]
  have hbx : ∀ x ∈ (pbX t b).blocks, x.list.length ≤ 1099511627776 := fun x hx => by
    rcases List.mem_append.1 (show x ∈ t.blocks ++ [b] from hx) with h5 | h5
    · exact unhide HBS x h5
    · rw [List.mem_singleton] at h5; rw [h5]; omega
  have KX := treeValid_spec (pbX t b) B1 d1 A8 c8 D8 e8 w12 tX.rd (by omega) (by omega) hbx (by omega)
  simp only [trA] at KX
  rw [hlx1, hlx2, hlx3] at KX
  have HL1 := hide hlx1
  have HL2 := hide hlx2
  have HL3 := hide hlx3
  clear hlx1 hlx2 hlx3 hbx
  refine KX.mono ?_
  rintro e w13 ⟨rfl, b13⟩
  replace tX := tX.new b13
  replace kr12 := kr12.new_ b13
  replace kb12 := kb12.new_ b13
  replace k612 := k612.new_ b13
  replace hB12 := bthen hB12 b13
  have hl13 := kr12.lt
  clear KX b13
  have y0 : w13.cell? ⟨w.heap.size, 0, none⟩ = some (.slice A1 t.base.length c1) := kb12.cell 0
  have y1 : w13.cell? ⟨w.heap.size, 1, none⟩ = some (.slice A2 t.blocks.length c2) := kb12.cell 1
  have y2 : w13.cell? ⟨w.heap.size, 2, none⟩ = some (.slice A3 t.before.length c3) := kb12.cell 2
  have g0 : w13.cell? ⟨w4.heap.size, 0, none⟩ = some (.slice B1 t.base.length d1) := k612.cell 0
  have g1 : w13.cell? ⟨w4.heap.size, 1, none⟩ = some (.slice A8 (t.blocks.length + 1) c8) := k612.cell 1
  have g2 : w13.cell? ⟨w4.heap.size, 2, none⟩ = some (.slice D8 (t.before.length + 1) e8) := k612.cell 2
  cases hvx : treeB (pbX t b)
  · have HF := hide (show pbOk t b = false by simp [pbOk, hvx])
    have HA := hide (pbT_out (unhide HV) hvx)
    clear hvx
    go_wp2_with fail
    refine (unhide HCL w13 hB12).mono ?_
    rintro e w14 ⟨E1, f1, E2, f2, E3, f3, fq, rfl, tE, b14⟩
    replace kr12 := kr12.new_ b14
    have hs14 := b14.size
    go_wp2_with (refine wpList_store_row rfl 27 (.tmp 4) (.tmp 37) rfl (w.heap.size + 1 + 1) #[.slice E1 t.base.length f1, .slice E2 t.blocks.length f2, .slice E3 t.before.length f3] rfl rfl 27 #[.slice none 0 0, .slice none 0 0, .slice none 0 0] kr12 info_tr rfl (sl3_one _ _ _ _ _ _ _ _ _) ?_)
    refine bodyPost_ret (v := .tuple #[.agg #[.slice E1 t.base.length f1, .slice E2 t.blocks.length f2, .slice E3 t.before.length f3], .bool false]) (results_cell_tmp (p := 4) (q := 5) (ty := 27) rfl _ _ (w.heap.size + 1 + 1) 27 #[.slice E1 t.base.length f1, .slice E2 t.blocks.length f2, .slice E3 t.before.length f3] (0, 0) _ rfl (blk_setRow kr12) Tryz.underlying27 rfl info_tr) rfl ?_
    rw [unhide HA, unhide HF]
    exact ⟨E1, f1, E2, f2, E3, f3, fq, rfl, trO_base2 (trO_setRow2 tE (by omega) _) (by omega), below_setRow (bthen hB12 b14) (by omega) _⟩
  have HF := hide (show pbOk t b = true by rw [pbOk, unhide HV, hvx]; rfl)
  have HA := hide (pbT_yes (unhide HV) hvx)
  clear hvx
  go_wp2_with (refine wpList_store_row rfl 27 (.tmp 4) (.tmp 38) rfl (w.heap.size + 1 + 1) #[.slice B1 t.base.length d1, .slice A8 (t.blocks.length + 1) c8, .slice D8 (t.before.length + 1) e8] rfl rfl 27 #[.slice none 0 0, .slice none 0 0, .slice none 0 0] kr12 info_tr rfl (sl3_one _ _ _ _ _ _ _ _ _) ?_)
  refine bodyPost_ret (v := .tuple #[.agg #[.slice B1 t.base.length d1, .slice A8 (t.blocks.length + 1) c8, .slice D8 (t.before.length + 1) e8], .bool true]) (results_cell_tmp (p := 4) (q := 5) (ty := 27) rfl _ _ (w.heap.size + 1 + 1) 27 #[.slice B1 t.base.length d1, .slice A8 (t.blocks.length + 1) c8, .slice D8 (t.before.length + 1) e8] (0, 0) _ rfl (blk_setRow kr12) Tryz.underlying27 rfl info_tr) rfl ?_
  rw [unhide HA, unhide HF]
  refine ⟨B1, d1, A8, c8, D8, e8, _, ?_, trO_base2 (trO_setRow2 tX (by omega) _) (by omega), below_setRow hB12 (by omega) _⟩
  rw [unhide HL1, unhide HL2, unhide HL3]
end Go.Proofs.YtefdhlfljpppfaaGreat
namespace Go.Proofs.YtefdhlfljpppfaaGreat
open Go.RowKit
set_option linter.unusedVariables false
set_option linter.unusedSimpArgs false

def entN (x : Ent) : List Int := [x.k, x.v]
def effL (e : Eff) : List Int := [if e.done = true then 1 else 0, (e.reads.length : Int)] ++ e.reads.flatMap entN ++ e.writes.flatMap entN
/-- the sum of an effect -/
def effSum (e : Eff) : Int := sumF 3 (effL e)
theorem entN_len (xs : List Ent) : (xs.flatMap entN).length = 2 * xs.length := by
  induction xs with
  | nil => rfl
  | cons x xs ih => rw [List.flatMap_cons, List.length_append, ih, List.length_cons]; simp [entN]; omega
theorem entN_take (pre : List Int) (xs : List Ent) (k : Nat) (hk : k < xs.length) : (pre ++ (xs.take k).flatMap entN).map (Value.int .i64) ++ [.int .i64 xs[k].k, .int .i64 xs[k].v] = (pre ++ (xs.take (k + 1)).flatMap entN).map (Value.int .i64) := by
  rw [List.take_succ_eq_append_getElem hk, List.flatMap_append]
  simp [entN]
set_option maxRecDepth 100000 in
set_option maxHeartbeats 8000000 in
theorem effectSum_spec (x : Eff) (A1 : Option Addr) (c1 : Nat) (A2 : Option Addr) (c2 : Nat) (w : World) (h1 : Rd w A1 (x.reads.flatMap encE)) (h2 : Rd w A2 (x.writes.flatMap encE)) (hb1 : x.reads.length ≤ 1000000) (hb2 : x.writes.length ≤ 1000000) :
    Calls Tryz.prog 130 #[.agg #[.bool x.done, .slice A1 x.reads.length c1, .slice A2 x.writes.length c2]] w fun e w' => e = .returned (.int .i64 (effSum x)) ∧ Below w.heap.size w w' := by
  obtain ⟨dn, rs, ws⟩ := x
  simp only at h1 h2 hb1 hb2 ⊢
  cases dn
  · have HS := hide (show effSum ⟨false, rs, ws⟩ = sumF 3 ([0, (rs.length : Int)] ++ rs.flatMap entN ++ ws.flatMap entN) from by simp [effSum, effL])
    have k0 : Blk ((w.alloc (.cells #[.bool false, .slice A1 rs.length c1, .slice A2 ws.length c2] 83)).alloc (.cells #[.int .i64 0, .int .i64 (rs.length : Int)] 3)) w.heap.size 83 #[.bool false, .slice A1 rs.length c1, .slice A2 ws.length c2] := (Blk.new _ _ _).alloc _
    have om : ((w.alloc (.cells #[.bool false, .slice A1 rs.length c1, .slice A2 ws.length c2] 83)).alloc (.cells #[.int .i64 0, .int .i64 (rs.length : Int)] 3)).ownsRow (w.heap.size + 1) 3 1 (.slice (some ⟨w.heap.size + 1, 0, none⟩) 2 2) 2 [.int .i64 0, .int .i64 (rs.length : Int)] := by
      have := own_made (base := w.heap.size + 1) (e := 3) (size := 1) (w.alloc (.cells #[.bool false, .slice A1 rs.length c1, .slice A2 ws.length c2] 83)) #[.int .i64 0, .int .i64 (rs.length : Int)] 2 (by simp) (by simp [maxLen]) rfl
      simpa using this
    have bm : Below w.heap.size w ((w.alloc (.cells #[.bool false, .slice A1 rs.length c1, .slice A2 ws.length c2] 83)).alloc (.cells #[.int .i64 0, .int .i64 (rs.length : Int)] 3)) := ((Below.refl _ _).alloc (Nat.le_refl _) _).alloc (by simp) _
    have x0 : ((w.alloc (.cells #[.bool false, .slice A1 rs.length c1, .slice A2 ws.length c2] 83)).alloc (.cells #[.int .i64 0, .int .i64 (rs.length : Int)] 3)).cell? ⟨w.heap.size, 0, none⟩ = some (.bool false) := k0.cell 0
    have x1 : (w.alloc (.cells #[.bool false, .slice A1 rs.length c1, .slice A2 ws.length c2] 83)).cell? ⟨w.heap.size, 1, none⟩ = some (.slice A1 rs.length c1) := (Blk.new w 83 #[.bool false, .slice A1 rs.length c1, .slice A2 ws.length c2]).cell 1
    go_enter Tryz.func130, Tryz.ntmps130
    go_wp2
    go_loopw [3, 4] (fun ns i wr => ∃ (k : Nat) (A' : Option Addr) (c' : Nat), k ≤ rs.length ∧ i = .int .i64 k ∧ ns = .slice A' (2 + 2 * k) c' ∧ wr.ownsRow (w.heap.size + 1) 3 1 (.slice A' (2 + 2 * k) c') (2 + 2 * k) (([0, (rs.length : Int)] ++ (rs.take k).flatMap entN).map (.int .i64)) ∧ w.heap.size + 1 ≤ wr.heap.size ∧ Blk wr w.heap.size 83 #[.bool false, .slice A1 rs.length c1, .slice A2 ws.length c2] ∧ Below w.heap.size w wr) (fun _ i _ => rs.length - (intOf i).toNat)
    case atStart => exact ⟨0, _, _, Nat.zero_le _, rfl, rfl, by simpa using om, by simp, k0, bm⟩
    case round =>
      clear om k0 bm x0 x1
      obtain ⟨k, A', c', hk, rfl, rfl, hown, hwr, kb, hB⟩ := hrel
      have y0 : wr.cell? ⟨w.heap.size, 0, none⟩ = some _ := kb.cell 0
      have y1 : wr.cell? ⟨w.heap.size, 1, none⟩ = some (.slice A1 rs.length c1) := kb.cell 1
      have y2 : wr.cell? ⟨w.heap.size, 2, none⟩ = some (.slice A2 ws.length c2) := kb.cell 2
      by_cases hlt : k < rs.length
      · have i1 : (k : Int) < (rs.length : Int) := by omega
        obtain ⟨bq, offq, hAe, hbb, q0, q1⟩ := (h1.new hB).ent hlt
        have HT := hide (entN_take [0, (rs.length : Int)] rs k hlt)
        generalize rs[k] = en at *
        have HAE := hide hAe
        have HX := hide (fun (w' : World) (hb : Below wr.heap.size wr w') => show w'.cell? ⟨w.heap.size, 1, none⟩ = some (.slice A1 rs.length c1) ∧ w'.cell? ⟨bq, offq + k * 2, none⟩ = some (.int .i64 en.k) ∧ w'.cell? ⟨bq, offq + k * 2 + 1, none⟩ = some (.int .i64 en.v) from ⟨(kb.new_ hb).cell 1, (hb.cell (p := ⟨bq, offq + k * 2, none⟩) hbb).trans q0, (hb.cell (p := ⟨bq, offq + k * 2 + 1, none⟩) hbb).trans q1⟩)
        clear hAe q0 q1
        go_wp2
        have hF : StBL [bV (.slice A' (2 + 2 * k) c'), bV (.pointer (some ⟨w.heap.size, 1, none⟩)), bV (.slice (some ⟨bq, offq, none⟩) rs.length c1), bV (.int .i64 (k : Int)), bV (.pointer (some ⟨bq, offq + k * 2, none⟩)), bV (.pointer (some ⟨bq, offq + k * 2 + 0, none⟩)), bV (.int .i64 en.k), bV (.pointer (some ⟨w.heap.size, 1, none⟩)), bV (.slice (some ⟨bq, offq, none⟩) rs.length c1), bV (.int .i64 (k : Int)), bV (.pointer (some ⟨bq, offq + k * 2, none⟩)), bV (.pointer (some ⟨bq, offq + k * 2 + 1, none⟩)), bV (.int .i64 en.v), bRowN wr.heap.size 2 [en.k, en.v]] :=
          ⟨sb_V _, sb_V _, sb_V _, sb_V _, sb_V _, sb_V _, sb_V _, sb_V _, sb_V _, sb_V _, sb_V _, sb_V _, sb_V _, sb_RowN _ _ _, trivial⟩
        go_upto_region 7 with fail
        refine wp_region_loc (by kernel_rfl) [(0, some 21), (1, some 22), (2, some 23), (3, some 24), (4, some 25), (5, some 26), (6, some 27), (7, some 28), (8, some 29), (9, some 30), (10, some 31), (11, some 32), (12, some 33), (13, some 34)] [[], [], [(1, some 22)], [], [(2, some 23), (3, some 24)], [(4, some 25)], [(5, some 26)], [], [(7, some 28)], [], [(8, some 29), (9, some 30)], [(10, some 31)], [(11, some 32)], [(6, some 27), (12, some 33)]] (by kernel_rfl)
          (locB _) (fun a b => Below a.heap.size a b) noR [0, 0, 0, 0, 0, 0, 0, 0, 0, 0, 0, 0, 0, 0] 0 (by kernel_rfl) (fun _ => Below.refl _ _) (fun _ _ _ => bthen) (locB_st hF _) trivial ?_ ?_
        · refine steps_cons ?s0 ( steps_cons ?s1 ( steps_cons ?s2 ( steps_cons ?s3 ( steps_cons ?s4 ( steps_cons ?s5 ( steps_cons ?s6 ( steps_cons ?s7 ( steps_cons ?s8 ( steps_cons ?s9 ( steps_cons ?s10 ( steps_cons ?s11 ( steps_cons ?s12 ( steps_cons ?s13 steps_nil)))))))))))))
          case s0 =>
            intro w' m' hE hR
            intro Q hQ
            go_wp2
            exact hQ _ _ _ rfl rfl (Below.refl _ _) trivial
          case s1 =>
            intro w' m' hE hR
            intro Q hQ
            go_wp2
            exact hQ _ _ _ rfl rfl (Below.refl _ _) trivial
          case s2 =>
            intro w' m' hE hR
            rintro _ rfl Q hQ
            obtain ⟨s1, s2, s3⟩ := unhide HX w' (below_undrew hE)
            rw [unhide HAE] at s1
            go_wp2
            exact hQ _ _ _ rfl rfl (Below.refl _ _) trivial
          case s3 =>
            intro w' m' hE hR
            intro Q hQ
            go_wp2
            exact hQ _ _ _ rfl rfl (Below.refl _ _) trivial
          case s4 =>
            intro w' m' hE hR
            rintro _ rfl _ rfl Q hQ
            go_wp2
            exact hQ _ _ _ rfl rfl (Below.refl _ _) trivial
          case s5 =>
            intro w' m' hE hR
            rintro _ rfl Q hQ
            go_wp2
            exact hQ _ _ _ rfl rfl (Below.refl _ _) trivial
          case s6 =>
            intro w' m' hE hR
            rintro _ rfl Q hQ
            obtain ⟨s1, s2, s3⟩ := unhide HX w' (below_undrew hE)
            go_wp2
            exact hQ _ _ _ rfl rfl (Below.refl _ _) trivial
          case s7 =>
            intro w' m' hE hR
            intro Q hQ
            go_wp2
            exact hQ _ _ _ rfl rfl (Below.refl _ _) trivial
          case s8 =>
            intro w' m' hE hR
            rintro _ rfl Q hQ
            obtain ⟨s1, s2, s3⟩ := unhide HX w' (below_undrew hE)
            rw [unhide HAE] at s1
            go_wp2
            exact hQ _ _ _ rfl rfl (Below.refl _ _) trivial
          case s9 =>
            intro w' m' hE hR
            intro Q hQ
            go_wp2
            exact hQ _ _ _ rfl rfl (Below.refl _ _) trivial
          case s10 =>
            intro w' m' hE hR
            rintro _ rfl _ rfl Q hQ
            go_wp2
            exact hQ _ _ _ rfl rfl (Below.refl _ _) trivial
          case s11 =>
            intro w' m' hE hR
            rintro _ rfl Q hQ
            go_wp2
            exact hQ _ _ _ rfl rfl (Below.refl _ _) trivial
          case s12 =>
            intro w' m' hE hR
            rintro _ rfl Q hQ
            obtain ⟨s1, s2, s3⟩ := unhide HX w' (below_undrew hE)
            go_wp2
            exact hQ _ _ _ rfl rfl (Below.refl _ _) trivial
          case s13 =>
            intro w' m' hE hR
            rintro _ rfl _ rfl Q hQ
            have hsz := hE.size
            go_wp2
            exact hQ _ _ _ rfl ⟨w'.heap.size, rfl, hsz, Blk.new _ _ _⟩ ((Below.refl _ _).alloc (Nat.le_refl _) _) trivial
        intro w9 hE _
        rintro v0 hv0 v1 - v2 - v3 - v4 - v5 - v6 - v7 - v8 - v9 - v10 - v11 - v12 - v13 ⟨ql, rfl, hql, kl⟩
        obtain rfl : v0 = _ := hv0
        change wpList _ _ _ [_, _] _ _
        simp only [Act.put, List.setIfInBounds_toArray, List.set_cons_succ, List.set_cons_zero]
        have b9 := below_undrew hE
        have o9 := own_new hown b9
        have hs9 := b9.size
        have hrg := own_rng hown
        go_wp2_with (at_builtin; refine wpList_app rfl (.tmp 21) (.tmp 34) 25 rfl el_int rfl o9 rfl (blk_rd kl) rfl (one_ints [en.k, en.v]) (by simp only [maxLen]; omega) (by omega) (by omega) ?_; intro A8 c8 w8 o8 ch8 d8 _)
        have kb8 := (kb.new_ b9).chg ch8 (fun e => by have := hrg _ e; omega)
        have hs8 := ch8.size
        have hB8 : Below w.heap.size w w8 := (bthen hB b9).trans (ch8.below (fun q hq e => by have := hrg q e; omega) (by omega))
        go_roundw
        case rel => exact ⟨k + 1, A8, c8, by omega, by go_num, by simp; omega, by rw [← unhide HT]; simpa [Nat.mul_add, Nat.add_assoc] using o8, by omega, kb8, hB8⟩
        case measure => simp [intOf]; omega
      · obtain rfl : k = rs.length := by omega
        rw [List.take_length] at hown
        have HP := hide (own_rng hown)
        go_wp2
        go_loopw [3, 5] (fun ns i wr => ∃ (k : Nat) (A' : Option Addr) (c' : Nat), k ≤ ws.length ∧ i = .int .i64 k ∧ ns = .slice A' ((2 + 2 * rs.length) + 2 * k) c' ∧ wr.ownsRow (w.heap.size + 1) 3 1 (.slice A' ((2 + 2 * rs.length) + 2 * k) c') ((2 + 2 * rs.length) + 2 * k) ((([0, (rs.length : Int)] ++ rs.flatMap entN) ++ (ws.take k).flatMap entN).map (.int .i64)) ∧ w.heap.size + 1 ≤ wr.heap.size ∧ Blk wr w.heap.size 83 #[.bool false, .slice A1 rs.length c1, .slice A2 ws.length c2] ∧ Below w.heap.size w wr) (fun _ i _ => ws.length - (intOf i).toNat)
        case atStart => exact ⟨0, _, _, Nat.zero_le _, rfl, rfl, by simpa using hown, hwr, kb, hB⟩
        case round =>
          clear hown kb hB hwr y0 y1 y2
          obtain ⟨k, A', c', hk, rfl, rfl, hown, hwr, kb, hB⟩ := hrel
          have y0 : wr.cell? ⟨w.heap.size, 0, none⟩ = some _ := kb.cell 0
          have y1 : wr.cell? ⟨w.heap.size, 1, none⟩ = some (.slice A1 rs.length c1) := kb.cell 1
          have y2 : wr.cell? ⟨w.heap.size, 2, none⟩ = some (.slice A2 ws.length c2) := kb.cell 2
          by_cases hlt : k < ws.length
          · have i1 : (k : Int) < (ws.length : Int) := by omega
            obtain ⟨bq, offq, hAe, hbb, q0, q1⟩ := (h2.new hB).ent hlt
            have HT := hide (entN_take ([0, (rs.length : Int)] ++ rs.flatMap entN) ws k hlt)
            generalize ws[k] = en at *
            have HAE := hide hAe
            have HX := hide (fun (w' : World) (hb : Below wr.heap.size wr w') => show w'.cell? ⟨w.heap.size, 2, none⟩ = some (.slice A2 ws.length c2) ∧ w'.cell? ⟨bq, offq + k * 2, none⟩ = some (.int .i64 en.k) ∧ w'.cell? ⟨bq, offq + k * 2 + 1, none⟩ = some (.int .i64 en.v) from ⟨(kb.new_ hb).cell 2, (hb.cell (p := ⟨bq, offq + k * 2, none⟩) hbb).trans q0, (hb.cell (p := ⟨bq, offq + k * 2 + 1, none⟩) hbb).trans q1⟩)
            clear hAe q0 q1
            go_wp2
            have hF : StBL [bV (.slice A' ((2 + 2 * rs.length) + 2 * k) c'), bV (.pointer (some ⟨w.heap.size, 2, none⟩)), bV (.slice (some ⟨bq, offq, none⟩) ws.length c2), bV (.int .i64 (k : Int)), bV (.pointer (some ⟨bq, offq + k * 2, none⟩)), bV (.pointer (some ⟨bq, offq + k * 2 + 0, none⟩)), bV (.int .i64 en.k), bV (.pointer (some ⟨w.heap.size, 2, none⟩)), bV (.slice (some ⟨bq, offq, none⟩) ws.length c2), bV (.int .i64 (k : Int)), bV (.pointer (some ⟨bq, offq + k * 2, none⟩)), bV (.pointer (some ⟨bq, offq + k * 2 + 1, none⟩)), bV (.int .i64 en.v), bRowN wr.heap.size 2 [en.k, en.v]] :=
              ⟨sb_V _, sb_V _, sb_V _, sb_V _, sb_V _, sb_V _, sb_V _, sb_V _, sb_V _, sb_V _, sb_V _, sb_V _, sb_V _, sb_RowN _ _ _, trivial⟩
            go_upto_region 11 with fail
            refine wp_region_loc (by kernel_rfl) [(0, some 43), (1, some 44), (2, some 45), (3, some 46), (4, some 47), (5, some 48), (6, some 49), (7, some 50), (8, some 51), (9, some 52), (10, some 53), (11, some 54), (12, some 55), (13, some 56)] [[], [], [(1, some 44)], [], [(2, some 45), (3, some 46)], [(4, some 47)], [(5, some 48)], [], [(7, some 50)], [], [(8, some 51), (9, some 52)], [(10, some 53)], [(11, some 54)], [(6, some 49), (12, some 55)]] (by kernel_rfl)
              (locB _) (fun a b => Below a.heap.size a b) noR [0, 0, 0, 0, 0, 0, 0, 0, 0, 0, 0, 0, 0, 0] 0 (by kernel_rfl) (fun _ => Below.refl _ _) (fun _ _ _ => bthen) (locB_st hF _) trivial ?_ ?_
            · refine steps_cons ?s0 ( steps_cons ?s1 ( steps_cons ?s2 ( steps_cons ?s3 ( steps_cons ?s4 ( steps_cons ?s5 ( steps_cons ?s6 ( steps_cons ?s7 ( steps_cons ?s8 ( steps_cons ?s9 ( steps_cons ?s10 ( steps_cons ?s11 ( steps_cons ?s12 ( steps_cons ?s13 steps_nil)))))))))))))
              case s0 =>
                intro w' m' hE hR
                intro Q hQ
                go_wp2
                exact hQ _ _ _ rfl rfl (Below.refl _ _) trivial
              case s1 =>
                intro w' m' hE hR
                intro Q hQ
                go_wp2
                exact hQ _ _ _ rfl rfl (Below.refl _ _) trivial
              case s2 =>
                intro w' m' hE hR
                rintro _ rfl Q hQ
                obtain ⟨s1, s2, s3⟩ := unhide HX w' (below_undrew hE)
                rw [unhide HAE] at s1
                go_wp2
                exact hQ _ _ _ rfl rfl (Below.refl _ _) trivial
              case s3 =>
                intro w' m' hE hR
                intro Q hQ
                go_wp2
                exact hQ _ _ _ rfl rfl (Below.refl _ _) trivial
              case s4 =>
                intro w' m' hE hR
                rintro _ rfl _ rfl Q hQ
                go_wp2
                exact hQ _ _ _ rfl rfl (Below.refl _ _) trivial
              case s5 =>
                intro w' m' hE hR
                rintro _ rfl Q hQ
                go_wp2
                exact hQ _ _ _ rfl rfl (Below.refl _ _) trivial
              case s6 =>
                intro w' m' hE hR
                rintro _ rfl Q hQ
                obtain ⟨s1, s2, s3⟩ := unhide HX w' (below_undrew hE)
                go_wp2
                exact hQ _ _ _ rfl rfl (Below.refl _ _) trivial
              case s7 =>
                intro w' m' hE hR
                intro Q hQ
                go_wp2
                exact hQ _ _ _ rfl rfl (Below.refl _ _) trivial
              case s8 =>
                intro w' m' hE hR
                rintro _ rfl Q hQ
                obtain ⟨s1, s2, s3⟩ := unhide HX w' (below_undrew hE)
                rw [unhide HAE] at s1
                go_wp2
                exact hQ _ _ _ rfl rfl (Below.refl _ _) trivial
              case s9 =>
                intro w' m' hE hR
                intro Q hQ
                go_wp2
                exact hQ _ _ _ rfl rfl (Below.refl _ _) trivial
              case s10 =>
                intro w' m' hE hR
                rintro _ rfl _ rfl Q hQ
                go_wp2
                exact hQ _ _ _ rfl rfl (Below.refl _ _) trivial
              case s11 =>
                intro w' m' hE hR
                rintro _ rfl Q hQ
                go_wp2
                exact hQ _ _ _ rfl rfl (Below.refl _ _) trivial
              case s12 =>
                intro w' m' hE hR
                rintro _ rfl Q hQ
                obtain ⟨s1, s2, s3⟩ := unhide HX w' (below_undrew hE)
                go_wp2
                exact hQ _ _ _ rfl rfl (Below.refl _ _) trivial
              case s13 =>
                intro w' m' hE hR
                rintro _ rfl _ rfl Q hQ
                have hsz := hE.size
                go_wp2
                exact hQ _ _ _ rfl ⟨w'.heap.size, rfl, hsz, Blk.new _ _ _⟩ ((Below.refl _ _).alloc (Nat.le_refl _) _) trivial
            intro w9 hE _
            rintro v0 hv0 v1 - v2 - v3 - v4 - v5 - v6 - v7 - v8 - v9 - v10 - v11 - v12 - v13 ⟨ql, rfl, hql, kl⟩
            obtain rfl : v0 = _ := hv0
            change wpList _ _ _ [_, _] _ _
            simp only [Act.put, List.setIfInBounds_toArray, List.set_cons_succ, List.set_cons_zero]
            have b9 := below_undrew hE
            have o9 := own_new hown b9
            have hs9 := b9.size
            have hrg := own_rng hown
            go_wp2_with (at_builtin; refine wpList_app rfl (.tmp 43) (.tmp 56) 25 rfl el_int rfl o9 rfl (blk_rd kl) rfl (one_ints [en.k, en.v]) (by simp only [maxLen]; omega) (by omega) (by omega) ?_; intro A8 c8 w8 o8 ch8 d8 _)
            have kb8 := (kb.new_ b9).chg ch8 (fun e => by have := hrg _ e; omega)
            have hs8 := ch8.size
            have hB8 : Below w.heap.size w w8 := (bthen hB b9).trans (ch8.below (fun q hq e => by have := hrg q e; omega) (by omega))
            go_roundw
            case rel => exact ⟨k + 1, A8, c8, by omega, by go_num, by simp; omega, by rw [← unhide HT]; simpa [Nat.mul_add, Nat.add_assoc] using o8, by omega, kb8, hB8⟩
            case measure => simp [intOf]; omega
          · obtain rfl : k = ws.length := by omega
            rw [List.take_length] at hown
            have hlen : (([0, (rs.length : Int)] ++ rs.flatMap entN) ++ ws.flatMap entN).length = 2 + 2 * rs.length + 2 * ws.length := by rw [List.length_append, List.length_append, entN_len, entN_len]; rfl
            have hrd := own_rd hown
            have KS := sumOf_spec 3 A' c' (([0, (rs.length : Int)] ++ rs.flatMap entN) ++ ws.flatMap entN) wr hrd (by omega)
            rw [hlen, ← unhide HS] at KS
            have HLEN := hide hlen
            clear hlen
            go_wp2_with fail
            refine KS.mono ?_
            rintro e w' ⟨rfl, rfl⟩
            go_wp2
            go_ret
            exact ⟨rfl, hB⟩
  · have HS := hide (show effSum ⟨true, rs, ws⟩ = sumF 3 ([1, (rs.length : Int)] ++ rs.flatMap entN ++ ws.flatMap entN) from by simp [effSum, effL])
    have k0 : Blk ((w.alloc (.cells #[.bool true, .slice A1 rs.length c1, .slice A2 ws.length c2] 83)).alloc (.cells #[.int .i64 1, .int .i64 (rs.length : Int)] 3)) w.heap.size 83 #[.bool true, .slice A1 rs.length c1, .slice A2 ws.length c2] := (Blk.new _ _ _).alloc _
    have om : ((w.alloc (.cells #[.bool true, .slice A1 rs.length c1, .slice A2 ws.length c2] 83)).alloc (.cells #[.int .i64 1, .int .i64 (rs.length : Int)] 3)).ownsRow (w.heap.size + 1) 3 1 (.slice (some ⟨w.heap.size + 1, 0, none⟩) 2 2) 2 [.int .i64 1, .int .i64 (rs.length : Int)] := by
      have := own_made (base := w.heap.size + 1) (e := 3) (size := 1) (w.alloc (.cells #[.bool true, .slice A1 rs.length c1, .slice A2 ws.length c2] 83)) #[.int .i64 1, .int .i64 (rs.length : Int)] 2 (by simp) (by simp [maxLen]) rfl
      simpa using this
    have bm : Below w.heap.size w ((w.alloc (.cells #[.bool true, .slice A1 rs.length c1, .slice A2 ws.length c2] 83)).alloc (.cells #[.int .i64 1, .int .i64 (rs.length : Int)] 3)) := ((Below.refl _ _).alloc (Nat.le_refl _) _).alloc (by simp) _
    have x0 : ((w.alloc (.cells #[.bool true, .slice A1 rs.length c1, .slice A2 ws.length c2] 83)).alloc (.cells #[.int .i64 1, .int .i64 (rs.length : Int)] 3)).cell? ⟨w.heap.size, 0, none⟩ = some (.bool true) := k0.cell 0
    have x1 : (w.alloc (.cells #[.bool true, .slice A1 rs.length c1, .slice A2 ws.length c2] 83)).cell? ⟨w.heap.size, 1, none⟩ = some (.slice A1 rs.length c1) := (Blk.new w 83 #[.bool true, .slice A1 rs.length c1, .slice A2 ws.length c2]).cell 1
    have om0 : ((w.alloc (.cells #[.bool true, .slice A1 rs.length c1, .slice A2 ws.length c2] 83)).alloc (.cells #[.int .i64 0, .int .i64 (rs.length : Int)] 3)).ownsRow (w.heap.size + 1) 3 1 (.slice (some ⟨w.heap.size + 1, 0, none⟩) 2 2) 2 [.int .i64 0, .int .i64 (rs.length : Int)] := by
      have := own_made (base := w.heap.size + 1) (e := 3) (size := 1) (w.alloc (.cells #[.bool true, .slice A1 rs.length c1, .slice A2 ws.length c2] 83)) #[.int .i64 0, .int .i64 (rs.length : Int)] 2 (by simp) (by simp [maxLen]) rfl
      simpa using this
    have z0 : ((w.alloc (.cells #[.bool true, .slice A1 rs.length c1, .slice A2 ws.length c2] 83)).alloc (.cells #[.int .i64 0, .int .i64 (rs.length : Int)] 3)).cell? ⟨w.heap.size + 1, 0, none⟩ = some (.int .i64 0) := own_cell om0 0 (by simp)
    have z1 : ((w.alloc (.cells #[.bool true, .slice A1 rs.length c1, .slice A2 ws.length c2] 83)).alloc (.cells #[.int .i64 0, .int .i64 (rs.length : Int)] 3)).frozen? ⟨w.heap.size + 1, 0, none⟩ = false := own_frozen om0 0
    have z2 : ((w.alloc (.cells #[.bool true, .slice A1 rs.length c1, .slice A2 ws.length c2] 83)).alloc (.cells #[.int .i64 0, .int .i64 (rs.length : Int)] 3)).cell? ⟨w.heap.size, 0, none⟩ = some (.bool true) := ((Blk.new w 83 #[.bool true, .slice A1 rs.length c1, .slice A2 ws.length c2]).alloc _).cell 0
    go_enter Tryz.func130, Tryz.ntmps130
    go_wp2
    go_loopw [3, 4] (fun ns i wr => ∃ (k : Nat) (A' : Option Addr) (c' : Nat), k ≤ rs.length ∧ i = .int .i64 k ∧ ns = .slice A' (2 + 2 * k) c' ∧ wr.ownsRow (w.heap.size + 1) 3 1 (.slice A' (2 + 2 * k) c') (2 + 2 * k) (([1, (rs.length : Int)] ++ (rs.take k).flatMap entN).map (.int .i64)) ∧ w.heap.size + 1 ≤ wr.heap.size ∧ Blk wr w.heap.size 83 #[.bool true, .slice A1 rs.length c1, .slice A2 ws.length c2] ∧ Below w.heap.size w wr) (fun _ i _ => rs.length - (intOf i).toNat)
    case atStart => exact ⟨0, _, _, Nat.zero_le _, rfl, rfl, by simpa using om, by simp, k0, bm⟩
    case round =>
      clear om k0 bm x0 x1 om0 z0 z1 z2
      obtain ⟨k, A', c', hk, rfl, rfl, hown, hwr, kb, hB⟩ := hrel
      have y0 : wr.cell? ⟨w.heap.size, 0, none⟩ = some _ := kb.cell 0
      have y1 : wr.cell? ⟨w.heap.size, 1, none⟩ = some (.slice A1 rs.length c1) := kb.cell 1
      have y2 : wr.cell? ⟨w.heap.size, 2, none⟩ = some (.slice A2 ws.length c2) := kb.cell 2
      by_cases hlt : k < rs.length
      · have i1 : (k : Int) < (rs.length : Int) := by omega
        obtain ⟨bq, offq, hAe, hbb, q0, q1⟩ := (h1.new hB).ent hlt
        have HT := hide (entN_take [1, (rs.length : Int)] rs k hlt)
        generalize rs[k] = en at *
        have HAE := hide hAe
        have HX := hide (fun (w' : World) (hb : Below wr.heap.size wr w') => show w'.cell? ⟨w.heap.size, 1, none⟩ = some (.slice A1 rs.length c1) ∧ w'.cell? ⟨bq, offq + k * 2, none⟩ = some (.int .i64 en.k) ∧ w'.cell? ⟨bq, offq + k * 2 + 1, none⟩ = some (.int .i64 en.v) from ⟨(kb.new_ hb).cell 1, (hb.cell (p := ⟨bq, offq + k * 2, none⟩) hbb).trans q0, (hb.cell (p := ⟨bq, offq + k * 2 + 1, none⟩) hbb).trans q1⟩)
        clear hAe q0 q1
        go_wp2
        have hF : StBL [bV (.slice A' (2 + 2 * k) c'), bV (.pointer (some ⟨w.heap.size, 1, none⟩)), bV (.slice (some ⟨bq, offq, none⟩) rs.length c1), bV (.int .i64 (k : Int)), bV (.pointer (some ⟨bq, offq + k * 2, none⟩)), bV (.pointer (some ⟨bq, offq + k * 2 + 0, none⟩)), bV (.int .i64 en.k), bV (.pointer (some ⟨w.heap.size, 1, none⟩)), bV (.slice (some ⟨bq, offq, none⟩) rs.length c1), bV (.int .i64 (k : Int)), bV (.pointer (some ⟨bq, offq + k * 2, none⟩)), bV (.pointer (some ⟨bq, offq + k * 2 + 1, none⟩)), bV (.int .i64 en.v), bRowN wr.heap.size 2 [en.k, en.v]] :=
          ⟨sb_V _, sb_V _, sb_V _, sb_V _, sb_V _, sb_V _, sb_V _, sb_V _, sb_V _, sb_V _, sb_V _, sb_V _, sb_V _, sb_RowN _ _ _, trivial⟩
        go_upto_region 7 with fail
        refine wp_region_loc (by kernel_rfl) [(0, some 21), (1, some 22), (2, some 23), (3, some 24), (4, some 25), (5, some 26), (6, some 27), (7, some 28), (8, some 29), (9, some 30), (10, some 31), (11, some 32), (12, some 33), (13, some 34)] [[], [], [(1, some 22)], [], [(2, some 23), (3, some 24)], [(4, some 25)], [(5, some 26)], [], [(7, some 28)], [], [(8, some 29), (9, some 30)], [(10, some 31)], [(11, some 32)], [(6, some 27), (12, some 33)]] (by kernel_rfl)
          (locB _) (fun a b => Below a.heap.size a b) noR [0, 0, 0, 0, 0, 0, 0, 0, 0, 0, 0, 0, 0, 0] 0 (by kernel_rfl) (fun _ => Below.refl _ _) (fun _ _ _ => bthen) (locB_st hF _) trivial ?_ ?_
        · refine steps_cons ?s0 ( steps_cons ?s1 ( steps_cons ?s2 ( steps_cons ?s3 ( steps_cons ?s4 ( steps_cons ?s5 ( steps_cons ?s6 ( steps_cons ?s7 ( steps_cons ?s8 ( steps_cons ?s9 ( steps_cons ?s10 ( steps_cons ?s11 ( steps_cons ?s12 ( steps_cons ?s13 steps_nil)))))))))))))
          case s0 =>
            intro w' m' hE hR
            intro Q hQ
            go_wp2
            exact hQ _ _ _ rfl rfl (Below.refl _ _) trivial
          case s1 =>
            intro w' m' hE hR
            intro Q hQ
            go_wp2
            exact hQ _ _ _ rfl rfl (Below.refl _ _) trivial
          case s2 =>
            intro w' m' hE hR
            rintro _ rfl Q hQ
            obtain ⟨s1, s2, s3⟩ := unhide HX w' (below_undrew hE)
            rw [unhide HAE] at s1
            go_wp2
            exact hQ _ _ _ rfl rfl (Below.refl _ _) trivial
          case s3 =>
            intro w' m' hE hR
            intro Q hQ
            go_wp2
            exact hQ _ _ _ rfl rfl (Below.refl _ _) trivial
          case s4 =>
            intro w' m' hE hR
            rintro _ rfl _ rfl Q hQ
            go_wp2
            exact hQ _ _ _ rfl rfl (Below.refl _ _) trivial
          case s5 =>
            intro w' m' hE hR
            rintro _ rfl Q hQ
            go_wp2
            exact hQ _ _ _ rfl rfl (Below.refl _ _) trivial
          case s6 =>
            intro w' m' hE hR
            rintro _ rfl Q hQ
            obtain ⟨s1, s2, s3⟩ := unhide HX w' (below_undrew hE)
            go_wp2
            exact hQ _ _ _ rfl rfl (Below.refl _ _) trivial
          case s7 =>
            intro w' m' hE hR
            intro Q hQ
            go_wp2
            exact hQ _ _ _ rfl rfl (Below.refl _ _) trivial
          case s8 =>
            intro w' m' hE hR
            rintro _ rfl Q hQ
            obtain ⟨s1, s2, s3⟩ := unhide HX w' (below_undrew hE)
            rw [unhide HAE] at s1
            go_wp2
            exact hQ _ _ _ rfl rfl (Below.refl _ _) trivial
          case s9 =>
            intro w' m' hE hR
            intro Q hQ
            go_wp2
            exact hQ _ _ _ rfl rfl (Below.refl _ _) trivial
          case s10 =>
            intro w' m' hE hR
            rintro _ rfl _ rfl Q hQ
            go_wp2
            exact hQ _ _ _ rfl rfl (Below.refl _ _) trivial
          case s11 =>
            intro w' m' hE hR
            rintro _ rfl Q hQ
            go_wp2
            exact hQ _ _ _ rfl rfl (Below.refl _ _) trivial
          case s12 =>
            intro w' m' hE hR
            rintro _ rfl Q hQ
            obtain ⟨s1, s2, s3⟩ := unhide HX w' (below_undrew hE)
            go_wp2
            exact hQ _ _ _ rfl rfl (Below.refl _ _) trivial
          case s13 =>
            intro w' m' hE hR
            rintro _ rfl _ rfl Q hQ
            have hsz := hE.size
            go_wp2
            exact hQ _ _ _ rfl ⟨w'.heap.size, rfl, hsz, Blk.new _ _ _⟩ ((Below.refl _ _).alloc (Nat.le_refl _) _) trivial
        intro w9 hE _
        rintro v0 hv0 v1 - v2 - v3 - v4 - v5 - v6 - v7 - v8 - v9 - v10 - v11 - v12 - v13 ⟨ql, rfl, hql, kl⟩
        obtain rfl : v0 = _ := hv0
        change wpList _ _ _ [_, _] _ _
        simp only [Act.put, List.setIfInBounds_toArray, List.set_cons_succ, List.set_cons_zero]
        have b9 := below_undrew hE
        have o9 := own_new hown b9
        have hs9 := b9.size
        have hrg := own_rng hown
        go_wp2_with (at_builtin; refine wpList_app rfl (.tmp 21) (.tmp 34) 25 rfl el_int rfl o9 rfl (blk_rd kl) rfl (one_ints [en.k, en.v]) (by simp only [maxLen]; omega) (by omega) (by omega) ?_; intro A8 c8 w8 o8 ch8 d8 _)
        have kb8 := (kb.new_ b9).chg ch8 (fun e => by have := hrg _ e; omega)
        have hs8 := ch8.size
        have hB8 : Below w.heap.size w w8 := (bthen hB b9).trans (ch8.below (fun q hq e => by have := hrg q e; omega) (by omega))
        go_roundw
        case rel => exact ⟨k + 1, A8, c8, by omega, by go_num, by simp; omega, by rw [← unhide HT]; simpa [Nat.mul_add, Nat.add_assoc] using o8, by omega, kb8, hB8⟩
        case measure => simp [intOf]; omega
      · obtain rfl : k = rs.length := by omega
        rw [List.take_length] at hown
        have HP := hide (own_rng hown)
        go_wp2
        go_loopw [3, 5] (fun ns i wr => ∃ (k : Nat) (A' : Option Addr) (c' : Nat), k ≤ ws.length ∧ i = .int .i64 k ∧ ns = .slice A' ((2 + 2 * rs.length) + 2 * k) c' ∧ wr.ownsRow (w.heap.size + 1) 3 1 (.slice A' ((2 + 2 * rs.length) + 2 * k) c') ((2 + 2 * rs.length) + 2 * k) ((([1, (rs.length : Int)] ++ rs.flatMap entN) ++ (ws.take k).flatMap entN).map (.int .i64)) ∧ w.heap.size + 1 ≤ wr.heap.size ∧ Blk wr w.heap.size 83 #[.bool true, .slice A1 rs.length c1, .slice A2 ws.length c2] ∧ Below w.heap.size w wr) (fun _ i _ => ws.length - (intOf i).toNat)
        case atStart => exact ⟨0, _, _, Nat.zero_le _, rfl, rfl, by simpa using hown, hwr, kb, hB⟩
        case round =>
          clear hown kb hB hwr y0 y1 y2
          obtain ⟨k, A', c', hk, rfl, rfl, hown, hwr, kb, hB⟩ := hrel
          have y0 : wr.cell? ⟨w.heap.size, 0, none⟩ = some _ := kb.cell 0
          have y1 : wr.cell? ⟨w.heap.size, 1, none⟩ = some (.slice A1 rs.length c1) := kb.cell 1
          have y2 : wr.cell? ⟨w.heap.size, 2, none⟩ = some (.slice A2 ws.length c2) := kb.cell 2
          by_cases hlt : k < ws.length
          · have i1 : (k : Int) < (ws.length : Int) := by omega
            obtain ⟨bq, offq, hAe, hbb, q0, q1⟩ := (h2.new hB).ent hlt
            have HT := hide (entN_take ([1, (rs.length : Int)] ++ rs.flatMap entN) ws k hlt)
            generalize ws[k] = en at *
            have HAE := hide hAe
            have HX := hide (fun (w' : World) (hb : Below wr.heap.size wr w') => show w'.cell? ⟨w.heap.size, 2, none⟩ = some (.slice A2 ws.length c2) ∧ w'.cell? ⟨bq, offq + k * 2, none⟩ = some (.int .i64 en.k) ∧ w'.cell? ⟨bq, offq + k * 2 + 1, none⟩ = some (.int .i64 en.v) from ⟨(kb.new_ hb).cell 2, (hb.cell (p := ⟨bq, offq + k * 2, none⟩) hbb).trans q0, (hb.cell (p := ⟨bq, offq + k * 2 + 1, none⟩) hbb).trans q1⟩)
            clear hAe q0 q1
            go_wp2
            have hF : StBL [bV (.slice A' ((2 + 2 * rs.length) + 2 * k) c'), bV (.pointer (some ⟨w.heap.size, 2, none⟩)), bV (.slice (some ⟨bq, offq, none⟩) ws.length c2), bV (.int .i64 (k : Int)), bV (.pointer (some ⟨bq, offq + k * 2, none⟩)), bV (.pointer (some ⟨bq, offq + k * 2 + 0, none⟩)), bV (.int .i64 en.k), bV (.pointer (some ⟨w.heap.size, 2, none⟩)), bV (.slice (some ⟨bq, offq, none⟩) ws.length c2), bV (.int .i64 (k : Int)), bV (.pointer (some ⟨bq, offq + k * 2, none⟩)), bV (.pointer (some ⟨bq, offq + k * 2 + 1, none⟩)), bV (.int .i64 en.v), bRowN wr.heap.size 2 [en.k, en.v]] :=
              ⟨sb_V _, sb_V _, sb_V _, sb_V _, sb_V _, sb_V _, sb_V _, sb_V _, sb_V _, sb_V _, sb_V _, sb_V _, sb_V _, sb_RowN _ _ _, trivial⟩
            go_upto_region 11 with fail
            refine wp_region_loc (by kernel_rfl) [(0, some 43), (1, some 44), (2, some 45), (3, some 46), (4, some 47), (5, some 48), (6, some 49), (7, some 50), (8, some 51), (9, some 52), (10, some 53), (11, some 54), (12, some 55), (13, some 56)] [[], [], [(1, some 44)], [], [(2, some 45), (3, some 46)], [(4, some 47)], [(5, some 48)], [], [(7, some 50)], [], [(8, some 51), (9, some 52)], [(10, some 53)], [(11, some 54)], [(6, some 49), (12, some 55)]] (by kernel_rfl)
              (locB _) (fun a b => Below a.heap.size a b) noR [0, 0, 0, 0, 0, 0, 0, 0, 0, 0, 0, 0, 0, 0] 0 (by kernel_rfl) (fun _ => Below.refl _ _) (fun _ _ _ => bthen) (locB_st hF _) trivial ?_ ?_
            · refine steps_cons ?s0 ( steps_cons ?s1 ( steps_cons ?s2 ( steps_cons ?s3 ( steps_cons ?s4 ( steps_cons ?s5 ( steps_cons ?s6 ( steps_cons ?s7 ( steps_cons ?s8 ( steps_cons ?s9 ( steps_cons ?s10 ( steps_cons ?s11 ( steps_cons ?s12 ( steps_cons ?s13 steps_nil)))))))))))))
              case s0 =>
                intro w' m' hE hR
                intro Q hQ
                go_wp2
                exact hQ _ _ _ rfl rfl (Below.refl _ _) trivial
              case s1 =>
                intro w' m' hE hR
                intro Q hQ
                go_wp2
                exact hQ _ _ _ rfl rfl (Below.refl _ _) trivial
              case s2 =>
                intro w' m' hE hR
                rintro _ rfl Q hQ
                obtain ⟨s1, s2, s3⟩ := unhide HX w' (below_undrew hE)
                rw [unhide HAE] at s1
                go_wp2
                exact hQ _ _ _ rfl rfl (Below.refl _ _) trivial
              case s3 =>
                intro w' m' hE hR
                intro Q hQ
                go_wp2
                exact hQ _ _ _ rfl rfl (Below.refl _ _) trivial
              case s4 =>
                intro w' m' hE hR
                rintro _ rfl _ rfl Q hQ
                go_wp2
                exact hQ _ _ _ rfl rfl (Below.refl _ _) trivial
              case s5 =>
                intro w' m' hE hR
                rintro _ rfl Q hQ
                go_wp2
                exact hQ _ _ _ rfl rfl (Below.refl _ _) trivial
              case s6 =>
                intro w' m' hE hR
                rintro _ rfl Q hQ
                obtain ⟨s1, s2, s3⟩ := unhide HX w' (below_undrew hE)
                go_wp2
                exact hQ _ _ _ rfl rfl (Below.refl _ _) trivial
              case s7 =>
                intro w' m' hE hR
                intro Q hQ
                go_wp2
                exact hQ _ _ _ rfl rfl (Below.refl _ _) trivial
              case s8 =>
                intro w' m' hE hR
                rintro _ rfl Q hQ
                obtain ⟨s1, s2, s3⟩ := unhide HX w' (below_undrew hE)
                rw [unhide HAE] at s1
                go_wp2
                exact hQ _ _ _ rfl rfl (Below.refl _ _) trivial
              case s9 =>
                intro w' m' hE hR
                intro Q hQ
                go_wp2
                exact hQ _ _ _ rfl rfl (Below.refl _ _) trivial
              case s10 =>
                intro w' m' hE hR
                rintro _ rfl _ rfl Q hQ
                go_wp2
                exact hQ _ _ _ rfl rfl (Below.refl _ _) trivial
              case s11 =>
                intro w' m' hE hR
                rintro _ rfl Q hQ
                go_wp2
                exact hQ _ _ _ rfl rfl (Below.refl _ _) trivial
              case s12 =>
                intro w' m' hE hR
                rintro _ rfl Q hQ
                obtain ⟨s1, s2, s3⟩ := unhide HX w' (below_undrew hE)
                go_wp2
                exact hQ _ _ _ rfl rfl (Below.refl _ _) trivial
              case s13 =>
                intro w' m' hE hR
                rintro _ rfl _ rfl Q hQ
                have hsz := hE.size
                go_wp2
                exact hQ _ _ _ rfl ⟨w'.heap.size, rfl, hsz, Blk.new _ _ _⟩ ((Below.refl _ _).alloc (Nat.le_refl _) _) trivial
            intro w9 hE _
            rintro v0 hv0 v1 - v2 - v3 - v4 - v5 - v6 - v7 - v8 - v9 - v10 - v11 - v12 - v13 ⟨ql, rfl, hql, kl⟩
            obtain rfl : v0 = _ := hv0
            change wpList _ _ _ [_, _] _ _
            simp only [Act.put, List.setIfInBounds_toArray, List.set_cons_succ, List.set_cons_zero]
            have b9 := below_undrew hE
            have o9 := own_new hown b9
            have hs9 := b9.size
            have hrg := own_rng hown
            go_wp2_with (at_builtin; refine wpList_app rfl (.tmp 43) (.tmp 56) 25 rfl el_int rfl o9 rfl (blk_rd kl) rfl (one_ints [en.k, en.v]) (by simp only [maxLen]; omega) (by omega) (by omega) ?_; intro A8 c8 w8 o8 ch8 d8 _)
            have kb8 := (kb.new_ b9).chg ch8 (fun e => by have := hrg _ e; omega)
            have hs8 := ch8.size
            have hB8 : Below w.heap.size w w8 := (bthen hB b9).trans (ch8.below (fun q hq e => by have := hrg q e; omega) (by omega))
            go_roundw
            case rel => exact ⟨k + 1, A8, c8, by omega, by go_num, by simp; omega, by rw [← unhide HT]; simpa [Nat.mul_add, Nat.add_assoc] using o8, by omega, kb8, hB8⟩
            case measure => simp [intOf]; omega
          · obtain rfl : k = ws.length := by omega
            rw [List.take_length] at hown
            have hlen : (([1, (rs.length : Int)] ++ rs.flatMap entN) ++ ws.flatMap entN).length = 2 + 2 * rs.length + 2 * ws.length := by rw [List.length_append, List.length_append, entN_len, entN_len]; rfl
            have hrd := own_rd hown
            have KS := sumOf_spec 3 A' c' (([1, (rs.length : Int)] ++ rs.flatMap entN) ++ ws.flatMap entN) wr hrd (by omega)
            rw [hlen, ← unhide HS] at KS
            have HLEN := hide hlen
            clear hlen
            go_wp2_with fail
            refine KS.mono ?_
            rintro e w' ⟨rfl, rfl⟩
            go_wp2
            go_ret
            exact ⟨rfl, hB⟩
def effsSum (es : List Eff) : Int := if es.length ≤ 10 then sumF 4 (es.map effSum) else -1
set_option maxRecDepth 100000 in
set_option maxHeartbeats 4000000 in
theorem effectsSum_spec (A : Option Addr) (c : Nat) (es : List Eff) (P : Nat → Prop) (w : World) (h : RdD effR P w A es) (hb : es.length ≤ 1000000) (hbs : ∀ x ∈ es, x.reads.length ≤ 1000000 ∧ x.writes.length ≤ 1000000) :
    Calls Tryz.prog 111 #[.slice A es.length c] w fun e w' => e = .returned (.int .i64 (effsSum es)) ∧ Below w.heap.size w w' := by
  have HBS := hide hbs
  clear hbs
  have om := own_made (base := w.heap.size) (e := 3) (size := 1) w #[] 0 (Nat.le_refl _) (by simp [maxLen]) rfl
  have bm : Below w.heap.size w (w.alloc (.cells #[] 3)) := (Below.refl _ _).alloc (Nat.le_refl _) _
  go_enter Tryz.func111, Tryz.ntmps111
  go_wp2
  go_loopw [3, 4] (fun ns i wr => ∃ (k : Nat) (A' : Option Addr) (c' : Nat), k ≤ es.length ∧ i = .int .i64 k ∧ ns = .slice A' k c' ∧ wr.ownsRow w.heap.size 3 1 (.slice A' k c') k (((es.take k).map effSum).map (.int .i64)) ∧ Below w.heap.size w wr) (fun _ i _ => es.length - (intOf i).toNat)
  case atStart => exact ⟨0, _, _, Nat.zero_le _, rfl, rfl, by simpa using om, bm⟩
  case round =>
    clear om bm
    obtain ⟨k, A', c', hk, rfl, rfl, hown, hB⟩ := hrel
    have hsz := hB.size
    by_cases hlt : k < es.length
    · have i1 : (k : Int) < (es.length : Int) := by omega
      obtain ⟨b, off, A1, c1, A2, c2, hAe, hbP, hbb, d0, d1, d2, hl1, hl2, r1, r2⟩ := (h.new eff_good hB).eff hlt
      have hbx := unhide HBS es[k] (List.getElem_mem hlt)
      have HT := hide (show (es.take (k + 1)).map effSum = (es.take k).map effSum ++ [effSum es[k]] by rw [List.take_succ_eq_append_getElem hlt, List.map_append]; rfl)
      generalize es[k] = x at *
      have HAE := hide hAe
      clear hAe hl1 hl2 hbP
      rw [unhide HAE]
      go_wp2_with fail
      refine (effectSum_spec x A1 c1 A2 c2 wr r1.rd r2.rd hbx.1 hbx.2).mono ?_
      rintro e w3 ⟨rfl, b3⟩
      have o3 := own_new hown b3
      have hs3 := b3.size
      have hrg := own_rng hown
      generalize effSum x = z at *
      go_wp2_with (at_builtin; refine wpList_app rfl (.tmp 12) (.tmp 18) 25 rfl el_int rfl (own_alloc o3 _) rfl (rd_lit w3 [.int .i64 z] _) rfl (one_ints [z]) (by simp only [maxLen]; omega) (by omega) (by simp; omega) ?_; intro A8 c8 w8 o8 ch8 d8 _)
      have hB8 : Below w.heap.size w w8 := ((bthen hB b3).alloc (by omega) _).trans (ch8.below (fun q hq e => by have := hrg q e; omega) (by simp; omega))
      go_roundw
      case rel => exact ⟨k + 1, A8, c8, by omega, by go_num, rfl, by rw [unhide HT, List.map_append]; simpa using o8, hB8⟩
      case measure => simp [intOf]; omega
    · obtain rfl : k = es.length := by omega
      rw [List.take_length] at hown
      by_cases hl : es.length ≤ 10
      · have HS := hide (show effsSum es = sumF 4 (es.map effSum) by rw [effsSum, if_pos hl])
        have i2 : ¬ (10 : Int) < (es.length : Int) := by omega
        have KS := sumOf_spec 4 A' c' (es.map effSum) wr (own_rd hown) (by rw [List.length_map]; omega)
        rw [List.length_map, ← unhide HS] at KS
        clear hl
        go_wp2_with fail
        refine KS.mono ?_
        rintro e w' ⟨rfl, rfl⟩
        go_wp2
        go_ret
        exact ⟨rfl, hB⟩
      · have HS := hide (show effsSum es = -1 by rw [effsSum, if_neg hl])
        have i2 : (10 : Int) < (es.length : Int) := by omega
        clear hl
        go_wp2
        go_ret
        exact ⟨reti (unhide HS).symm, hB⟩
end Go.Proofs.YtefdhlfljpppfaaGreat
namespace Go.Proofs.YtefdhlfljpppfaaGreat
open Go.RowKit
set_option linter.unusedVariables false
set_option linter.unusedSimpArgs false

def nextOk (b : Bk) (s : List Ent) (view : Int) (al : List Act) : Bool := blkB b && (!(b.height == 100) && (storeB s && (inB view (b.view + 1) 1000 && actsB al)))
def nextB (b : Bk) (s : List Ent) (view : Int) (al : List Act) : Bk := if nextOk b s view al = true then ⟨bsum b, b.height + 1, view, al, rootL (serialS s al), effsSum (serialE s al)⟩ else ⟨0, 0, 0, [], 0, 0⟩
theorem nextB_no {b : Bk} {s : List Ent} {view : Int} {al : List Act} (h : nextOk b s view al = false) : nextB b s view al = ⟨0, 0, 0, [], 0, 0⟩ := by rw [nextB, if_neg (by simp [h])]
theorem nextB_yes {b : Bk} {s : List Ent} {view : Int} {al : List Act} (h : nextOk b s view al = true) : nextB b s view al = ⟨bsum b, b.height + 1, view, al, rootL (serialS s al), effsSum (serialE s al)⟩ := by rw [nextB, if_pos h]
def aOwn (B : Nat) (al : List Act) (v : Value) (w : World) : Prop := ∃ A c, v = .slice A al.length c ∧ w.ownsRow B 101 4 (.slice A al.length c) al.length (al.flatMap encA)
theorem sb_aOwn (B : Nat) (al : List Act) : StB (aOwn B al) := fun _ _ _ hb ⟨A, c, h1, h2⟩ => ⟨A, c, h1, own_new h2 hb⟩
set_option maxRecDepth 100000 in
set_option maxHeartbeats 8000000 in
theorem next_spec (b : Bk) (A : Option Addr) (c : Nat) (S : Option Addr) (cs : Nat) (s : List Ent) (view : Int) (L : Option Addr) (cl : Nat) (al : List Act) (w : World) (h : Rd w A (b.list.flatMap encA)) (hs : Rd w S (s.flatMap encE)) (hl : Rd w L (al.flatMap encA)) (hb1 : b.list.length ≤ 1099511627776) (hb2 : s.length ≤ 1099511627776) (hb3 : al.length ≤ 1099511627776) :
    Calls Tryz.prog 105 #[.agg #[.int .i64 b.before, .int .i64 b.height, .int .i64 b.view, .slice A b.list.length c, .int .i64 b.root, .int .i64 b.eff], .slice S s.length cs, .int .i64 view, .slice L al.length cl] w fun e w' => ∃ B d, e = .returned (.tuple #[.agg #[.int .i64 (nextB b s view al).before, .int .i64 (nextB b s view al).height, .int .i64 (nextB b s view al).view, .slice B (nextB b s view al).list.length d, .int .i64 (nextB b s view al).root, .int .i64 (nextB b s view al).eff], .bool (nextOk b s view al)]) ∧ w'.ownsRow w.heap.size 101 4 (.slice B (nextB b s view al).list.length d) (nextB b s view al).list.length ((nextB b s view al).list.flatMap encA) ∧ Below w.heap.size w w' := by
  have HSL := hide (fun w' (hb : Below w.heap.size w w') => show Rd w' A (b.list.flatMap encA) ∧ Rd w' S (s.flatMap encE) ∧ Rd w' L (al.flatMap encA) from ⟨h.new hb, hs.new hb, hl.new hb⟩)
  have k0 : Blk ((w.alloc (.cells #[.int .i64 b.before, .int .i64 b.height, .int .i64 b.view, .slice A b.list.length c, .int .i64 b.root, .int .i64 b.eff] 50)).alloc (.cells #[.int .i64 0, .int .i64 0, .int .i64 0, .slice none 0 0, .int .i64 0, .int .i64 0] 50)) w.heap.size 50 #[.int .i64 b.before, .int .i64 b.height, .int .i64 b.view, .slice A b.list.length c, .int .i64 b.root, .int .i64 b.eff] := (Blk.new _ _ _).alloc _
  have kr : Blk ((w.alloc (.cells #[.int .i64 b.before, .int .i64 b.height, .int .i64 b.view, .slice A b.list.length c, .int .i64 b.root, .int .i64 b.eff] 50)).alloc (.cells #[.int .i64 0, .int .i64 0, .int .i64 0, .slice none 0 0, .int .i64 0, .int .i64 0] 50)) (w.heap.size + 1) 50 #[.int .i64 0, .int .i64 0, .int .i64 0, .slice none 0 0, .int .i64 0, .int .i64 0] := by
    have := Blk.new (w.alloc (.cells #[.int .i64 b.before, .int .i64 b.height, .int .i64 b.view, .slice A b.list.length c, .int .i64 b.root, .int .i64 b.eff] 50)) 50 #[.int .i64 0, .int .i64 0, .int .i64 0, .slice none 0 0, .int .i64 0, .int .i64 0]
    simpa using this
  have hb0 : Below w.heap.size w ((w.alloc (.cells #[.int .i64 b.before, .int .i64 b.height, .int .i64 b.view, .slice A b.list.length c, .int .i64 b.root, .int .i64 b.eff] 50)).alloc (.cells #[.int .i64 0, .int .i64 0, .int .i64 0, .slice none 0 0, .int .i64 0, .int .i64 0] 50)) := ((Below.refl _ _).alloc (Nat.le_refl _) _).alloc (by simp) _
  have hz0 := kr.lt
  have x0 : ((w.alloc (.cells #[.int .i64 b.before, .int .i64 b.height, .int .i64 b.view, .slice A b.list.length c, .int .i64 b.root, .int .i64 b.eff] 50)).alloc (.cells #[.int .i64 0, .int .i64 0, .int .i64 0, .slice none 0 0, .int .i64 0, .int .i64 0] 50)).cell? ⟨w.heap.size, 0, none⟩ = some (.int .i64 b.before) := k0.cell 0
  have x1 : ((w.alloc (.cells #[.int .i64 b.before, .int .i64 b.height, .int .i64 b.view, .slice A b.list.length c, .int .i64 b.root, .int .i64 b.eff] 50)).alloc (.cells #[.int .i64 0, .int .i64 0, .int .i64 0, .slice none 0 0, .int .i64 0, .int .i64 0] 50)).cell? ⟨w.heap.size, 1, none⟩ = some (.int .i64 b.height) := k0.cell 1
  have x2 : ((w.alloc (.cells #[.int .i64 b.before, .int .i64 b.height, .int .i64 b.view, .slice A b.list.length c, .int .i64 b.root, .int .i64 b.eff] 50)).alloc (.cells #[.int .i64 0, .int .i64 0, .int .i64 0, .slice none 0 0, .int .i64 0, .int .i64 0] 50)).cell? ⟨w.heap.size, 2, none⟩ = some (.int .i64 b.view) := k0.cell 2
  have x3 : ((w.alloc (.cells #[.int .i64 b.before, .int .i64 b.height, .int .i64 b.view, .slice A b.list.length c, .int .i64 b.root, .int .i64 b.eff] 50)).alloc (.cells #[.int .i64 0, .int .i64 0, .int .i64 0, .slice none 0 0, .int .i64 0, .int .i64 0] 50)).cell? ⟨w.heap.size, 3, none⟩ = some (.slice A b.list.length c) := k0.cell 3
  have x4 : ((w.alloc (.cells #[.int .i64 b.before, .int .i64 b.height, .int .i64 b.view, .slice A b.list.length c, .int .i64 b.root, .int .i64 b.eff] 50)).alloc (.cells #[.int .i64 0, .int .i64 0, .int .i64 0, .slice none 0 0, .int .i64 0, .int .i64 0] 50)).cell? ⟨w.heap.size, 4, none⟩ = some (.int .i64 b.root) := k0.cell 4
  have x5 : ((w.alloc (.cells #[.int .i64 b.before, .int .i64 b.height, .int .i64 b.view, .slice A b.list.length c, .int .i64 b.root, .int .i64 b.eff] 50)).alloc (.cells #[.int .i64 0, .int .i64 0, .int .i64 0, .slice none 0 0, .int .i64 0, .int .i64 0] 50)).cell? ⟨w.heap.size, 5, none⟩ = some (.int .i64 b.eff) := k0.cell 5
  clear h hs hl
  go_enter Tryz.func105, Tryz.ntmps105
  go_wp2_with fail
  refine (blockValid_spec b A c _ (unhide HSL _ hb0).1 (by omega)).mono ?_
  rintro e w1 ⟨rfl, b1⟩
  replace k0 := k0.new_ b1
  replace kr := kr.new_ b1
  replace hz0 := kr.lt
  replace hb0 := bthen hb0 b1
  clear b1 x0 x1 x2 x3 x4 x5
  have x1 : w1.cell? ⟨w.heap.size, 1, none⟩ = some (.int .i64 b.height) := k0.cell 1
  have x2 : w1.cell? ⟨w.heap.size, 2, none⟩ = some (.int .i64 b.view) := k0.cell 2
  cases hv : blkB b
  · have HF := hide (show nextOk b s view al = false by simp [nextOk, hv])
    have HA := hide (nextB_no (unhide HF))
    go_wp2_with (refine wpList_store_row rfl 50 (.tmp 8) (.tmp 38) rfl (w.heap.size + 1) #[.int .i64 0, .int .i64 0, .int .i64 0, .slice none 0 0, .int .i64 0, .int .i64 0] rfl rfl 50 #[.int .i64 0, .int .i64 0, .int .i64 0, .slice none 0 0, .int .i64 0, .int .i64 0] kr info_bkS rfl (bk6_one _ _ _ _ _ _ _ _) ?_)
    refine bodyPost_ret (v := .tuple #[.agg #[.int .i64 0, .int .i64 0, .int .i64 0, .slice none 0 0, .int .i64 0, .int .i64 0], .bool false]) (results_cell_tmp (p := 8) (q := 9) (ty := 50) rfl _ _ (w.heap.size + 1) 50 #[.int .i64 0, .int .i64 0, .int .i64 0, .slice none 0 0, .int .i64 0, .int .i64 0] (0, 0) _ rfl (blk_setRow kr) Tryz.underlying50 rfl info_bkS) rfl ?_
    rw [unhide HA, unhide HF]
    exact ⟨none, 0, rfl, own_nil _ _ _ _, below_setRow hb0 (by omega) _⟩
  by_cases hh : b.height = 100
  · have HF := hide (show nextOk b s view al = false by simp [nextOk, hh])
    have hh2 : (b.height == 100) = true := by simpa using hh
    clear hh hv
    have HA := hide (nextB_no (unhide HF))
    go_wp2_with (refine wpList_store_row rfl 50 (.tmp 8) (.tmp 38) rfl (w.heap.size + 1) #[.int .i64 0, .int .i64 0, .int .i64 0, .slice none 0 0, .int .i64 0, .int .i64 0] rfl rfl 50 #[.int .i64 0, .int .i64 0, .int .i64 0, .slice none 0 0, .int .i64 0, .int .i64 0] kr info_bkS rfl (bk6_one _ _ _ _ _ _ _ _) ?_)
    refine bodyPost_ret (v := .tuple #[.agg #[.int .i64 0, .int .i64 0, .int .i64 0, .slice none 0 0, .int .i64 0, .int .i64 0], .bool false]) (results_cell_tmp (p := 8) (q := 9) (ty := 50) rfl _ _ (w.heap.size + 1) 50 #[.int .i64 0, .int .i64 0, .int .i64 0, .slice none 0 0, .int .i64 0, .int .i64 0] (0, 0) _ rfl (blk_setRow kr) Tryz.underlying50 rfl info_bkS) rfl ?_
    rw [unhide HA, unhide HF]
    exact ⟨none, 0, rfl, own_nil _ _ _ _, below_setRow hb0 (by omega) _⟩
  have hh2 : (b.height == 100) = false := by simpa using hh
  have hhb : 0 ≤ b.height ∧ b.height ≤ 100 := by
    have hv2 := hv
    unfold blkB at hv2
    simp only [Bool.and_eq_true] at hv2
    exact inB_true.1 hv2.2.2.2.1
  have hvb : 0 ≤ b.view ∧ b.view ≤ 1000 := by
    have hv2 := hv
    unfold blkB at hv2
    simp only [Bool.and_eq_true] at hv2
    exact inB_true.1 hv2.2.2.2.2.1
  have HV := hide hv
  clear hv hh
  go_wp2_with fail
  refine (storeB_store_spec S cs s w1 (unhide HSL _ hb0).2.1 (by omega)).mono ?_
  rintro e w2 ⟨rfl, m, hm⟩
  have b2 := below_of_drewN hm
  clear hm x1 x2
  replace k0 := k0.new_ b2
  replace kr := kr.new_ b2
  replace hz0 := kr.lt
  replace hb0 := bthen hb0 b2
  clear b2
  have x2 : w2.cell? ⟨w.heap.size, 2, none⟩ = some (.int .i64 b.view) := k0.cell 2
  cases hst : storeB s
  · have HF := hide (show nextOk b s view al = false by simp [nextOk, hst])
    have HA := hide (nextB_no (unhide HF))
    go_wp2_with (refine wpList_store_row rfl 50 (.tmp 8) (.tmp 38) rfl (w.heap.size + 1) #[.int .i64 0, .int .i64 0, .int .i64 0, .slice none 0 0, .int .i64 0, .int .i64 0] rfl rfl 50 #[.int .i64 0, .int .i64 0, .int .i64 0, .slice none 0 0, .int .i64 0, .int .i64 0] kr info_bkS rfl (bk6_one _ _ _ _ _ _ _ _) ?_)
    refine bodyPost_ret (v := .tuple #[.agg #[.int .i64 0, .int .i64 0, .int .i64 0, .slice none 0 0, .int .i64 0, .int .i64 0], .bool false]) (results_cell_tmp (p := 8) (q := 9) (ty := 50) rfl _ _ (w.heap.size + 1) 50 #[.int .i64 0, .int .i64 0, .int .i64 0, .slice none 0 0, .int .i64 0, .int .i64 0] (0, 0) _ rfl (blk_setRow kr) Tryz.underlying50 rfl info_bkS) rfl ?_
    rw [unhide HA, unhide HF]
    exact ⟨none, 0, rfl, own_nil _ _ _ _, below_setRow hb0 (by omega) _⟩
  have HST := hide hst
  clear hst
  cases hin : inB view (b.view + 1) 1000
  · have HF := hide (show nextOk b s view al = false by simp [nextOk, hin])
    have HA := hide (nextB_no (unhide HF))
    go_wp2_with (first | (go_at_call 41; refine (l1In_any _ _ _ _).mono ?_; rintro e w' ⟨rfl, rfl⟩; rw [hin]) | (refine wpList_store_row rfl 50 (.tmp 8) (.tmp 38) rfl (w.heap.size + 1) #[.int .i64 0, .int .i64 0, .int .i64 0, .slice none 0 0, .int .i64 0, .int .i64 0] rfl rfl 50 #[.int .i64 0, .int .i64 0, .int .i64 0, .slice none 0 0, .int .i64 0, .int .i64 0] kr info_bkS rfl (bk6_one _ _ _ _ _ _ _ _) ?_))
    refine bodyPost_ret (v := .tuple #[.agg #[.int .i64 0, .int .i64 0, .int .i64 0, .slice none 0 0, .int .i64 0, .int .i64 0], .bool false]) (results_cell_tmp (p := 8) (q := 9) (ty := 50) rfl _ _ (w.heap.size + 1) 50 #[.int .i64 0, .int .i64 0, .int .i64 0, .slice none 0 0, .int .i64 0, .int .i64 0] (0, 0) _ rfl (blk_setRow kr) Tryz.underlying50 rfl info_bkS) rfl ?_
    rw [unhide HA, unhide HF]
    exact ⟨none, 0, rfl, own_nil _ _ _ _, below_setRow hb0 (by omega) _⟩
  have HIN := hide hin
  go_wp2_with (go_at_call 41; refine (l1In_any _ _ _ _).mono ?_; rintro e w' ⟨rfl, rfl⟩; rw [hin])
  clear hin x2
  refine (actionsValid_spec L cl al w2 (unhide HSL _ hb0).2.2 (by omega)).mono ?_
  rintro e w3 ⟨rfl, b3⟩
  replace k0 := k0.new_ b3
  replace kr := kr.new_ b3
  replace hz0 := kr.lt
  replace hb0 := bthen hb0 b3
  clear b3
  cases hac : actsB al
  · have HF := hide (show nextOk b s view al = false by simp [nextOk, hac])
    have HA := hide (nextB_no (unhide HF))
    go_wp2_with (refine wpList_store_row rfl 50 (.tmp 8) (.tmp 38) rfl (w.heap.size + 1) #[.int .i64 0, .int .i64 0, .int .i64 0, .slice none 0 0, .int .i64 0, .int .i64 0] rfl rfl 50 #[.int .i64 0, .int .i64 0, .int .i64 0, .slice none 0 0, .int .i64 0, .int .i64 0] kr info_bkS rfl (bk6_one _ _ _ _ _ _ _ _) ?_)
    refine bodyPost_ret (v := .tuple #[.agg #[.int .i64 0, .int .i64 0, .int .i64 0, .slice none 0 0, .int .i64 0, .int .i64 0], .bool false]) (results_cell_tmp (p := 8) (q := 9) (ty := 50) rfl _ _ (w.heap.size + 1) 50 #[.int .i64 0, .int .i64 0, .int .i64 0, .slice none 0 0, .int .i64 0, .int .i64 0] (0, 0) _ rfl (blk_setRow kr) Tryz.underlying50 rfl info_bkS) rfl ?_
    rw [unhide HA, unhide HF]
    exact ⟨none, 0, rfl, own_nil _ _ _ _, below_setRow hb0 (by omega) _⟩
  have HF := hide (show nextOk b s view al = true by rw [nextOk, unhide HV, hh2, unhide HST, unhide HIN, hac]; rfl)
  have HA := hide (nextB_yes (unhide HF))
  clear hac
  go_wp2_with fail
  refine (runSerial_own S cs s L cl al w3 (unhide HSL _ hb0).2.1 (by omega) (unhide HSL _ hb0).2.2 (by omega)).mono ?_
  rintro e w4 ⟨A4, c4, A5, c5, fp, rfl, o4, o5, -, b4⟩
  replace k0 := k0.new_ b4
  replace kr := kr.new_ b4
  replace hz0 := kr.lt
  replace hb0 := bthen hb0 b4
  clear b4
  have hsl := serialS_len s al
  have hel := serialE_len s al
  have HES := hide (fun x hx => by have := serialE_small s al x hx; omega : ∀ x ∈ serialE s al, x.reads.length ≤ 1000000 ∧ x.writes.length ≤ 1000000)
  have HX := hide (fun (w' : World) (hb : Below w4.heap.size w4 w') => show (w'.cell? ⟨w.heap.size, 0, none⟩ = some (.int .i64 b.before) ∧ w'.cell? ⟨w.heap.size, 1, none⟩ = some (.int .i64 b.height) ∧ w'.cell? ⟨w.heap.size, 2, none⟩ = some (.int .i64 b.view) ∧ w'.cell? ⟨w.heap.size, 3, none⟩ = some (.slice A b.list.length c) ∧ w'.cell? ⟨w.heap.size, 4, none⟩ = some (.int .i64 b.root) ∧ w'.cell? ⟨w.heap.size, 5, none⟩ = some (.int .i64 b.eff)) ∧ (Rd w' A (b.list.flatMap encA) ∧ Rd w' S (s.flatMap encE) ∧ Rd w' L (al.flatMap encA)) ∧ Rd w' A4 ((serialS s al).flatMap encE) ∧ RdD effR (fun _ => True) w' A5 (serialE s al) from ⟨⟨(k0.new_ hb).cell 0, (k0.new_ hb).cell 1, (k0.new_ hb).cell 2, (k0.new_ hb).cell 3, (k0.new_ hb).cell 4, (k0.new_ hb).cell 5⟩, unhide HSL w' (bthen hb0 hb), (own_rd o4).new hb, ((o5.new effO_good hb).rd effO_good eff_good fun _ _ => trivial)⟩)
  clear o4 o5
  go_wp2
  have hF : StBL [bV (.agg #[.int .i64 b.before, .int .i64 b.height, .int .i64 b.view, .slice A b.list.length c, .int .i64 b.root, .int .i64 b.eff]), bV (.int .i64 (bsum b)), bV (.pointer (some ⟨w.heap.size, 1, none⟩)), bV (.int .i64 b.height), bV (.int .i64 (b.height + 1)), bV (.int .i64 view), eOwn 101 4 w4.heap.size, bV (.slice L al.length cl), aOwn w4.heap.size al, bV (.slice A4 (serialS s al).length c4), bV (.int .i64 (rootL (serialS s al))), bV (.slice A5 (serialE s al).length c5), bV (.int .i64 (effsSum (serialE s al)))] :=
    ⟨sb_V _, sb_V _, sb_V _, sb_V _, sb_V _, sb_V _, sb_eOwn _ _ _, sb_V _, sb_aOwn _ _, sb_V _, sb_V _, sb_V _, sb_V _, trivial⟩
  go_upto_region 4 with fail
  refine wp_region_loc (by kernel_rfl) [(0, some 45), (1, some 46), (2, some 47), (3, some 48), (4, some 49), (5, some 50), (6, some 51), (7, some 52), (8, some 53), (9, some 54), (10, some 55), (11, some 56), (12, some 57)] [[], [(0, some 45)], [], [(2, some 47)], [(3, some 48)], [], [], [], [(6, some 51), (7, some 52)], [], [(9, some 54)], [], [(11, some 56)]] (by kernel_rfl)
    (locB _) (fun a b => Below a.heap.size a b) noR [0, 0, 0, 0, 0, 0, 0, 0, 0, 0, 0, 0, 0] 0 (by kernel_rfl) (fun _ => Below.refl _ _) (fun _ _ _ => bthen) (locB_st hF _) trivial ?_ ?_
  · refine steps_cons ?s0 ( steps_cons ?s1 ( steps_cons ?s2 ( steps_cons ?s3 ( steps_cons ?s4 ( steps_cons ?s5 ( steps_cons ?s6 ( steps_cons ?s7 ( steps_cons ?s8 ( steps_cons ?s9 ( steps_cons ?s10 ( steps_cons ?s11 ( steps_cons ?s12 steps_nil))))))))))))
    case s0 =>
      intro w' m' hE hR
      intro Q hQ
      obtain ⟨⟨u0, u1, u2, u3, u4, u5⟩, ⟨p1, p2, p3⟩, p4, p5⟩ := unhide HX w' (below_undrew hE)
      go_wp2
      exact hQ _ _ _ rfl rfl (Below.refl _ _) trivial
    case s1 =>
      intro w' m' hE hR
      rintro _ rfl Q hQ
      obtain ⟨⟨u0, u1, u2, u3, u4, u5⟩, ⟨p1, p2, p3⟩, p4, p5⟩ := unhide HX w' (below_undrew hE)
      go_wp2_with fail
      refine (blockSum_spec b A c w' p1 (by omega)).mono ?_
      rintro e w1 ⟨rfl, b1⟩
      go_wp2
      exact hQ _ _ _ rfl rfl b1 trivial
    case s2 =>
      intro w' m' hE hR
      intro Q hQ
      go_wp2
      exact hQ _ _ _ rfl rfl (Below.refl _ _) trivial
    case s3 =>
      intro w' m' hE hR
      rintro _ rfl Q hQ
      obtain ⟨⟨u0, u1, u2, u3, u4, u5⟩, ⟨p1, p2, p3⟩, p4, p5⟩ := unhide HX w' (below_undrew hE)
      go_wp2
      exact hQ _ _ _ rfl rfl (Below.refl _ _) trivial
    case s4 =>
      intro w' m' hE hR
      rintro _ rfl Q hQ
      go_wp2
      exact hQ _ _ _ rfl rfl (Below.refl _ _) trivial
    case s5 =>
      intro w' m' hE hR
      intro Q hQ
      go_wp2
      exact hQ _ _ _ rfl rfl (Below.refl _ _) trivial
    case s6 =>
      intro w' m' hE hR
      intro Q hQ
      have hsz := hE.size
      have o0 := own_made (base := w4.heap.size) (e := 101) (size := 4) w' #[] 0 hsz (by simp [maxLen]) rfl
      go_wp2
      exact hQ _ _ _ rfl ⟨_, rfl, o0⟩ ((Below.refl _ _).alloc (Nat.le_refl _) _) trivial
    case s7 =>
      intro w' m' hE hR
      intro Q hQ
      go_wp2
      exact hQ _ _ _ rfl rfl (Below.refl _ _) trivial
    case s8 =>
      intro w' m' hE hR
      rintro _ ⟨AE, rfl, oE⟩ _ rfl Q hQ
      obtain ⟨⟨u0, u1, u2, u3, u4, u5⟩, ⟨p1, p2, p3⟩, p4, p5⟩ := unhide HX w' (below_undrew hE)
      have hsz := hE.size
      refine wpList_app0 rfl (.tmp 51) (.tmp 52) 48 rfl el_actz rfl oE rfl p3 (len_acts al) (one_acts2 al) (by simp only [maxLen]; omega) (by omega) hsz ?_
      intro A' c' w2 o2 b2
      go_wp2
      exact hQ _ _ _ rfl ⟨A', c', rfl, o2⟩ b2 trivial
    case s9 =>
      intro w' m' hE hR
      intro Q hQ
      go_wp2
      exact hQ _ _ _ rfl rfl (Below.refl _ _) trivial
    case s10 =>
      intro w' m' hE hR
      rintro _ rfl Q hQ
      obtain ⟨⟨u0, u1, u2, u3, u4, u5⟩, ⟨p1, p2, p3⟩, p4, p5⟩ := unhide HX w' (below_undrew hE)
      go_wp2_with fail
      refine (rootOf_spec A4 c4 (serialS s al) w' p4 (by omega)).mono ?_
      rintro e w1 ⟨rfl, b1⟩
      go_wp2
      exact hQ _ _ _ rfl rfl b1 trivial
    case s11 =>
      intro w' m' hE hR
      intro Q hQ
      go_wp2
      exact hQ _ _ _ rfl rfl (Below.refl _ _) trivial
    case s12 =>
      intro w' m' hE hR
      rintro _ rfl Q hQ
      obtain ⟨⟨u0, u1, u2, u3, u4, u5⟩, ⟨p1, p2, p3⟩, p4, p5⟩ := unhide HX w' (below_undrew hE)
      go_wp2_with fail
      refine (effectsSum_spec A5 c5 (serialE s al) (fun _ => True) w' p5 (by omega) (unhide HES)).mono ?_
      rintro e w1 ⟨rfl, b1⟩
      go_wp2
      exact hQ _ _ _ rfl rfl b1 trivial
  intro w9 hE _
  rintro v0 - v1 hv1 v2 - v3 - v4 hv4 v5 hv5 v6 - v7 - v8 ⟨B7, d7, rfl, o7⟩ v9 - v10 hv10 v11 - v12 hv12
  obtain rfl : v1 = _ := hv1
  obtain rfl : v4 = _ := hv4
  obtain rfl : v5 = _ := hv5
  obtain rfl : v10 = _ := hv10
  obtain rfl : v12 = _ := hv12
  change wpList _ _ _ [_, _, _] _ _
  simp only [Act.put, List.setIfInBounds_toArray, List.set_cons_succ, List.set_cons_zero]
  have b9 := below_undrew hE
  clear hE hF
  have kr9 := kr.new_ b9
  have hs9 := b9.size
  go_wp2_with (refine wpList_store_row rfl 50 (.tmp 8) (.tmp 58) rfl (w.heap.size + 1) #[.int .i64 (bsum b), .int .i64 (b.height + 1), .int .i64 view, .slice B7 al.length d7, .int .i64 (rootL (serialS s al)), .int .i64 (effsSum (serialE s al))] rfl rfl 50 #[.int .i64 0, .int .i64 0, .int .i64 0, .slice none 0 0, .int .i64 0, .int .i64 0] kr9 info_bkS rfl (bk6_one _ _ _ _ _ _ _ _) ?_)
  refine bodyPost_ret (v := .tuple #[.agg #[.int .i64 (bsum b), .int .i64 (b.height + 1), .int .i64 view, .slice B7 al.length d7, .int .i64 (rootL (serialS s al)), .int .i64 (effsSum (serialE s al))], .bool true]) (results_cell_tmp (p := 8) (q := 9) (ty := 50) rfl _ _ (w.heap.size + 1) 50 #[.int .i64 (bsum b), .int .i64 (b.height + 1), .int .i64 view, .slice B7 al.length d7, .int .i64 (rootL (serialS s al)), .int .i64 (effsSum (serialE s al))] (0, 0) _ rfl (blk_setRow kr9) Tryz.underlying50 rfl info_bkS) rfl ?_
  rw [unhide HA, unhide HF]
  exact ⟨B7, d7, rfl, own_base (own_setRow o7 (by omega) _) (by omega), below_setRow (bthen hb0 b9) (by omega) _⟩
end Go.Proofs.YtefdhlfljpppfaaGreat
namespace Go.Proofs.YtefdhlfljpppfaaGreat
open Go.RowKit
set_option linter.unusedVariables false
set_option linter.unusedSimpArgs false

def grNext (t : Tr) (n view : Int) (al : List Act) : Bk := nextB (bAt t n.toNat) (storeT t n) view al
def grOk (t : Tr) (n view : Int) (al : List Act) : Bool := treeB t && (inB n 0 ((t.blocks.length : Int) - 1) && (nextOk (bAt t n.toNat) (storeT t n) view al && pbOk t (grNext t n view al)))
/-- the tree with a next block -/
def grT (t : Tr) (n view : Int) (al : List Act) : Tr := if treeB t = true then (if inB n 0 ((t.blocks.length : Int) - 1) = true then (if nextOk (bAt t n.toNat) (storeT t n) view al = true then pbT t (grNext t n view al) else t) else t) else ⟨[], [], []⟩
theorem grT_ok {t : Tr} (n view : Int) (al : List Act) (h : treeB t = true) : treeB (grT t n view al) = true := by
  rw [grT, if_pos h]
  split
  · split
    · exact pbT_ok _ h
    · exact h
  · exact h
theorem grT_no {t : Tr} {n view : Int} {al : List Act} (h : treeB t = false) : grT t n view al = ⟨[], [], []⟩ := by rw [grT, if_neg (by simp [h])]
theorem grT_out {t : Tr} {n view : Int} {al : List Act} (h : treeB t = true) (hn : inB n 0 ((t.blocks.length : Int) - 1) = false) : grT t n view al = t := by rw [grT, if_pos h, if_neg (by simp [hn])]
theorem grT_bad {t : Tr} {n view : Int} {al : List Act} (h : treeB t = true) (hn : inB n 0 ((t.blocks.length : Int) - 1) = true) (hx : nextOk (bAt t n.toNat) (storeT t n) view al = false) : grT t n view al = t := by rw [grT, if_pos h, if_pos hn, if_neg (by simp [hx])]
theorem grT_yes {t : Tr} {n view : Int} {al : List Act} (h : treeB t = true) (hn : inB n 0 ((t.blocks.length : Int) - 1) = true) (hx : nextOk (bAt t n.toNat) (storeT t n) view al = true) : grT t n view al = pbT t (grNext t n view al) := by rw [grT, if_pos h, if_pos hn, if_pos hx]
theorem ne_ab : (101 : TypeId) ≠ 50 := by decide
def sNextT (B : Nat) (x : Bk) (ok : Bool) (v : Value) (w : World) : Prop := ∃ A c, v = .tuple #[.agg #[.int .i64 x.before, .int .i64 x.height, .int .i64 x.view, .slice A x.list.length c, .int .i64 x.root, .int .i64 x.eff], .bool ok] ∧ w.ownsRow B 101 4 (.slice A x.list.length c) x.list.length (x.list.flatMap encA)
def sNext (B : Nat) (x : Bk) (v : Value) (w : World) : Prop := ∃ A c, v = .agg #[.int .i64 x.before, .int .i64 x.height, .int .i64 x.view, .slice A x.list.length c, .int .i64 x.root, .int .i64 x.eff] ∧ w.ownsRow B 101 4 (.slice A x.list.length c) x.list.length (x.list.flatMap encA)
def qNext (B : Nat) (x : Bk) (cs : Array Value) (w : World) : Prop := ∃ A c, cs = #[.int .i64 x.before, .int .i64 x.height, .int .i64 x.view, .slice A x.list.length c, .int .i64 x.root, .int .i64 x.eff] ∧ w.ownsRow B 101 4 (.slice A x.list.length c) x.list.length (x.list.flatMap encA)
set_option maxRecDepth 100000 in
set_option maxHeartbeats 8000000 in
theorem grow_spec (t : Tr) (A1 : Option Addr) (c1 : Nat) (A2 : Option Addr) (c2 : Nat) (A3 : Option Addr) (c3 : Nat) (n view : Int) (L : Option Addr) (cl : Nat) (al : List Act) (w : World) (h : TrR w t A1 A2 A3) (hl : Rd w L (al.flatMap encA)) (hb1 : t.base.length ≤ 1000000) (hb2 : t.blocks.length ≤ 1000000) (hbs : ∀ x ∈ t.blocks, x.list.length ≤ 1000000) (hb3 : t.before.length ≤ 1000000) (hbl : al.length ≤ 1000000) :
    Calls Tryz.prog 103 #[.agg (trA t A1 c1 A2 c2 A3 c3), .int .i64 n, .int .i64 view, .slice L al.length cl] w fun e w' => ∃ B1 d1 B2 d2 B3 d3 fp, e = .returned (.tuple #[.agg (trA (grT t n view al) B1 d1 B2 d2 B3 d3), .bool (grOk t n view al)]) ∧ TrO w' w.heap.size (grT t n view al) B1 d1 B2 d2 B3 d3 fp ∧ Below w.heap.size w w' := by
  have HBS := hide (fun x hx => Nat.le_trans (hbs x hx) (by omega) : ∀ x ∈ t.blocks, x.list.length ≤ 1099511627776)
  have HBO := hide hbs
  clear hbs
  have hT := h
  have HR := hide (fun w' (hb : Below w.heap.size w w') => h.new hb)
  have HRL := hide (fun w' (hb : Below w.heap.size w w') => (hl.new hb : Rd w' L (al.flatMap encA)))
  have HCL := hide (fun w' (hb : Below w.heap.size w w') => copy_spec t A1 c1 A2 c2 A3 c3 w' (unhide HR w' hb) (by omega) (by omega) (unhide HBS) (by omega))
  have HST := hide (fun w' (hb : Below w.heap.size w w') => storeOf_spec t A1 c1 A2 c2 A3 c3 n w' (unhide HR w' hb) (by omega) (by omega) (unhide HBS) (by omega))
  simp only [trA] at HCL HST ⊢
  have k0 : Blk ((w.alloc (.cells #[.slice A1 t.base.length c1, .slice A2 t.blocks.length c2, .slice A3 t.before.length c3] 27)).alloc (.cells #[.slice none 0 0, .slice none 0 0, .slice none 0 0] 27)) w.heap.size 27 #[.slice A1 t.base.length c1, .slice A2 t.blocks.length c2, .slice A3 t.before.length c3] := (Blk.new _ _ _).alloc _
  have kr : Blk ((w.alloc (.cells #[.slice A1 t.base.length c1, .slice A2 t.blocks.length c2, .slice A3 t.before.length c3] 27)).alloc (.cells #[.slice none 0 0, .slice none 0 0, .slice none 0 0] 27)) (w.heap.size + 1) 27 #[.slice none 0 0, .slice none 0 0, .slice none 0 0] := by
    have := Blk.new (w.alloc (.cells #[.slice A1 t.base.length c1, .slice A2 t.blocks.length c2, .slice A3 t.before.length c3] 27)) 27 #[.slice none 0 0, .slice none 0 0, .slice none 0 0]
    simpa using this
  have hb0 : Below w.heap.size w ((w.alloc (.cells #[.slice A1 t.base.length c1, .slice A2 t.blocks.length c2, .slice A3 t.before.length c3] 27)).alloc (.cells #[.slice none 0 0, .slice none 0 0, .slice none 0 0] 27)) := ((Below.refl _ _).alloc (Nat.le_refl _) _).alloc (by simp) _
  have hz0 := kr.lt
  have KV := treeValid_spec t A1 c1 A2 c2 A3 c3 ((w.alloc (.cells #[.slice A1 t.base.length c1, .slice A2 t.blocks.length c2, .slice A3 t.before.length c3] 27)).alloc (.cells #[.slice none 0 0, .slice none 0 0, .slice none 0 0] 27)) (unhide HR _ hb0) (by omega) (by omega) (unhide HBS) (by omega)
  simp only [trA] at KV
  have x0 : ((w.alloc (.cells #[.slice A1 t.base.length c1, .slice A2 t.blocks.length c2, .slice A3 t.before.length c3] 27)).alloc (.cells #[.slice none 0 0, .slice none 0 0, .slice none 0 0] 27)).cell? ⟨w.heap.size, 0, none⟩ = some (.slice A1 t.base.length c1) := k0.cell 0
  have x1 : ((w.alloc (.cells #[.slice A1 t.base.length c1, .slice A2 t.blocks.length c2, .slice A3 t.before.length c3] 27)).alloc (.cells #[.slice none 0 0, .slice none 0 0, .slice none 0 0] 27)).cell? ⟨w.heap.size, 1, none⟩ = some (.slice A2 t.blocks.length c2) := k0.cell 1
  have x2 : ((w.alloc (.cells #[.slice A1 t.base.length c1, .slice A2 t.blocks.length c2, .slice A3 t.before.length c3] 27)).alloc (.cells #[.slice none 0 0, .slice none 0 0, .slice none 0 0] 27)).cell? ⟨w.heap.size, 2, none⟩ = some (.slice A3 t.before.length c3) := k0.cell 2
  clear h hl
  go_enter Tryz.func103, Tryz.ntmps103
  go_wp2_with fail
  refine KV.mono ?_
  rintro e w3 ⟨rfl, b3⟩
  replace k0 := k0.new_ b3
  replace kr := kr.new_ b3
  replace hb0 := bthen hb0 b3
  replace hz0 := kr.lt
  clear KV x0 x1 x2 b3
  have x0 : w3.cell? ⟨w.heap.size, 0, none⟩ = some (.slice A1 t.base.length c1) := k0.cell 0
  have x1 : w3.cell? ⟨w.heap.size, 1, none⟩ = some (.slice A2 t.blocks.length c2) := k0.cell 1
  have x2 : w3.cell? ⟨w.heap.size, 2, none⟩ = some (.slice A3 t.before.length c3) := k0.cell 2
  cases hv : treeB t
  · have HF := hide (show grOk t n view al = false by simp [grOk, hv])
    have HA := hide (grT_no (n := n) (view := view) (al := al) hv)
    go_wp2_with (refine wpList_store_row rfl 27 (.tmp 8) (.tmp 15) rfl (w.heap.size + 1) #[.slice none 0 0, .slice none 0 0, .slice none 0 0] rfl rfl 27 #[.slice none 0 0, .slice none 0 0, .slice none 0 0] kr info_tr rfl (sl3_one _ _ _ _ _ _ _ _ _) ?_)
    refine bodyPost_ret (v := .tuple #[.agg #[.slice none 0 0, .slice none 0 0, .slice none 0 0], .bool false]) (results_cell_tmp (p := 8) (q := 9) (ty := 27) rfl _ _ (w.heap.size + 1) 27 #[.slice none 0 0, .slice none 0 0, .slice none 0 0] (0, 0) _ rfl (blk_setRow kr) Tryz.underlying27 rfl info_tr) rfl ?_
    rw [unhide HA, unhide HF]
    exact ⟨none, 0, none, 0, none, 0, [], rfl, trO_nil2 _ _, below_setRow hb0 (by omega) _⟩
  have HV := hide hv
  have hl14 := (treeB_yes hv).2.2.1
  clear hv
  cases hin : inB n 0 ((t.blocks.length : Int) - 1)
  · have HF := hide (show grOk t n view al = false by simp [grOk, hin])
    have HA := hide (grT_out (view := view) (al := al) (unhide HV) hin)
    go_wp2_with (go_at_call 41; refine (l1In_any _ _ _ _).mono ?_; rintro e w' ⟨rfl, rfl⟩; rw [hin])
    refine (unhide HCL w3 hb0).mono ?_
    rintro e w4 ⟨B1, d1, B2, d2, B3, d3, fp, rfl, tO, b4⟩
    replace kr := kr.new_ b4
    have hs4 := b4.size
    go_wp2_with (refine wpList_store_row rfl 27 (.tmp 8) (.tmp 24) rfl (w.heap.size + 1) #[.slice B1 t.base.length d1, .slice B2 t.blocks.length d2, .slice B3 t.before.length d3] rfl rfl 27 #[.slice none 0 0, .slice none 0 0, .slice none 0 0] kr info_tr rfl (sl3_one _ _ _ _ _ _ _ _ _) ?_)
    refine bodyPost_ret (v := .tuple #[.agg #[.slice B1 t.base.length d1, .slice B2 t.blocks.length d2, .slice B3 t.before.length d3], .bool false]) (results_cell_tmp (p := 8) (q := 9) (ty := 27) rfl _ _ (w.heap.size + 1) 27 #[.slice B1 t.base.length d1, .slice B2 t.blocks.length d2, .slice B3 t.before.length d3] (0, 0) _ rfl (blk_setRow kr) Tryz.underlying27 rfl info_tr) rfl ?_
    rw [unhide HA, unhide HF]
    exact ⟨B1, d1, B2, d2, B3, d3, fp, rfl, trO_base2 (trO_setRow2 tO (by omega) _) (by omega), below_setRow (bthen hb0 b4) (by omega) _⟩
  have HIN := hide hin
  obtain ⟨q, rfl⟩ := Int.eq_ofNat_of_zero_le (inB_true.1 hin).1
  have hqn : q < t.blocks.length := by have := (inB_true.1 hin).2; omega
  have hGN : ∀ v a, grNext t (q : Int) v a = nextB (bAt t q) (storeT t (q : Int)) v a := fun v a => by rw [grNext, Int.toNat_natCast]
  have HGO := hide (show nextOk (bAt t q) (storeT t (q : Int)) view al = true → grOk t (q : Int) view al = pbOk t (nextB (bAt t q) (storeT t (q : Int)) view al) ∧ grT t (q : Int) view al = pbT t (nextB (bAt t q) (storeT t (q : Int)) view al) from fun hx => by
    rw [← hGN, grT_yes (unhide HV) hin (by rw [Int.toNat_natCast]; exact hx)]
    exact ⟨by rw [grOk, unhide HV, hin, Int.toNat_natCast, hx]; rfl, rfl⟩)
  have HGN := hide (show nextOk (bAt t q) (storeT t (q : Int)) view al = false → grOk t (q : Int) view al = false ∧ grT t (q : Int) view al = t from fun hx => by
    rw [grT_bad (unhide HV) hin (by rw [Int.toNat_natCast]; exact hx)]
    exact ⟨by rw [grOk, unhide HV, hin, Int.toNat_natCast, hx]; rfl, rfl⟩)
  have HSL := hide (storeT_len t (q : Int))
  have HNX := hide (fun (S : Option Addr) (cs : Nat) (w' : World) (A : Option Addr) (c : Nat) (h1 : Rd w' A ((bAt t q).list.flatMap encA)) (h2 : Rd w' S ((storeT t (q : Int)).flatMap encE)) (h3 : Rd w' L (al.flatMap encA)) => next_spec (bAt t q) A c S cs (storeT t (q : Int)) view L cl al w' h1 h2 h3 (by rw [bAt_get t hqn]; exact unhide HBS _ (List.getElem_mem hqn)) (by have := unhide HSL; omega) (by omega))
  have hbn : (nextB (bAt t q) (storeT t (q : Int)) view al).list.length ≤ 1000000 := by
    rw [nextB]
    split
    · exact hbl
    · simp
  have HPB := hide (fun w' (hb : Below w.heap.size w w') A c (h5 : Rd w' A ((nextB (bAt t q) (storeT t (q : Int)) view al).list.flatMap encA)) => put_spec t A1 c1 A2 c2 A3 c3 (nextB (bAt t q) (storeT t (q : Int)) view al) A c w' (unhide HR w' hb) h5 (by omega) (by omega) (unhide HBO) (by omega) hbn)
  simp only [trA] at HPB
  obtain ⟨bq, offq, L1, e1, hA2, -, hbb, q0, q1, q2, q3, q4, q5, hlc, r1⟩ := hT.b2.bk hqn
  rw [← bAt_get t hqn] at q0 q1 q2 q3 q4 q5 hlc r1
  generalize storeT t (q : Int) = st at *
  generalize bAt t q = x at *
  generalize nextB x st view al = nb at *
  generalize nextOk x st view al = nok at *
  have HA2 := hide hA2
  have HX := hide (fun (w' : World) (hE : EB w3.heap.size 50 w3 w') => show (w'.cell? ⟨w.heap.size, 0, none⟩ = some (.slice A1 t.base.length c1) ∧ w'.cell? ⟨w.heap.size, 1, none⟩ = some (.slice A2 t.blocks.length c2) ∧ w'.cell? ⟨w.heap.size, 2, none⟩ = some (.slice A3 t.before.length c3)) ∧ (w'.cell? ⟨bq, offq + q * 6, none⟩ = some (.int .i64 x.before) ∧ w'.cell? ⟨bq, offq + q * 6 + 1, none⟩ = some (.int .i64 x.height) ∧ w'.cell? ⟨bq, offq + q * 6 + 2, none⟩ = some (.int .i64 x.view) ∧ w'.cell? ⟨bq, offq + q * 6 + 3, none⟩ = some (.slice L1 x.list.length e1) ∧ w'.cell? ⟨bq, offq + q * 6 + 4, none⟩ = some (.int .i64 x.root) ∧ w'.cell? ⟨bq, offq + q * 6 + 5, none⟩ = some (.int .i64 x.eff)) ∧ Rd w' L1 (x.list.flatMap encA) ∧ Below w.heap.size w w' from by
    have hb := hE.below (Nat.le_refl _)
    have hbw := bthen hb0 hb
    exact ⟨⟨(k0.new_ hb).cell 0, (k0.new_ hb).cell 1, (k0.new_ hb).cell 2⟩, ⟨(hbw.cell (p := ⟨bq, offq + q * 6, none⟩) hbb).trans q0, (hbw.cell (p := ⟨bq, offq + q * 6 + 1, none⟩) hbb).trans q1, (hbw.cell (p := ⟨bq, offq + q * 6 + 2, none⟩) hbb).trans q2, (hbw.cell (p := ⟨bq, offq + q * 6 + 3, none⟩) hbb).trans q3, (hbw.cell (p := ⟨bq, offq + q * 6 + 4, none⟩) hbb).trans q4, (hbw.cell (p := ⟨bq, offq + q * 6 + 5, none⟩) hbb).trans q5⟩, Rd.new (RdP.rd r1) hbw, hbw⟩)
  clear hA2 q0 q1 q2 q3 q4 q5 hlc r1 hT hGN hin
  have i2 : (q : Int) < (t.blocks.length : Int) := by omega
  go_wp2_with (go_at_call 41; refine (l1In_any _ _ _ _).mono ?_; rintro e w' ⟨rfl, rfl⟩; rw [unhide HIN])
  clear x0 x1 x2
  have hF : StEL (EB w3.heap.size 50) [bV (.pointer (some ⟨w.heap.size, 1, none⟩)), bV (.slice (some ⟨bq, offq, none⟩) t.blocks.length c2), bV (.int .i64 (q : Int)), bV (.pointer (some ⟨bq, offq + q * 6, none⟩)), bV (.agg #[.int .i64 x.before, .int .i64 x.height, .int .i64 x.view, .slice L1 x.list.length e1, .int .i64 x.root, .int .i64 x.eff]), bV (.agg #[.slice A1 t.base.length c1, .slice A2 t.blocks.length c2, .slice A3 t.before.length c3]), bV (.int .i64 (q : Int)), sOwn w3.heap.size st, bV (.int .i64 view), bV (.slice L al.length cl), sNextT w3.heap.size nb nok, sNextT w3.heap.size nb nok, sNext w3.heap.size nb, bV (.bool nok), pV (fun v => v ≠ undef), pV (fun _ => True)] :=
    ⟨fun _ _ _ _ h => h, fun _ _ _ _ h => h, fun _ _ _ _ h => h, fun _ _ _ _ h => h, fun _ _ _ _ h => h, fun _ _ _ _ h => h, fun _ _ _ _ h => h, fun _ _ _ hE ⟨A, c, h1, h2⟩ => ⟨A, c, h1, own_EB h2 hE ne_eb⟩, fun _ _ _ _ h => h, fun _ _ _ _ h => h, fun _ _ _ hE ⟨A, c, h1, h2⟩ => ⟨A, c, h1, own_EB h2 hE ne_ab⟩, fun _ _ _ hE ⟨A, c, h1, h2⟩ => ⟨A, c, h1, own_EB h2 hE ne_ab⟩, fun _ _ _ hE ⟨A, c, h1, h2⟩ => ⟨A, c, h1, own_EB h2 hE ne_ab⟩, fun _ _ _ _ h => h, fun _ _ _ _ h => h, fun _ _ _ _ h => h, trivial⟩
  go_upto_region 5 with fail
  refine wp_region_box (by kernel_rfl) [(0, some 26), (1, some 27), (2, some 28), (3, some 29), (4, some 30), (5, some 31), (6, some 32), (7, some 33), (8, some 34), (9, some 35), (10, some 36), (11, some 25), (12, some 37), (13, some 38), (14, some 10), (15, none)] [[], [(0, some 26)], [], [(1, some 27), (2, some 28)], [(3, some 29)], [], [], [(5, some 31), (6, some 32)], [], [], [(4, some 30), (7, some 33), (8, some 34), (9, some 35)], [(10, some 36)], [(11, some 25)], [(11, some 25)], [], [(12, some 37), (14, some 10)]] (by kernel_rfl) 15 [0, 1, 2, 3, 4, 5, 6, 7, 8, 9, 10, 11, 12, 14] (by kernel_rfl) 14
    (locB [bV (.pointer (some ⟨w.heap.size, 1, none⟩)), bV (.slice (some ⟨bq, offq, none⟩) t.blocks.length c2), bV (.int .i64 (q : Int)), bV (.pointer (some ⟨bq, offq + q * 6, none⟩)), bV (.agg #[.int .i64 x.before, .int .i64 x.height, .int .i64 x.view, .slice L1 x.list.length e1, .int .i64 x.root, .int .i64 x.eff]), bV (.agg #[.slice A1 t.base.length c1, .slice A2 t.blocks.length c2, .slice A3 t.before.length c3]), bV (.int .i64 (q : Int)), sOwn w3.heap.size st, bV (.int .i64 view), bV (.slice L al.length cl), sNextT w3.heap.size nb nok, sNextT w3.heap.size nb nok, sNext w3.heap.size nb, bV (.bool nok), pV (fun v => v ≠ undef), pV (fun _ => True)]) (EB w3.heap.size 50) (BoxR w3.heap.size 50 #[.int .i64 0, .int .i64 0, .int .i64 0, .slice none 0 0, .int .i64 0, .int .i64 0] (qNext w3.heap.size nb)) (EB.refl _ _) (fun _ _ _ => EB.trans) (locE_st hF _) (.inl ⟨rfl, .inl rfl⟩) ?_ ?_
  · refine steps_cons ?s0 ( steps_cons ?s1 ( steps_cons ?s2 ( steps_cons ?s3 ( steps_cons ?s4 ( steps_cons ?s5 ( steps_cons ?s6 ( steps_cons ?s7 ( steps_cons ?s8 ( steps_cons ?s9 ( steps_cons ?s10 ( steps_cons ?s11 ( steps_cons ?s12 ( steps_cons ?s13 ( steps_cons ?s14 ( steps_cons ?s15 steps_nil)))))))))))))))
    case s0 =>
      intro w' b vp hE hb hR
      obtain rfl := hb (by simp)
      intro Q hQ
      go_wp2
      exact hQ _ _ _ rfl rfl (EB.refl _ _ _) hR
    case s1 =>
      intro w' b vp hE hb hR
      obtain rfl := hb (by simp)
      rintro _ ⟨rfl, -⟩ Q hQ
      obtain ⟨⟨s0, s1, s2⟩, ⟨u0, u1, u2, u3, u4, u5⟩, u6, u7⟩ := unhide HX w' hE.undrew
      rw [unhide HA2] at s1
      go_wp2
      exact hQ _ _ _ rfl rfl (EB.refl _ _ _) hR
    case s2 =>
      intro w' b vp hE hb hR
      obtain rfl := hb (by simp)
      intro Q hQ
      go_wp2
      exact hQ _ _ _ rfl rfl (EB.refl _ _ _) hR
    case s3 =>
      intro w' b vp hE hb hR
      obtain rfl := hb (by simp)
      rintro _ ⟨rfl, -⟩ _ ⟨rfl, -⟩ Q hQ
      go_wp2
      exact hQ _ _ _ rfl rfl (EB.refl _ _ _) hR
    case s4 =>
      intro w' b vp hE hb hR
      obtain rfl := hb (by simp)
      rintro _ ⟨rfl, -⟩ Q hQ
      obtain ⟨⟨s0, s1, s2⟩, ⟨u0, u1, u2, u3, u4, u5⟩, u6, u7⟩ := unhide HX w' hE.undrew
      go_wp2
      exact hQ _ _ _ rfl rfl (EB.refl _ _ _) hR
    case s5 =>
      intro w' b vp hE hb hR
      obtain rfl := hb (by simp)
      intro Q hQ
      obtain ⟨⟨s0, s1, s2⟩, ⟨u0, u1, u2, u3, u4, u5⟩, u6, u7⟩ := unhide HX w' hE.undrew
      go_wp2
      exact hQ _ _ _ rfl rfl (EB.refl _ _ _) hR
    case s6 =>
      intro w' b vp hE hb hR
      obtain rfl := hb (by simp)
      intro Q hQ
      go_wp2
      exact hQ _ _ _ rfl rfl (EB.refl _ _ _) hR
    case s7 =>
      intro w' b vp hE hb hR
      obtain rfl := hb (by simp)
      rintro _ ⟨rfl, -⟩ _ ⟨rfl, -⟩ Q hQ
      obtain ⟨⟨s0, s1, s2⟩, ⟨u0, u1, u2, u3, u4, u5⟩, u6, u7⟩ := unhide HX w' hE.undrew
      go_wp2_with fail
      refine (unhide HST w' u7).mono ?_
      rintro e w1 ⟨A8, c8, rfl, o8, b8⟩
      have hsz := hE.size
      go_wp2
      exact hQ _ _ _ rfl ⟨A8, c8, rfl, own_base o8 hsz⟩ (EB.of_new b8) (hR.new b8 (fun _ ⟨A, c, h1, h2⟩ => ⟨A, c, h1, own_new h2 b8⟩))
    case s8 =>
      intro w' b vp hE hb hR
      obtain rfl := hb (by simp)
      intro Q hQ
      go_wp2
      exact hQ _ _ _ rfl rfl (EB.refl _ _ _) hR
    case s9 =>
      intro w' b vp hE hb hR
      obtain rfl := hb (by simp)
      intro Q hQ
      go_wp2
      exact hQ _ _ _ rfl rfl (EB.refl _ _ _) hR
    case s10 =>
      intro w' b vp hE hb hR
      obtain rfl := hb (by simp)
      rintro _ ⟨rfl, -⟩ _ ⟨⟨A8, c8, rfl, o8⟩, -⟩ _ ⟨rfl, -⟩ _ ⟨rfl, -⟩ Q hQ
      obtain ⟨⟨s0, s1, s2⟩, ⟨u0, u1, u2, u3, u4, u5⟩, u6, u7⟩ := unhide HX w' hE.undrew
      go_wp2_with fail
      refine (unhide HNX A8 c8 w' L1 e1 u6 (own_rd o8) (unhide HRL w' u7)).mono ?_
      rintro e w1 ⟨A7, c7, rfl, o7, b7⟩
      have hsz := hE.size
      go_wp2
      exact hQ _ _ _ rfl ⟨A7, c7, rfl, own_base o7 hsz⟩ (EB.of_new b7) (hR.new b7 (fun _ ⟨A, c, h1, h2⟩ => ⟨A, c, h1, own_new h2 b7⟩))
    case s11 =>
      intro w' b vp hE hb hR
      obtain rfl := hb (by simp)
      rintro _ ⟨⟨A7, c7, rfl, o7⟩, -⟩ Q hQ
      go_wp2
      exact hQ _ _ _ rfl ⟨A7, c7, rfl, o7⟩ (EB.refl _ _ _) hR
    case s12 =>
      intro w' b vp hE hb hR
      obtain rfl := hb (by simp)
      rintro _ ⟨⟨A7, c7, rfl, o7⟩, -⟩ Q hQ
      go_wp2
      exact hQ _ _ _ rfl ⟨A7, c7, rfl, o7⟩ (EB.refl _ _ _) hR
    case s13 =>
      intro w' b vp hE hbx hR
      clear hbx
      rintro _ ⟨⟨A7, c7, rfl, o7⟩, -⟩ Q hQ
      go_wp2
      exact hQ _ _ _ rfl rfl (EB.refl _ _ _) hR
    case s14 =>
      intro w' b vp hE hb hR
      obtain rfl := hb (by simp)
      intro Q hQ
      have hsz := hE.size
      go_wp2
      exact hQ _ _ _ rfl (fun h => by cases h) (EB.of_new ((Below.refl _ _).alloc (Nat.le_refl _) _)) (.inl ⟨rfl, .inr ⟨w'.heap.size, rfl, hsz, Blk.new _ _ _⟩⟩)
    case s15 =>
      intro w' b vp hE hb hR
      obtain rfl := hb (by simp)
      rintro _ ⟨⟨A7, c7, rfl, o7⟩, -⟩ _ ⟨hnu, hvp⟩ Q hQ
      obtain rfl := hvp rfl
      rcases hR with ⟨-, h | ⟨g, rfl, hg, hk9⟩⟩ | ⟨h, _⟩
      · exact absurd h hnu
      · refine wpList_store_row rfl 50 (.tmp 10) (.tmp 37) rfl g #[.int .i64 nb.before, .int .i64 nb.height, .int .i64 nb.view, .slice A7 nb.list.length c7, .int .i64 nb.root, .int .i64 nb.eff] rfl rfl 50 #[.int .i64 0, .int .i64 0, .int .i64 0, .slice none 0 0, .int .i64 0, .int .i64 0] hk9 info_bkS rfl (bk6_one _ _ _ _ _ _ _ _) ?_
        go_wp2
        exact hQ undef _ _ rfl trivial (EB.setRow hk9 hg _) (.inr ⟨rfl, g, _, rfl, hg, blk_setRow hk9, A7, c7, rfl, own_EB o7 (EB.setRow hk9 hg _) ne_ab⟩)
      · cases h
  intro w5 vp hE hR
  rintro v0 - v1 - v2 - v3 - v4 - v5 - v6 - v7 - v8 - v9 - v10 - v11 - v12 - v13 ⟨hv13, -⟩ v14 ⟨hnu, hvp⟩ v15 -
  obtain rfl : v13 = _ := hv13
  obtain rfl := hvp rfl
  rcases hR with ⟨h, _⟩ | ⟨-, g, cs, rfl, hg, k5, A7, c7, rfl, o7⟩
  · cases h
  change wpList _ _ _ [_] _ _
  simp only [Act.put, List.setIfInBounds_toArray, List.set_cons_succ, List.set_cons_zero]
  obtain ⟨⟨x0, x1, x2⟩, -, -, hb5⟩ := unhide HX w5 hE.undrew
  have b35 := hE.undrew.below (Nat.le_refl _)
  have kr5 := kr.new_ b35
  have hs35 := b35.size
  have hgl := k5.lt
  have y0 : w5.cell? ⟨g, 0, none⟩ = some (.int .i64 nb.before) := k5.cell 0
  have y1 : w5.cell? ⟨g, 1, none⟩ = some (.int .i64 nb.height) := k5.cell 1
  have y2 : w5.cell? ⟨g, 2, none⟩ = some (.int .i64 nb.view) := k5.cell 2
  have y3 : w5.cell? ⟨g, 3, none⟩ = some (.slice A7 nb.list.length c7) := k5.cell 3
  have y4 : w5.cell? ⟨g, 4, none⟩ = some (.int .i64 nb.root) := k5.cell 4
  have y5 : w5.cell? ⟨g, 5, none⟩ = some (.int .i64 nb.eff) := k5.cell 5
  cases hok : nok
  · obtain ⟨h1, h2⟩ := unhide HGN hok
    have HF := hide h1
    have HA := hide h2
    clear h1 h2 hok
    go_wp2_with fail
    refine (unhide HCL w5 hb5).mono ?_
    rintro e w6 ⟨B1, d1, B2, d2, B3, d3, fp, rfl, tO, b6⟩
    replace kr5 := kr5.new_ b6
    have hs6 := b6.size
    go_wp2_with (refine wpList_store_row rfl 27 (.tmp 8) (.tmp 42) rfl (w.heap.size + 1) #[.slice B1 t.base.length d1, .slice B2 t.blocks.length d2, .slice B3 t.before.length d3] rfl rfl 27 #[.slice none 0 0, .slice none 0 0, .slice none 0 0] kr5 info_tr rfl (sl3_one _ _ _ _ _ _ _ _ _) ?_)
    refine bodyPost_ret (v := .tuple #[.agg #[.slice B1 t.base.length d1, .slice B2 t.blocks.length d2, .slice B3 t.before.length d3], .bool false]) (results_cell_tmp (p := 8) (q := 9) (ty := 27) rfl _ _ (w.heap.size + 1) 27 #[.slice B1 t.base.length d1, .slice B2 t.blocks.length d2, .slice B3 t.before.length d3] (0, 0) _ rfl (blk_setRow kr5) Tryz.underlying27 rfl info_tr) rfl ?_
    rw [unhide HA, unhide HF]
    exact ⟨B1, d1, B2, d2, B3, d3, fp, rfl, trO_base2 (trO_setRow2 tO (by omega) _) (by omega), below_setRow (bthen hb5 b6) (by omega) _⟩
  obtain ⟨h1, h2⟩ := unhide HGO hok
  have HF := hide h1
  have HA := hide h2
  clear h1 h2 hok
  go_wp2_with fail
  refine (unhide HPB w5 hb5 A7 c7 (own_rd o7)).mono ?_
  rintro e w6 ⟨B1, d1, B2, d2, B3, d3, fp, rfl, tO, b6⟩
  replace kr5 := kr5.new_ b6
  have hs6 := b6.size
  go_wp2_with (refine wpList_store_row rfl 27 (.tmp 8) (.tmp 46) rfl (w.heap.size + 1) #[.slice B1 (pbT t nb).base.length d1, .slice B2 (pbT t nb).blocks.length d2, .slice B3 (pbT t nb).before.length d3] rfl rfl 27 #[.slice none 0 0, .slice none 0 0, .slice none 0 0] kr5 info_tr rfl (sl3_one _ _ _ _ _ _ _ _ _) ?_)
  refine bodyPost_ret (v := .tuple #[.agg #[.slice B1 (pbT t nb).base.length d1, .slice B2 (pbT t nb).blocks.length d2, .slice B3 (pbT t nb).before.length d3], .bool (pbOk t nb)]) (results_cell_tmp (p := 8) (q := 9) (ty := 27) rfl _ _ (w.heap.size + 1) 27 #[.slice B1 (pbT t nb).base.length d1, .slice B2 (pbT t nb).blocks.length d2, .slice B3 (pbT t nb).before.length d3] (0, 0) _ rfl (blk_setRow kr5) Tryz.underlying27 rfl info_tr) rfl ?_
  rw [unhide HA, unhide HF]
  exact ⟨B1, d1, B2, d2, B3, d3, fp, rfl, trO_base2 (trO_setRow2 tO (by omega) _) (by omega), below_setRow (bthen hb5 b6) (by omega) _⟩
end Go.Proofs.YtefdhlfljpppfaaGreat
namespace Go.Proofs.YtefdhlfljpppfaaGreat
open Go.RowKit
set_option linter.unusedVariables false
set_option linter.unusedSimpArgs false

theorem rep_bit (n s : Nat) : (Array.replicate n false).getD s false = false := by
  rw [Array.getD_eq_getD_getElem?, Array.getElem?_replicate]
  split <;> rfl
theorem steps_lt {p q : Nat → Oper → Prop} {l : List Oper} (h : steps p 0 l) (hi : ∀ i o, 0 ≤ i → i < l.length → p i o → q i o) : steps q 0 l := by
  have key : ∀ (l : List Oper) (k : Nat), steps p k l → (∀ i o, k ≤ i → i < k + l.length → p i o → q i o) → steps q k l := by
    intro l
    induction l with
    | nil => intro k _ _; trivial
    | cons x l ih => intro k h hi; exact ⟨hi _ _ (Nat.le_refl _) (by simp) h.1, ih (k + 1) h.2 fun i o h1 h2 => hi i o (by omega) (by simp; omega)⟩
  exact key l 0 h fun i o h1 h2 => hi i o h1 (by simpa using h2)
theorem left_set {cost : List Nat} {L : Array Bool} {n i : Nat} (hi : i < n) (hsz : n ≤ L.size) (hun : L.getD i false = false) : leftOf cost L n = leftOf cost (L.setIfInBounds i true) n + cost.getD i 0 := by
  have hset : ∀ k, (L.setIfInBounds i true).getD k false = (i == k && decide (i < L.size) || L.getD k false) := by
    intro k
    by_cases hik : i = k
    · subst hik
      rw [Array.getD_eq_getD_getElem?]
      by_cases h : i < L.size
      · simp [h]
      · omega
    · rw [getD_set_ne false hik]
      simp [hik]
  have h1 := sumTo_upd (f := fun k => if L.getD k false = true then 0 else cost.getD k 0) (g := fun k => if (L.setIfInBounds i true).getD k false = true then 0 else cost.getD k 0) (i := i) n hi
    (by rw [hset]; simp [show i < L.size by omega])
    (fun j hj hne => by rw [hset]; have : (i == j) = false := by simpa using fun e => hne e.symm
                        rw [this]; simp)
  unfold leftOf
  rw [h1]
  simp only [hun]
  simp
theorem left_all {cost : List Nat} {L : Array Bool} {n : Nat} (h : ∀ j, j < n → L.getD j false = true) : leftOf cost L n = 0 := sumTo_zero n fun i hi => by simp only [h i hi]; simp
/-- m: what the operations to come may draw yet; b: has s come up? vp: what p has given -/
theorem wp_region_cost {P : Program} {id : Nat} {l : List Oper} {Q : Exit → Go.Act → World → Prop} {a0 : Go.Act} {w : World} (hm : P.follows .mixedOrders = true)
    (head : List (Nat × Option Tmp)) (deps : List (List (Nat × Option Tmp))) (hok : okAll l head deps = true) (s : Nat) (bef : List Nat) (hbef : (decide (s < head.length) && bef.all fun j => has (clOf l) s j) = true)
    (cost : List Nat) (total : Nat) (htot : sumTo (fun i => cost.getD i 0) head.length = total)
    (p : Nat) (F : Nat → Value → World → Prop) (E : World → World → Prop) (R : Nat → Bool → Value → World → Prop)
    (hEr : ∀ w, E w w) (hEt : ∀ a b c, E a b → E b c → E a c) (hFE : ∀ i v a b, i < head.length → F i v a → E a b → F i v b)
    (hR0 : R total false undef w.drew)
    (hstep : steps (fun i o => ∀ w' m b vp, E w.drew w' → (i = s ∨ i ∈ bef → b = false) → R (m + cost.getD i 0) b vp w' → tele (fun j v w => F j v w ∧ (j = p → v = vp)) w' (fun a => ∀ Q' : Exit → Go.Act → World → Prop, (∀ v a'' w'', a'' = a.put o.dst v → F i v w'' → E w' w'' → R m (i == s || b) (if i = p then v else vp) w'' → Q' .normal a'' w'') → wpList P l.toArray Q' [o] a w') (deps.getD i []) a0) 0 (l.take head.length))
    (hdone : ∀ w' vp, E w.drew w' → R 0 true vp w' → tele (fun j v w => F j v w ∧ (j = p → v = vp)) w' (fun c => wpList P l.toArray Q (l.drop head.length) c w') head a0) :
    (Code.region id l.toArray true).wp P Q a0 w := by
  simp only [Bool.and_eq_true, decide_eq_true_eq, List.all_eq_true] at hbef
  obtain ⟨hs, hbef⟩ := hbef
  have hnh : head.length ≤ l.length := by
    simp only [okAll, Bool.and_eq_true, decide_eq_true_eq] at hok
    exact hok.1.1.1.1.1.1.1.1
  refine wp_region_setX hm head deps hok F E p (fun L v w => R (leftOf cost L head.length) (L.getD s false) v w) hEr hEt hFE ?_ ?_ ?_
  · have h0 : leftOf cost (Array.replicate l.toArray.size false) head.length = total := by
      rw [← htot]
      exact sumTo_congr _ fun i hi => by simp only [rep_bit]; simp
    rw [rep_bit, h0]
    exact hR0
  · refine steps_lt hstep fun i o hi hil h w' L vp hE hsz hun hcl hR => ?_
    have hin : i < head.length := by
      have := hil
      simp only [List.length_take] at this
      omega
    have hb : i = s ∨ i ∈ bef → L.getD s false = false := by
      rintro (h | h)
      · rw [← h]; exact hun
      · cases hq : L.getD s false with
        | false => rfl
        | true =>
          have := hcl s i hq (hbef i h)
          rw [hun] at this
          cases this
    have hR' : R (leftOf cost (L.setIfInBounds i true) head.length + cost.getD i 0) (L.getD s false) vp w' := by
      rw [← left_set hin (by omega) hun]
      exact hR
    have h2 := h w' (leftOf cost (L.setIfInBounds i true) head.length) (L.getD s false) vp hE hb hR'
    refine tele_imp (deps.getD i []) _ _ (fun c hc Q' hQ' => hc Q' fun v a'' w'' h1 h3 h4 h5 => hQ' v a'' w'' h1 h3 h4 ?_) _ h2
    show R _ ((L.setIfInBounds i true).getD s false) _ w''
    have hil : (L.setIfInBounds i true).getD s false = (i == s || L.getD s false) := by
      by_cases hik : i = s
      · subst hik
        rw [Array.getD_eq_getD_getElem?]
        simp [show i < L.size by omega]
      · rw [getD_set_ne false hik]
        simp [hik]
    rw [hil]
    exact h5
  · intro w' L vp hE hall hR
    rw [hall s hs, left_all hall] at hR
    exact hdone w' vp hE hR
/-- changes that touch the block g, and, at or above m, variables of the type t alone -/
structure EG (g m : Nat) (t : TypeId) (a b : World) : Prop where
  os : b.os = a.os
  tape : b.tape = a.tape
  output : b.output = a.output
  size : a.heap.size ≤ b.heap.size
  blk : ∀ k, k < a.heap.size → k ≠ g → b.heap[k]? = a.heap[k]? ∨ (m ≤ k ∧ ∃ old, a.heap[k]? = some (.cells old t (0, 0)))
theorem EG.refl (g m : Nat) (t : TypeId) (a : World) : EG g m t a a := ⟨rfl, rfl, rfl, Nat.le_refl _, fun _ _ _ => .inl rfl⟩
theorem EG.trans {g m : Nat} {t : TypeId} {a b c : World} (h1 : EG g m t a b) (h2 : EG g m t b c) : EG g m t a c :=
  ⟨h2.os.trans h1.os, h2.tape.trans h1.tape, h2.output.trans h1.output, Nat.le_trans h1.size h2.size, fun k hk hg => by
    rcases h1.blk k hk hg with h | h
    · rcases h2.blk k (Nat.lt_of_lt_of_le hk h1.size) hg with q | q
      · exact .inl (q.trans h)
      · exact .inr ⟨q.1, by rw [← h]; exact q.2⟩
    · exact .inr h⟩
theorem EG.of_new {g m : Nat} {t : TypeId} {a b : World} (h : Below a.heap.size a b) : EG g m t a b := ⟨h.os, h.tape, h.output, h.size, fun k hk _ => .inl (h.block k hk)⟩
theorem EG.of_chg {g m : Nat} {t : TypeId} {a b : World} (h : Chg (fun k => k = g) a b) : EG g m t a b := ⟨h.os, h.tape, h.output, h.size, fun k hk hg => .inl (h.block k hk hg)⟩
theorem EG.undrew {g m : Nat} {t : TypeId} {a b : World} (h : EG g m t a.drew b) : EG g m t a b := ⟨h.os, h.tape, h.output, h.size, h.blk⟩
theorem EG.chg {g m : Nat} {t : TypeId} {a b : World} (h : EG g m t a b) (hm : a.heap.size ≤ m) : Chg (fun k => k = g) a b :=
  ⟨h.os, h.tape, h.output, h.size, fun k hk hn => by
    rcases h.blk k hk hn with q | q
    · exact q
    · omega⟩
theorem EG.setRow {g m : Nat} {t : TypeId} {w : World} {q : Nat} {old : Array Value} (h : Blk w q t old) (hm : m ≤ q) (ds : Array Value) : EG g m t w (w.setRow q ds) :=
  ⟨rfl, rfl, rfl, by rw [size_setRow]; exact Nat.le_refl _, fun k hk _ => by
    by_cases hkq : k = q
    · subst hkq; exact .inr ⟨hm, old, h⟩
    · exact .inl (setRow_other w q k ds hkq)⟩
theorem own_EG {g m : Nat} {t : TypeId} {a b : World} {base : Nat} {e : TypeId} {s n c : Nat} {A : Option Addr} {xs : List Value} (h : a.ownsRow base e s (.slice A n c) n xs) (hE : EG g m t a b) (hne : e ≠ t) (hg : g < base) : b.ownsRow base e s (.slice A n c) n xs := by
  refine own_keep h fun q hA hq => ?_
  have hr := own_rng h q hA
  rcases hE.blk q hq (by omega) with h1 | ⟨_, old, h1⟩
  · exact h1
  · rcases h.2 with ⟨hv, _⟩ | ⟨g', cap, cur, hv, _, hh, _⟩
    · injection hv with hv; rw [hA] at hv; cases hv
    · injection hv with hv
      rw [hA] at hv
      injection hv with hv
      injection hv with hv
      subst hv
      rw [hh] at h1
      injection h1 with h1
      injection h1 with h2 h3 h4
      exact absurd h3 hne
end Go.Proofs.YtefdhlfljpppfaaGreat
