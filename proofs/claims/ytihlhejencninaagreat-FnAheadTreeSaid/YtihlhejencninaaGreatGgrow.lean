/- New trees, of the reference (printed by gen_in.py from xtreeof.in). A block put behind a tree, of the reference (printed by gen_in.py from xputb.in). A tree with a next block, of the reference (printed by gen_in.py from xgrowt.in). Changes that touch a reader and variables of one type. No program is in sight here. -/
import Derived.Test.YtihlhejencninaaGreatGpath
import Derived.Test.YtihlhejencninaaGreatGtree
import Derived.Test.YtihlhejencninaaGreatBTree
import Derived.Test.YtihlhejencninaaGreatBTreeS
import Derived.Test.YtihlhejencninaaGreatNext
import Derived.Test.YtihlhejencninaaGreatGint
import Derived.Test.YtihlhejencninaaGreatGloc
namespace Go.Proofs.YtihlhejencninaaGreat
open Go.RowKit
set_option linter.unusedVariables false
set_option linter.unusedSimpArgs false

def treeOf (s : List Ent) : Tr := if storeB s = true then ⟨s, [fstB s], [-1]⟩ else ⟨[], [], []⟩
theorem treeOf_yes {s : List Ent} (h : storeB s = true) : treeOf s = ⟨s, [fstB s], [-1]⟩ := by rw [treeOf, if_pos h]
set_option maxRecDepth 100000 in
set_option maxHeartbeats 4000000 in
theorem treeOf_spec (A : Option Addr) (c : Nat) (s : List Ent) (w : World) (h : Rd w A (s.flatMap encE)) (hb : s.length ≤ 1099511627776) (hs : storeB s = true) :
   Calls Tryz.prog 135 #[.slice A s.length c] w fun e w' => ∃ B1 d1 B2 d2 B3 d3 fp, e = .returned (.agg (trA (treeOf s) B1 d1 B2 d2 B3 d3)) ∧ TrO w' w.heap.size (treeOf s) B1 d1 B2 d2 B3 d3 fp ∧ Below w.heap.size w w' := by
 have HT := hide (treeOf_yes hs)
 have hb0 : Below w.heap.size w (w.alloc (.cells #[.slice none 0 0, .slice none 0 0, .slice none 0 0] 69)) := (Below.refl _ _).alloc (Nat.le_refl _) _
 have kr : Blk (w.alloc (.cells #[.slice none 0 0, .slice none 0 0, .slice none 0 0] 69)) w.heap.size 69 #[.slice none 0 0, .slice none 0 0, .slice none 0 0] := Blk.new _ _ _
 have KV := storeB_store_spec A c s (w.alloc (.cells #[.slice none 0 0, .slice none 0 0, .slice none 0 0] 69)) (h.new hb0) (by omega)
 rw [hs] at KV
 have hrl := kr.lt
 clear hs
 go_enter Tryz.func135, Tryz.ntmps135
 go_wp2_with fail
 refine KV.mono ?_
 rintro e w3 ⟨rfl, m, hm⟩
 have b3 : Below (w.alloc (.cells #[.slice none 0 0, .slice none 0 0, .slice none 0 0] 69)).heap.size (w.alloc (.cells #[.slice none 0 0, .slice none 0 0, .slice none 0 0] 69)) w3 := by rw [← hm]; exact below_drewN (Below.refl _ _) m
 clear hm KV
 replace kr := kr.new_ b3
 replace hb0 := bthen hb0 b3
 replace hrl := kr.lt
 clear b3
 have oe := own_made (base := w3.heap.size) (e := 79) (size := 2) w3 #[] 0 (Nat.le_refl _) (by simp [maxLen]) rfl
 have be : Below w3.heap.size w3 (w3.alloc (.cells #[] 79)) := (Below.refl _ _).alloc (Nat.le_refl _) _
 have hr3 := h.new hb0
 go_wp2_with (at_builtin; refine wpList_app0 rfl (.tmp 7) (.tmp 8) 34 rfl el_ent rfl oe rfl (hr3.new be) (len_ents s) (one_ents s) (by simp only [maxLen]; omega) (by omega) (by simp) ?_; intro B1 d1 w4 o1 b4)
 have b34 := bthen be b4
 refine (firstBlock_spec A c s w4 (hr3.new b34) (by omega)).mono ?_
 rintro e w5 ⟨rfl, b5⟩
 have o15 := own_new o1 b5
 have b35 := bthen b34 b5
 have hs35 := b35.size
 have hs45 := b5.size
 have hr1 := own_rng o1
 replace kr := kr.new_ b35
 replace hb0 := bthen hb0 b35
 have HFL := hide (show (fstB s).list = [] by unfold fstB; split <;> rfl)
 have hfl : (fstB s).list.length = 0 := by rw [unhide HFL]; rfl
 have o2 := own_made (base := w5.heap.size) (e := 32) (size := 6) w5 #[.int .i64 (fstB s).before, .int .i64 (fstB s).height, .int .i64 (fstB s).view, .slice none (fstB s).list.length 0, .int .i64 (fstB s).root, .int .i64 (fstB s).eff] 1 (Nat.le_refl _) (by simp [maxLen]) rfl
 have o3 := own_made (base := w5.heap.size) (e := 3) (size := 1) (w5.alloc (.cells #[.int .i64 (fstB s).before, .int .i64 (fstB s).height, .int .i64 (fstB s).view, .slice none (fstB s).list.length 0, .int .i64 (fstB s).root, .int .i64 (fstB s).eff] 32)) #[.int .i64 (-1)] 1 (by simp) (by simp [maxLen]) rfl
 have hx := own_alloc o2 (.cells #[.int .i64 (-1)] 3)
 have b57 : Below w5.heap.size w5 ((w5.alloc (.cells #[.int .i64 (fstB s).before, .int .i64 (fstB s).height, .int .i64 (fstB s).view, .slice none (fstB s).list.length 0, .int .i64 (fstB s).root, .int .i64 (fstB s).eff] 32)).alloc (.cells #[.int .i64 (-1)] 3)) := ((Below.refl _ _).alloc (Nat.le_refl _) _).alloc (by simp) _
 have o17 := own_new o15 b57
 have kr7 := kr.new_ b57
 have HFE := hide hfl
 have o3' : ((w5.alloc (.cells #[.int .i64 (fstB s).before, .int .i64 (fstB s).height, .int .i64 (fstB s).view, .slice none (fstB s).list.length 0, .int .i64 (fstB s).root, .int .i64 (fstB s).eff] 32)).alloc (.cells #[.int .i64 (-1)] 3)).ownsRow w5.heap.size 3 1 (.slice (some ⟨w5.heap.size + 1, 0, none⟩) 1 1) 1 [.int .i64 (-1)] := by simpa using o3
 clear hfl o3 hr3 oe be o2 o15 o1 h b5 b4
 go_wp2_with (refine wpList_store_row rfl 69 (.tmp 2) (.tmp 14) rfl w.heap.size #[.slice B1 s.length d1, .slice (some ⟨w5.heap.size, 0, none⟩) 1 1, .slice (some ⟨w5.heap.size + 1, 0, none⟩) 1 1] rfl rfl 69 #[.slice none 0 0, .slice none 0 0, .slice none 0 0] kr7 info_tr rfl (sl3_one _ _ _ _ _ _ _ _ _) ?_)
 refine bodyPost_ret (v := .agg #[.slice B1 s.length d1, .slice (some ⟨w5.heap.size, 0, none⟩) 1 1, .slice (some ⟨w5.heap.size + 1, 0, none⟩) 1 1]) (results_cell_row (p := 2) (ty := 69) rfl _ _ w.heap.size 69 #[.slice B1 s.length d1, .slice (some ⟨w5.heap.size, 0, none⟩) 1 1, .slice (some ⟨w5.heap.size + 1, 0, none⟩) 1 1] (0, 0) _ rfl (blk_setRow kr7) Tryz.underlying69 rfl info_tr) rfl ?_
 rw [unhide HT]
 have q1 := own_setRow (own_base o17 (base' := w.heap.size + 1) (by omega)) (g := w.heap.size) (by omega) #[.slice B1 s.length d1, .slice (some ⟨w5.heap.size, 0, none⟩) 1 1, .slice (some ⟨w5.heap.size + 1, 0, none⟩) 1 1]
 have q2 := own_setRow (own_base hx (base' := w.heap.size + 1) (by omega)) (g := w.heap.size) (by omega) #[.slice B1 s.length d1, .slice (some ⟨w5.heap.size, 0, none⟩) 1 1, .slice (some ⟨w5.heap.size + 1, 0, none⟩) 1 1]
 have q3 := own_setRow (own_base o3' (base' := w.heap.size + 1) (by omega)) (g := w.heap.size) (by omega) #[.slice B1 s.length d1, .slice (some ⟨w5.heap.size, 0, none⟩) 1 1, .slice (some ⟨w5.heap.size + 1, 0, none⟩) 1 1]
 refine ⟨B1, d1, some ⟨w5.heap.size, 0, none⟩, 1, some ⟨w5.heap.size + 1, 0, none⟩, 1, [w5.heap.size], rfl, ⟨own_base q1 (by omega), ⟨[bkV (fstB s) none 0], [[]], ⟨⟨none, 0, rfl, by rw [unhide HFL]; exact own_nil _ _ _ _, rfl⟩, trivial⟩, ?_, rfl, by simp⟩, own_base q3 (by omega), ?_, ?_, ?_, ?_⟩, below_setRow (bthen hb0 b57) (Nat.le_refl _) _⟩
 · simpa [bkV] using own_base0 q2
 · intro q hq
   rw [List.mem_singleton] at hq
   omega
 · intro q hq hq2
   rw [List.mem_singleton] at hq2
   have := hr1 q hq
   omega
 · intro q hq e
   have := hr1 q hq
   injection e with e
   injection e with e
   omega
 · intro q hq hq2
   injection hq with hq
   injection hq with hq
   rw [List.mem_singleton] at hq2
   omega
theorem fstB_ok {s : List Ent} (h : storeB s = true) : blkB (fstB s) = true := by
 have hv : valOk (valsL s) := valOk_vals (storeB_def _ ▸ h) (by omega)
 have h1 : sumIn (rootL s) := by
   rw [rootL, if_pos h]
   have hl := lvN_len (valsL s) 5 (by omega)
   have := lvN_in hv 5 ((lvN (valsL s) 5).getD 0 0) (by
     rw [List.getD_eq_getElem?_getD, List.getElem?_eq_getElem (by rw [hl]; simp), Option.getD_some]
     exact List.getElem_mem _)
   exact this
 unfold fstB
 rw [if_pos h]
 unfold sumIn at h1
 simp only [blkB, Bool.and_eq_true]
 refine ⟨inB_true.2 (by omega), inB_true.2 (by omega), inB_true.2 (by omega), inB_true.2 (by omega), inB_true.2 (by omega), ?_⟩
 rfl
/-- a new tree is a tree -/
theorem treeOf_ok {s : List Ent} (h : storeB s = true) : treeB (treeOf s) = true := by
 rw [treeOf_yes h]
 have hf := fstB_ok h
 simp [treeB, tree0, tree1, h, upTo, sumOk, nodeOk0, bAt, pAt, hf, inB]
end Go.Proofs.YtihlhejencninaaGreat
namespace Go.Proofs.YtihlhejencninaaGreat
open Go.RowKit
set_option linter.unusedVariables false
set_option linter.unusedSimpArgs false

def pbX (t : Tr) (b : Bk) : Tr := ⟨t.base, t.blocks ++ [b], t.before ++ [findB t.blocks b.before]⟩
def pbOk (t : Tr) (b : Bk) : Bool := treeB t && treeB (pbX t b)
def pbT (t : Tr) (b : Bk) : Tr := if treeB t = true then (if treeB (pbX t b) = true then pbX t b else t) else ⟨[], [], []⟩
/-- a tree stays a tree -/
theorem pbT_ok {t : Tr} (b : Bk) (h : treeB t = true) : treeB (pbT t b) = true := by
 rw [pbT, if_pos h]
 split
 · assumption
 · exact h
theorem pbT_no {t : Tr} {b : Bk} (h : treeB t = false) : pbT t b = ⟨[], [], []⟩ := by rw [pbT, if_neg (by simp [h])]
theorem pbT_out {t : Tr} {b : Bk} (h : treeB t = true) (hx : treeB (pbX t b) = false) : pbT t b = t := by rw [pbT, if_pos h, if_neg (by simp [hx])]
theorem pbT_yes {t : Tr} {b : Bk} (h : treeB t = true) (hx : treeB (pbX t b) = true) : pbT t b = pbX t b := by rw [pbT, if_pos h, if_pos hx]
theorem own_raise {w : World} {base : Nat} {e : TypeId} {size n c : Nat} {A : Option Addr} {xs : List Value} (h : w.ownsRow 0 e size (.slice A n c) n xs) (hq : ∀ q, A = some ⟨q, 0, none⟩ → base ≤ q) : w.ownsRow base e size (.slice A n c) n xs := by
 refine ⟨h.1, ?_⟩
 rcases h.2 with h2 | ⟨g, cap, cur, hv, hg, r⟩
 · exact .inl h2
 · refine .inr ⟨g, cap, cur, hv, ?_, r⟩
   injection hv with hv
   exact hq g hv
/-- what a row of things that own memory is, for one more -/
theorem ownD_open {α : Type} {O : ORel α} {e : TypeId} {s : Nat} {w : World} {A : Option Addr} {c : Nat} {xs : List α} {fp : List Nat} {base : Nat} (h : OwnD O e s w A c xs fp) (hge : ∀ k ∈ fp, base ≤ k) :
   ∃ vs fs, AllO O w xs vs fs ∧ fs.flatten.Nodup ∧ (∀ q ∈ fs.flatten, base ≤ q ∧ A ≠ some ⟨q, 0, none⟩) ∧ w.ownsRow base e s (.slice A xs.length c) xs.length vs.flatten ∧ fp = blk A ++ fs.flatten := by
 obtain ⟨vs, fs, h1, h2, rfl, h4⟩ := h
 rw [List.nodup_append] at h4
 refine ⟨vs, fs, h1, h4.2.1, fun q hq => ⟨hge q (List.mem_append_right _ hq), fun e => h4.2.2 q (mem_blk e) q hq rfl⟩, own_raise h2 fun q hq => hge q (List.mem_append_left _ (mem_blk hq)), rfl⟩
theorem grow_step3 {α : Type} {O : ORel α} {R : Rel α} {s : Nat} (G : OGood O R) (GR : Good R s) {wr w3 w7 : World} {base : Nat} {e : TypeId} {A' A7 : Option Addr} {c' c7 n m : Nat} {xs : List α} {vs : List (List Value)} {fs : List (List Nat)} {x : α} {cs : List Value} {f : List Nat} {o : Obj}
   (hall : AllO O wr xs vs fs) (hnd : fs.flatten.Nodup) (hF : ∀ q ∈ fs.flatten, base ≤ q ∧ A' ≠ some ⟨q, 0, none⟩) (hown : wr.ownsRow base e s (.slice A' n c') n vs.flatten) (hbase : base ≤ wr.heap.size)
   (hs3 : wr.heap.size ≤ w3.heap.size) (hkp : ∀ q ∈ fs.flatten, q < wr.heap.size → w3.heap[q]? = wr.heap[q]?) (hx : O x w3 cs f) (hfn : f.Nodup) (hfb : ∀ q ∈ f, wr.heap.size ≤ q)
   (ch7 : Chg (fun g => A' = some ⟨g, 0, none⟩) (w3.alloc o) w7) (d7 : A7 = A' ∨ (A7 = some ⟨(w3.alloc o).heap.size, 0, none⟩ ∧ Below (w3.alloc o).heap.size (w3.alloc o) w7)) (o7 : w7.ownsRow base e s (.slice A7 m c7) m (vs.flatten ++ cs)) :
   AllO O w7 (xs ++ [x]) (vs ++ [cs]) (fs ++ [f]) ∧ (fs ++ [f]).flatten.Nodup ∧ (∀ q ∈ (fs ++ [f]).flatten, base ≤ q ∧ A7 ≠ some ⟨q, 0, none⟩) ∧ w7.ownsRow base e s (.slice A7 m c7) m (vs ++ [cs]).flatten := by
 have hl := hall.lt G
 have hl3 : ∀ q ∈ f, q < w3.heap.size := by
   have := (AllO.one hx).lt G
   intro q hq
   exact this q (by simpa using hq)
 have hrg := own_rng hown
 have hall3 := (hall.keep G (w' := w3) fun q hq hqw => hkp q hq hqw).append (AllO.one hx)
 have key : ∀ q ∈ (fs ++ [f]).flatten, base ≤ q ∧ q < w3.heap.size ∧ A' ≠ some ⟨q, 0, none⟩ := fun q hq => by
   rw [List.flatten_append] at hq
   rcases List.mem_append.1 hq with hq | hq
   · have h1 := hF q hq
     have h2 := hl q hq
     exact ⟨h1.1, by omega, h1.2⟩
   · have hq : q ∈ f := by simpa using hq
     have h1 := hfb q hq
     exact ⟨by omega, hl3 q hq, fun e => by have := hrg q e; omega⟩
 refine ⟨hall3.keep G fun q hq hqw => ?_, ?_, fun q hq => ?_, by rw [List.flatten_append]; simpa using o7⟩
 · have h1 := key q hq
   rw [ch7.block q (by simp; omega) h1.2.2]
   exact Below.heap_alloc _ _ _ hqw
 · rw [List.flatten_append]
   exact fresh_nodup (m := wr.heap.size) hnd (by simpa using hfn) hl (fun q hq => hfb q (by simpa using hq))
 · have h1 := key q hq
   refine ⟨h1.1, fun e => ?_⟩
   rcases d7 with rfl | ⟨rfl, _⟩
   · exact h1.2.2 e
   · injection e with e; injection e with e; simp at e; omega
theorem ne_bi2 : (32 : TypeId) ≠ 3 := by decide
theorem ne_ib : (3 : TypeId) ≠ 32 := by decide
theorem ne_eb : (79 : TypeId) ≠ 32 := by decide
def rowI2 (z : Int) (v : Value) (w : World) : Prop := ∃ q, v = .slice (some ⟨q, 0, none⟩) 1 1 ∧ Rd w (some ⟨q, 0, none⟩) [Value.int .i64 z]
theorem sb_rowI2 (z : Int) : StB (rowI2 z) := fun _ _ _ hb ⟨q, h1, h2⟩ => ⟨q, h1, h2.new hb⟩
theorem trO_nil2 (w : World) (B : Nat) : TrO w B ⟨[], [], []⟩ none 0 none 0 none 0 [] := ⟨own_nil _ _ _ _, ownD_nil _ _ _ _, own_nil _ _ _ _, by simp, by simp, by simp, by simp⟩
theorem trO_setRow2 {w : World} {B : Nat} {t : Tr} {A1 A2 A3 : Option Addr} {c1 c2 c3 : Nat} {fp : List Nat} (h : TrO w B t A1 c1 A2 c2 A3 c3 fp) {g : Nat} (hg : g < B) (ds : Array Value) : TrO (w.setRow g ds) B t A1 c1 A2 c2 A3 c3 fp :=
 ⟨own_setRow h.o1 hg ds, h.o2.keep bkO_good (fun q hq _ => setRow_other w g q ds (by have := h.ge q hq; omega)), own_setRow h.o3 hg ds, h.ge, h.a12, h.a13, h.a23⟩
theorem trO_base2 {w : World} {B B' : Nat} {t : Tr} {A1 A2 A3 : Option Addr} {c1 c2 c3 : Nat} {fp : List Nat} (h : TrO w B t A1 c1 A2 c2 A3 c3 fp) (hB : B' ≤ B) : TrO w B' t A1 c1 A2 c2 A3 c3 fp :=
 ⟨own_base h.o1 hB, h.o2, own_base h.o3 hB, fun k hk => Nat.le_trans hB (h.ge k hk), h.a12, h.a13, h.a23⟩
set_option maxRecDepth 100000 in
set_option maxHeartbeats 8000000 in
theorem put_spec (t : Tr) (A1 : Option Addr) (c1 : Nat) (A2 : Option Addr) (c2 : Nat) (A3 : Option Addr) (c3 : Nat) (b : Bk) (A : Option Addr) (c : Nat) (w : World) (h : TrR w t A1 A2 A3) (hl : Rd w A (b.list.flatMap encA)) (hb1 : t.base.length ≤ 1000000) (hb2 : t.blocks.length ≤ 1000000) (hbs : ∀ x ∈ t.blocks, x.list.length ≤ 1000000) (hb3 : t.before.length ≤ 1000000) (hbl : b.list.length ≤ 1000000) :
   Calls Tryz.prog 137 #[.agg (trA t A1 c1 A2 c2 A3 c3), .agg #[.int .i64 b.before, .int .i64 b.height, .int .i64 b.view, .slice A b.list.length c, .int .i64 b.root, .int .i64 b.eff]] w fun e w' => ∃ B1 d1 B2 d2 B3 d3 fp, e = .returned (.tuple #[.agg (trA (pbT t b) B1 d1 B2 d2 B3 d3), .bool (pbOk t b)]) ∧ TrO w' w.heap.size (pbT t b) B1 d1 B2 d2 B3 d3 fp ∧ Below w.heap.size w w' := by
 have HBS := hide (fun x hx => Nat.le_trans (hbs x hx) (by omega) : ∀ x ∈ t.blocks, x.list.length ≤ 1099511627776)
 have HBO := hide hbs
 clear hbs
 have HR := hide (fun w' (hb : Below w.heap.size w w') => h.new hb)
 have HRL := hide (fun w' (hb : Below w.heap.size w w') => (hl.new hb : Rd w' A (b.list.flatMap encA)))
 have HCL := hide (fun w' (hb : Below w.heap.size w w') => copy_spec t A1 c1 A2 c2 A3 c3 w' (unhide HR w' hb) (by omega) (by omega) (unhide HBS) (by omega))
 have HFN := hide (fun w' (hb : Below w.heap.size w w') => find_spec t A1 c1 A2 c2 A3 c3 b.before w' (unhide HR w' hb) (by omega) (unhide HBS))
 simp only [trA] at HCL HFN ⊢
 have k0 : Blk (((w.alloc (.cells #[.slice A1 t.base.length c1, .slice A2 t.blocks.length c2, .slice A3 t.before.length c3] 69)).alloc (.cells #[.int .i64 b.before, .int .i64 b.height, .int .i64 b.view, .slice A b.list.length c, .int .i64 b.root, .int .i64 b.eff] 32)).alloc (.cells #[.slice none 0 0, .slice none 0 0, .slice none 0 0] 69)) w.heap.size 69 #[.slice A1 t.base.length c1, .slice A2 t.blocks.length c2, .slice A3 t.before.length c3] := ((Blk.new _ _ _).alloc _).alloc _
 have k1 : Blk (((w.alloc (.cells #[.slice A1 t.base.length c1, .slice A2 t.blocks.length c2, .slice A3 t.before.length c3] 69)).alloc (.cells #[.int .i64 b.before, .int .i64 b.height, .int .i64 b.view, .slice A b.list.length c, .int .i64 b.root, .int .i64 b.eff] 32)).alloc (.cells #[.slice none 0 0, .slice none 0 0, .slice none 0 0] 69)) (w.heap.size + 1) 32 #[.int .i64 b.before, .int .i64 b.height, .int .i64 b.view, .slice A b.list.length c, .int .i64 b.root, .int .i64 b.eff] := by
   have := (Blk.new (w.alloc (.cells #[.slice A1 t.base.length c1, .slice A2 t.blocks.length c2, .slice A3 t.before.length c3] 69)) 32 #[.int .i64 b.before, .int .i64 b.height, .int .i64 b.view, .slice A b.list.length c, .int .i64 b.root, .int .i64 b.eff]).alloc (.cells #[.slice none 0 0, .slice none 0 0, .slice none 0 0] 69)
   simpa using this
 have kr : Blk (((w.alloc (.cells #[.slice A1 t.base.length c1, .slice A2 t.blocks.length c2, .slice A3 t.before.length c3] 69)).alloc (.cells #[.int .i64 b.before, .int .i64 b.height, .int .i64 b.view, .slice A b.list.length c, .int .i64 b.root, .int .i64 b.eff] 32)).alloc (.cells #[.slice none 0 0, .slice none 0 0, .slice none 0 0] 69)) (w.heap.size + 1 + 1) 69 #[.slice none 0 0, .slice none 0 0, .slice none 0 0] := by
   have := Blk.new ((w.alloc (.cells #[.slice A1 t.base.length c1, .slice A2 t.blocks.length c2, .slice A3 t.before.length c3] 69)).alloc (.cells #[.int .i64 b.before, .int .i64 b.height, .int .i64 b.view, .slice A b.list.length c, .int .i64 b.root, .int .i64 b.eff] 32)) 69 #[.slice none 0 0, .slice none 0 0, .slice none 0 0]
   simpa using this
 have hb0 : Below w.heap.size w (((w.alloc (.cells #[.slice A1 t.base.length c1, .slice A2 t.blocks.length c2, .slice A3 t.before.length c3] 69)).alloc (.cells #[.int .i64 b.before, .int .i64 b.height, .int .i64 b.view, .slice A b.list.length c, .int .i64 b.root, .int .i64 b.eff] 32)).alloc (.cells #[.slice none 0 0, .slice none 0 0, .slice none 0 0] 69)) := (((Below.refl _ _).alloc (Nat.le_refl _) _).alloc (by simp) _).alloc (by simp; omega) _
 have hz0 := kr.lt
 have KV := treeValid_spec t A1 c1 A2 c2 A3 c3 (((w.alloc (.cells #[.slice A1 t.base.length c1, .slice A2 t.blocks.length c2, .slice A3 t.before.length c3] 69)).alloc (.cells #[.int .i64 b.before, .int .i64 b.height, .int .i64 b.view, .slice A b.list.length c, .int .i64 b.root, .int .i64 b.eff] 32)).alloc (.cells #[.slice none 0 0, .slice none 0 0, .slice none 0 0] 69)) (unhide HR _ hb0) (by omega) (by omega) (unhide HBS) (by omega)
 simp only [trA] at KV
 have x0 : (((w.alloc (.cells #[.slice A1 t.base.length c1, .slice A2 t.blocks.length c2, .slice A3 t.before.length c3] 69)).alloc (.cells #[.int .i64 b.before, .int .i64 b.height, .int .i64 b.view, .slice A b.list.length c, .int .i64 b.root, .int .i64 b.eff] 32)).alloc (.cells #[.slice none 0 0, .slice none 0 0, .slice none 0 0] 69)).cell? ⟨w.heap.size, 0, none⟩ = some (.slice A1 t.base.length c1) := k0.cell 0
 have x1 : (((w.alloc (.cells #[.slice A1 t.base.length c1, .slice A2 t.blocks.length c2, .slice A3 t.before.length c3] 69)).alloc (.cells #[.int .i64 b.before, .int .i64 b.height, .int .i64 b.view, .slice A b.list.length c, .int .i64 b.root, .int .i64 b.eff] 32)).alloc (.cells #[.slice none 0 0, .slice none 0 0, .slice none 0 0] 69)).cell? ⟨w.heap.size, 1, none⟩ = some (.slice A2 t.blocks.length c2) := k0.cell 1
 have x2 : (((w.alloc (.cells #[.slice A1 t.base.length c1, .slice A2 t.blocks.length c2, .slice A3 t.before.length c3] 69)).alloc (.cells #[.int .i64 b.before, .int .i64 b.height, .int .i64 b.view, .slice A b.list.length c, .int .i64 b.root, .int .i64 b.eff] 32)).alloc (.cells #[.slice none 0 0, .slice none 0 0, .slice none 0 0] 69)).cell? ⟨w.heap.size, 2, none⟩ = some (.slice A3 t.before.length c3) := k0.cell 2
 clear h hl
 go_enter Tryz.func137, Tryz.ntmps137
 go_wp2_with fail
 refine KV.mono ?_
 rintro e w3 ⟨rfl, b3⟩
 replace k0 := k0.new_ b3
 replace k1 := k1.new_ b3
 replace kr := kr.new_ b3
 replace hb0 := bthen hb0 b3
 replace hz0 := kr.lt
 clear KV x0 x1 x2 b3
 have x0 : w3.cell? ⟨w.heap.size, 0, none⟩ = some (.slice A1 t.base.length c1) := k0.cell 0
 have x1 : w3.cell? ⟨w.heap.size, 1, none⟩ = some (.slice A2 t.blocks.length c2) := k0.cell 1
 have x2 : w3.cell? ⟨w.heap.size, 2, none⟩ = some (.slice A3 t.before.length c3) := k0.cell 2
 cases hv : treeB t
 · have HF := hide (show pbOk t b = false by simp [pbOk, hv])
   have HA := hide (pbT_no (b := b) hv)
   go_wp2_with (refine wpList_store_row rfl 69 (.tmp 4) (.tmp 10) rfl (w.heap.size + 1 + 1) #[.slice none 0 0, .slice none 0 0, .slice none 0 0] rfl rfl 69 #[.slice none 0 0, .slice none 0 0, .slice none 0 0] kr info_tr rfl (sl3_one _ _ _ _ _ _ _ _ _) ?_)
   refine bodyPost_ret (v := .tuple #[.agg #[.slice none 0 0, .slice none 0 0, .slice none 0 0], .bool false]) (results_cell_tmp (p := 4) (q := 5) (ty := 69) rfl _ _ (w.heap.size + 1 + 1) 69 #[.slice none 0 0, .slice none 0 0, .slice none 0 0] (0, 0) _ rfl (blk_setRow kr) Tryz.underlying69 rfl info_tr) rfl ?_
   rw [unhide HA, unhide HF]
   exact ⟨none, 0, none, 0, none, 0, [], rfl, trO_nil2 _ _, below_setRow hb0 (by omega) _⟩
 have HV := hide hv
 clear hv
 go_wp2_with fail
 refine (unhide HCL w3 hb0).mono ?_
 rintro e w4 ⟨B1, d1, B2, d2, B3, d3, fp, rfl, tO, b4⟩
 replace k0 := k0.new_ b4
 replace k1 := k1.new_ b4
 replace kr := kr.new_ b4
 replace hb0 := bthen hb0 b4
 have hs4 := b4.size
 have v3 : w4.cell? ⟨w.heap.size + 1, 3, none⟩ = some (.slice A b.list.length c) := k1.cell 3
 obtain ⟨vs, fs, hall, hnd, hF, oB, hfp⟩ := ownD_open tO.o2 tO.ge
 have o1 := tO.o1
 have o3 := tO.o3
 have HRG := hide tO.rng
 have HA12 := hide tO.a12
 have HA23 := hide tO.a23
 clear x0 x1 x2 b4 tO
 have hr1 := own_rng o1
 have hrB := own_rng oB
 have hr3 := own_rng o3
 have HR1 := hide (fun q hq => (own_rng o1 q hq))
 have HRB := hide (fun q hq => (⟨(own_rng oB q hq).1, (unhide HRG q (.inr (.inl (by rw [hfp]; exact List.mem_append_left _ (mem_blk hq))))).2⟩ : w3.heap.size ≤ q ∧ q < w4.heap.size))
 have HR3 := hide (fun q hq => (own_rng o3 q hq))
 have hxw : w.heap.size + 1 < w4.heap.size := by omega
 have hxw0 : w.heap.size < w4.heap.size := by omega
 have HFB3 := hide (fun q (hq : q ∈ fs.flatten) (e : B3 = some ⟨q, 0, none⟩) => unhide HA23 q e (by rw [hfp]; exact List.mem_append_right _ hq))
 have HFB1 := hide (fun q (hq : q ∈ fs.flatten) (e : B1 = some ⟨q, 0, none⟩) => unhide HA12 q e (by rw [hfp]; exact List.mem_append_right _ hq))
 have HB34 := hide (fun q (e : B3 = some ⟨q, 0, none⟩) => (unhide HRG q (.inr (.inr e))).2)
 have HB14 := hide (fun q (e : B1 = some ⟨q, 0, none⟩) => (unhide HRG q (.inl e)).2)
 clear hr1 hrB hr3 hfp
 go_wp2_with (first | (refine wpList_store_row rfl 69 (.tmp 6) (.tmp 12) rfl w4.heap.size #[.slice B1 t.base.length d1, .slice B2 t.blocks.length d2, .slice B3 t.before.length d3] rfl rfl 69 #[.slice none 0 0, .slice none 0 0, .slice none 0 0] (box_new w4 69 #[.slice none 0 0, .slice none 0 0, .slice none 0 0] #[.slice B1 t.base.length d1, .slice B2 t.blocks.length d2, .slice B3 t.before.length d3]).1 info_tr rfl (sl3_one _ _ _ _ _ _ _ _ _) ?_; refine at_world (C := fun W => wpList _ _ _ _ _ W) (F := fun W => Blk W w4.heap.size 69 #[.slice B1 t.base.length d1, .slice B2 t.blocks.length d2, .slice B3 t.before.length d3] ∧ Below w4.heap.size w4 W) ⟨(box_new w4 69 #[.slice none 0 0, .slice none 0 0, .slice none 0 0] #[.slice B1 t.base.length d1, .slice B2 t.blocks.length d2, .slice B3 t.before.length d3]).2.1, (box_new w4 69 #[.slice none 0 0, .slice none 0 0, .slice none 0 0] #[.slice B1 t.base.length d1, .slice B2 t.blocks.length d2, .slice B3 t.before.length d3]).2.2⟩ ?_; rintro w5 ⟨k6, b5⟩; have v35 : w5.cell? ⟨w.heap.size + 1, 3, none⟩ = some (.slice A b.list.length c) := (k1.new_ b5).cell 3; have hl6 := k6.lt; have hxw5 : w.heap.size + 1 < w5.heap.size := (by omega); have oe := own_made (base := w5.heap.size) (e := 56) (size := 4) w5 #[] 0 (Nat.le_refl _) (by simp [maxLen]) rfl; have be : Below w4.heap.size w4 (w5.alloc (.cells #[] 56)) := bthen b5 ((Below.refl _ _).alloc (Nat.le_refl _) _)) | (at_builtin; refine wpList_app0 rfl (.tmp 13) (.tmp 15) 30 rfl el_actz rfl oe rfl (unhide HRL _ (bthen hb0 be)) (len_acts b.list) (one_acts2 b.list) (by simp only [maxLen]; omega) (by omega) (by simp) ?_; intro A7 c7 w7 o7 b7; have b47 := bthen be b7; have k17 := k1.new_ b47; have u0 : w7.cell? ⟨w.heap.size + 1, 0, none⟩ = some _ := k17.cell 0; have u1 : w7.cell? ⟨w.heap.size + 1, 1, none⟩ = some _ := k17.cell 1; have u2 : w7.cell? ⟨w.heap.size + 1, 2, none⟩ = some _ := k17.cell 2; have u3 : w7.cell? ⟨w.heap.size + 1, 3, none⟩ = some _ := k17.cell 3; have u4 : w7.cell? ⟨w.heap.size + 1, 4, none⟩ = some _ := k17.cell 4; have u5 : w7.cell? ⟨w.heap.size + 1, 5, none⟩ = some _ := k17.cell 5; have f3 : w7.frozen? ⟨w.heap.size + 1, 3, none⟩ = false := k17.frozen 3; have k67 := (k6.new_ ((Below.refl _ _).alloc (Nat.le_refl _) _)).new_ b7; have g1 : w7.cell? ⟨w4.heap.size, 1, none⟩ = some (.slice B2 t.blocks.length d2) := k67.cell 1; have chS : Chg (fun q => q = w.heap.size + 1) w7 (w7.setCell ⟨w.heap.size + 1, 3, none⟩ (.slice A7 b.list.length c7)) := (Chg.refl (fun q => q = w.heap.size + 1) w7).setCell (p := ⟨w.heap.size + 1, 3, none⟩) (.inl rfl) _; have hs7 := b47.size; have oB7 := own_chg (own_new oB b47) chS (fun q hq e => by have := unhide HRB q hq; omega); have o37 := own_chg (own_new o3 b47) chS (fun q hq e => by have := unhide HR3 q hq; omega); have o7s := own_chg o7 chS (fun q hq e => by have := own_rng o7 q hq; omega); have k67s := k67.chg chS (by omega); have es : (w7.setCell ⟨w.heap.size + 1, 3, none⟩ (.slice A7 b.list.length c7)).heap.size = w7.heap.size := (by simp); have rl := rd_lit (w7.setCell ⟨w.heap.size + 1, 3, none⟩ (.slice A7 b.list.length c7)) (bkV b A7 c7) 32; rw [es] at rl; clear es; have hne : w4.heap.size ≠ w.heap.size + 1 := (by omega)) | (at_builtin; refine wpList_app rfl (.tmp 19) (.tmp 21) 67 rfl el_bk rfl (own_alloc oB7 _) rfl rl rfl (bkV_one b A7 c7) (by simp only [maxLen]; omega) (by omega) (by simp; omega) ?_; intro A8 c8 w8 o8 ch8 d8 _; have k68 := (k67s.alloc (.cells (bkV b A7 c7).toArray 32)).chg ch8 (fun e => by have := unhide HRB _ e; omega); have h1 : w8.cell? ⟨w4.heap.size, 1, none⟩ = some (.slice B2 t.blocks.length d2) := k68.cell 1; have h2 : w8.frozen? ⟨w4.heap.size, 1, none⟩ = false := k68.frozen 1))
 have chG : Chg (fun q => q = w4.heap.size) w8 (w8.setCell ⟨w4.heap.size, 1, none⟩ (.slice A8 (t.blocks.length + 1) c8)) := (Chg.refl (fun q => q = w4.heap.size) w8).setCell (p := ⟨w4.heap.size, 1, none⟩) (.inl rfl) _
 have hs8 := ch8.size
 have hsS := chS.size
 have hsG := chG.size
 simp only [World.size_alloc, World.size_setCell] at hs8 hsS hsG
 have hx : bkO b (w7.setCell ⟨w.heap.size + 1, 3, none⟩ (.slice A7 b.list.length c7)) (bkV b A7 c7) (blk A7) := ⟨A7, c7, rfl, own_base0 o7s, rfl⟩
 have hlt4 := hall.lt bkO_good
 have key7 : ∀ q, q < w4.heap.size → q ≠ w.heap.size + 1 → (w7.setCell ⟨w.heap.size + 1, 3, none⟩ (.slice A7 b.list.length c7)).heap[q]? = w4.heap[q]? := fun q h1 h2 => by rw [chS.block q (by omega) h2, b47.block q h1]
 have hfb : ∀ q ∈ blk A7, w4.heap.size ≤ q := fun q hq => by have := (blk_own o7s hq).2.1; omega
 obtain ⟨hall8, hnd8, hF8, hown8⟩ := grow_step3 bkO_good bk_good hall hnd hF oB (by omega) (by simp; omega) (fun q hq hqw => key7 q hqw (by have := (hF q hq).1; omega)) hx (blk_nodup _) hfb ch8 d8 (by simpa [bkV] using o8)
 have o38 := own_chg (own_chg (own_alloc o37 (.cells (bkV b A7 c7).toArray 32)) ch8 (fun q hq e => own_ne o3 oB ne_ib q hq e)) chG (fun q hq e => by have := unhide HR3 q hq; have := unhide HRG q (.inr (.inr hq)); omega)
 have o18 := own_chg (own_chg (own_alloc (own_chg (own_new o1 b47) chS (fun q hq e => by have := unhide HR1 q hq; omega)) (.cells (bkV b A7 c7).toArray 32)) ch8 (fun q hq e => own_ne o1 oB ne_eb q hq e)) chG (fun q hq e => by have := unhide HR1 q hq; omega)
 have hr8 := own_rng hown8
 have hlt8 := hall8.lt bkO_good
 have hA8 : ∀ q, A8 = some ⟨q, 0, none⟩ → q ≠ w4.heap.size := fun q hq => by
   rcases d8 with rfl | ⟨rfl, _⟩
   · have := unhide HRB q hq; omega
   · injection hq with hq; injection hq with hq; simp at hq; omega
 have hfn : ∀ q ∈ (fs ++ [blk A7]).flatten, q ≠ w4.heap.size := fun q hq => by
   rw [List.flatten_append] at hq
   rcases List.mem_append.1 hq with hq | hq
   · have := hlt4 q hq; omega
   · have := (blk_own o7s (show q ∈ blk A7 by simpa using hq)).2.1; omega
 have hall9 := hall8.keep bkO_good (w' := (w8.setCell ⟨w4.heap.size, 1, none⟩ (.slice A8 (t.blocks.length + 1) c8))) (fun q hq hqw => chG.block q hqw (hfn q hq))
 have hown9 := own_chg hown8 chG (fun q hq e => hA8 q hq e)
 have k69 : Blk (w8.setCell ⟨w4.heap.size, 1, none⟩ (.slice A8 (t.blocks.length + 1) c8)) w4.heap.size 69 #[.slice B1 t.base.length d1, .slice A8 (t.blocks.length + 1) c8, .slice B3 t.before.length d3] := k68.set_ 1 _
 have keep9 : ∀ q, q < w4.heap.size → q ≠ w.heap.size + 1 → (¬ B2 = some ⟨q, 0, none⟩) → (w8.setCell ⟨w4.heap.size, 1, none⟩ (.slice A8 (t.blocks.length + 1) c8)).heap[q]? = w4.heap[q]? := fun q h1 h2 h3 => by rw [chG.block q (by omega) (by omega), ch8.block q (by simp; omega) h3, Below.heap_alloc _ _ _ (by simp; omega), key7 q h1 h2]
 have kb9 : Blk (w8.setCell ⟨w4.heap.size, 1, none⟩ (.slice A8 (t.blocks.length + 1) c8)) w.heap.size 69 #[.slice A1 t.base.length c1, .slice A2 t.blocks.length c2, .slice A3 t.before.length c3] := (keep9 w.heap.size (by omega) (by omega) (fun e => by have := unhide HRB _ e; omega)).trans k0
 have kr9 : Blk (w8.setCell ⟨w4.heap.size, 1, none⟩ (.slice A8 (t.blocks.length + 1) c8)) (w.heap.size + 1 + 1) 69 #[.slice none 0 0, .slice none 0 0, .slice none 0 0] := (keep9 (w.heap.size + 1 + 1) (by omega) (by omega) (fun e => by have := unhide HRB _ e; omega)).trans kr
 have c19 : (w8.setCell ⟨w4.heap.size, 1, none⟩ (.slice A8 (t.blocks.length + 1) c8)).cell? ⟨w.heap.size + 1, 0, none⟩ = some (.int .i64 b.before) := (((((k17.set_ 3 (.slice A7 b.list.length c7)).alloc (.cells (bkV b A7 c7).toArray 32)).chg ch8 (fun e => by have := unhide HRB _ e; omega)).chg chG (by omega)).cell 0)
 have hl19 : w.heap.size + 1 < (w8.setCell ⟨w4.heap.size, 1, none⟩ (.slice A8 (t.blocks.length + 1) c8)).heap.size := by simp only [World.size_setCell]; omega
 have hB9 : Below w.heap.size w (w8.setCell ⟨w4.heap.size, 1, none⟩ (.slice A8 (t.blocks.length + 1) c8)) := hb0.trans ⟨chG.os.trans (ch8.os.trans (chS.os.trans b47.os)), chG.tape.trans (ch8.tape.trans (chS.tape.trans b47.tape)), chG.output.trans (ch8.output.trans (chS.output.trans b47.output)), by simp only [World.size_setCell]; omega, fun q hq => keep9 q (by omega) (by omega) (fun e => by have := unhide HRB q e; omega)⟩
 have hs49 : w4.heap.size < (w8.setCell ⟨w4.heap.size, 1, none⟩ (.slice A8 (t.blocks.length + 1) c8)).heap.size := by simp only [World.size_setCell]; omega
 obtain ⟨w9, hw9⟩ : ∃ w9, w9 = (w8.setCell ⟨w4.heap.size, 1, none⟩ (.slice A8 (t.blocks.length + 1) c8)) := ⟨_, rfl⟩
 rw [← hw9] at hall9 hown9 k69 kb9 kr9 c19 hl19 hB9 hs49 o38 o18 ⊢
 clear hw9 keep9 chG ch8 k68 k67s k67 oB7 o37 o7s o8 h1 h2 hr8 hs8 hs7 hsS hsG chS rl key7 hall8 hlt8 hlt4 hall d8 u0 u1 u2 u3 u4 u5 f3 g1 k17 b7 b47 be oe b5 k6
 have HX := hide (fun (w' : World) (hb : Below w9.heap.size w9 w') => show (w'.cell? ⟨w.heap.size, 0, none⟩ = some (.slice A1 t.base.length c1) ∧ w'.cell? ⟨w.heap.size, 1, none⟩ = some (.slice A2 t.blocks.length c2) ∧ w'.cell? ⟨w.heap.size, 2, none⟩ = some (.slice A3 t.before.length c3)) ∧ w'.cell? ⟨w4.heap.size, 2, none⟩ = some (.slice B3 t.before.length d3) ∧ w'.cell? ⟨w.heap.size + 1, 0, none⟩ = some (.int .i64 b.before) ∧ Below w.heap.size w w' from ⟨⟨(kb9.new_ hb).cell 0, (kb9.new_ hb).cell 1, (kb9.new_ hb).cell 2⟩, (k69.new_ hb).cell 2, (hb.cell (p := ⟨w.heap.size + 1, 0, none⟩) hl19).trans c19, bthen hB9 hb⟩)
 have hF : StBL [bV (.pointer (some ⟨w4.heap.size, 2, none⟩)), bV (.slice B3 t.before.length d3), bV (.agg #[.slice A1 t.base.length c1, .slice A2 t.blocks.length c2, .slice A3 t.before.length c3]), bV (.pointer (some ⟨w.heap.size + 1, 0, none⟩)), bV (.int .i64 b.before), bV (.int .i64 (findB t.blocks b.before)), rowI2 (findB t.blocks b.before)] :=
   ⟨sb_V _, sb_V _, sb_V _, sb_V _, sb_V _, sb_V _, sb_rowI2 _, trivial⟩
 go_upto_region 6 with fail
 refine wp_region_loc (by kernel_rfl) [(0, some 24), (1, some 25), (2, some 26), (3, some 27), (4, some 28), (5, some 29), (6, some 30)] [[], [(0, some 24)], [], [], [(3, some 27)], [(2, some 26), (4, some 28)], [(5, some 29)]] (by kernel_rfl)
   (locB _) (fun a b => Below a.heap.size a b) noR [0, 0, 0, 0, 0, 0, 0] 0 (by kernel_rfl) (fun _ => Below.refl _ _) (fun _ _ _ => bthen) (locB_st hF _) trivial ?_ ?_
 · refine steps_cons ?s0 ( steps_cons ?s1 ( steps_cons ?s2 ( steps_cons ?s3 ( steps_cons ?s4 ( steps_cons ?s5 ( steps_cons ?s6 steps_nil))))))
   case s0 | s3 =>
     intro w' m' hE hR
     intro Q hQ
     go_wp2
     exact hQ _ _ _ rfl rfl (Below.refl _ _) trivial
   case s1 | s4 =>
     intro w' m' hE hR
     rintro _ rfl Q hQ
     obtain ⟨⟨s1, s2, s3⟩, s4, s5, s6⟩ := unhide HX w' (below_undrew hE)
     go_wp2
     exact hQ _ _ _ rfl rfl (Below.refl _ _) trivial
   case s2 =>
     intro w' m' hE hR
     intro Q hQ
     obtain ⟨⟨s1, s2, s3⟩, s4, s5, s6⟩ := unhide HX w' (below_undrew hE)
     go_wp2
     exact hQ _ _ _ rfl rfl (Below.refl _ _) trivial
   case s5 =>
     intro w' m' hE hR
     rintro _ rfl _ rfl Q hQ
     obtain ⟨⟨s1, s2, s3⟩, s4, s5, s6⟩ := unhide HX w' (below_undrew hE)
     go_wp2_with fail
     refine (unhide HFN w' s6).mono ?_
     rintro e w1 ⟨rfl, b1⟩
     go_wp2
     exact hQ _ _ _ rfl rfl b1 trivial
   case s6 =>
     intro w' m' hE hR
     rintro _ rfl Q hQ
     go_wp2
     exact hQ _ _ _ rfl ⟨_, rfl, rd_lit w' [.int .i64 (findB t.blocks b.before)] _⟩ ((Below.refl _ _).alloc (Nat.le_refl _) _) trivial
 intro w10 hE _
 rintro v0 - v1 hv1 v2 - v3 - v4 - v5 - v6 ⟨ql, rfl, rl⟩
 obtain rfl : v1 = _ := hv1
 change wpList _ _ _ [_, _, _] _ _
 simp only [Act.put, List.setIfInBounds_toArray, List.set_cons_succ, List.set_cons_zero]
 have b10 := below_undrew hE
 clear hE hF
 have hs10 := b10.size
 have o310 := own_new o38 b10
 have k610 := k69.new_ b10
 have hlt9 := hall9.lt bkO_good
 go_wp2_with (at_builtin; refine wpList_app rfl (.tmp 25) (.tmp 30) 26 rfl el_int rfl o310 rfl rl rfl (one_ints [findB t.blocks b.before]) (by simp only [maxLen]; omega) (by omega) (by omega) ?_; intro D8 e8 w11 o11 ch11 d11 _; have k611 := k610.chg ch11 (fun e => by have := unhide HB34 _ e; omega); have h1 : w11.cell? ⟨w4.heap.size, 2, none⟩ = some (.slice B3 t.before.length d3) := k611.cell 2; have h2 : w11.frozen? ⟨w4.heap.size, 2, none⟩ = false := k611.frozen 2; have h3 : w11.cell? ⟨w4.heap.size, 0, none⟩ = some (.slice B1 t.base.length d1) := k611.cell 0; have h4 : w11.cell? ⟨w4.heap.size, 1, none⟩ = some (.slice A8 (t.blocks.length + 1) c8) := k611.cell 1)
 have chH : Chg (fun q => q = w4.heap.size) w11 (w11.setCell ⟨w4.heap.size, 2, none⟩ (.slice D8 (t.before.length + 1) e8)) := (Chg.refl (fun q => q = w4.heap.size) w11).setCell (p := ⟨w4.heap.size, 2, none⟩) (.inl rfl) _
 have hs11 := ch11.size
 have hD8 : ∀ q, D8 = some ⟨q, 0, none⟩ → q ≠ w4.heap.size := fun q hq => by
   rcases d11 with rfl | ⟨rfl, _⟩
   · have := unhide HB34 q hq; omega
   · injection hq with hq; injection hq with hq; omega
 have keep12 : ∀ q, q < w9.heap.size → q ≠ w4.heap.size → (¬ B3 = some ⟨q, 0, none⟩) → (w11.setCell ⟨w4.heap.size, 2, none⟩ (.slice D8 (t.before.length + 1) e8)).heap[q]? = w9.heap[q]? := fun q h1 h2 h3 => by rw [chH.block q (by omega) h2, ch11.block q (by omega) h3, b10.block q h1]
 have hfb3 : ∀ q ∈ (fs ++ [blk A7]).flatten, B3 ≠ some ⟨q, 0, none⟩ := fun q hq e => by
   rw [List.flatten_append] at hq
   rcases List.mem_append.1 hq with hq | hq
   · exact unhide HFB3 q hq e
   · have := hfb q (by simpa using hq); have := unhide HB34 q e; omega
 have hfb1 : ∀ q ∈ (fs ++ [blk A7]).flatten, B1 ≠ some ⟨q, 0, none⟩ := fun q hq e => by
   rw [List.flatten_append] at hq
   rcases List.mem_append.1 hq with hq | hq
   · exact unhide HFB1 q hq e
   · have := hfb q (by simpa using hq); have := unhide HB14 q e; omega
 have hall12 := hall9.keep bkO_good (w' := (w11.setCell ⟨w4.heap.size, 2, none⟩ (.slice D8 (t.before.length + 1) e8))) (fun q hq hqw => keep12 q hqw (hfn q hq) (hfb3 q hq))
 have hown12 := own_keep hown9 (w' := (w11.setCell ⟨w4.heap.size, 2, none⟩ (.slice D8 (t.before.length + 1) e8))) (fun q hq hqw => keep12 q hqw (hA8 q hq) (own_ne hown9 o38 ne_bi2 q hq))
 have o112 := own_keep o18 (w' := (w11.setCell ⟨w4.heap.size, 2, none⟩ (.slice D8 (t.before.length + 1) e8))) (fun q hq hqw => keep12 q hqw (by have := unhide HB14 q hq; omega) (own_ne o18 o38 ne_ei q hq))
 have o312 := own_chg o11 chH (fun q hq e => hD8 q hq e)
 have kr12 : Blk (w11.setCell ⟨w4.heap.size, 2, none⟩ (.slice D8 (t.before.length + 1) e8)) (w.heap.size + 1 + 1) 69 #[.slice none 0 0, .slice none 0 0, .slice none 0 0] := (keep12 _ (by omega) (by omega) (fun e => by have := unhide HR3 _ e; omega)).trans kr9
 have kb12 : Blk (w11.setCell ⟨w4.heap.size, 2, none⟩ (.slice D8 (t.before.length + 1) e8)) w.heap.size 69 #[.slice A1 t.base.length c1, .slice A2 t.blocks.length c2, .slice A3 t.before.length c3] := (keep12 _ (by omega) (by omega) (fun e => by have := unhide HR3 _ e; omega)).trans kb9
 have k612 : Blk (w11.setCell ⟨w4.heap.size, 2, none⟩ (.slice D8 (t.before.length + 1) e8)) w4.heap.size 69 #[.slice B1 t.base.length d1, .slice A8 (t.blocks.length + 1) c8, .slice D8 (t.before.length + 1) e8] := k611.set_ 2 _
 have hB12 : Below w.heap.size w (w11.setCell ⟨w4.heap.size, 2, none⟩ (.slice D8 (t.before.length + 1) e8)) := hB9.trans ⟨chH.os.trans (ch11.os.trans b10.os), chH.tape.trans (ch11.tape.trans b10.tape), chH.output.trans (ch11.output.trans b10.output), by simp only [World.size_setCell]; omega, fun q hq => keep12 q (by omega) (by omega) (fun e => by have := unhide HR3 q e; omega)⟩
 have hgd := grow_done (xs := t.blocks ++ [b]) hall12 hnd8 hF8 (by simpa using hown12)
 have tX : TrO (w11.setCell ⟨w4.heap.size, 2, none⟩ (.slice D8 (t.before.length + 1) e8)) w3.heap.size (pbX t b) B1 d1 A8 c8 D8 e8 (blk A8 ++ (fs ++ [blk A7]).flatten) := by
   refine ⟨own_base o112 (Nat.le_refl _), hgd.1, by simpa [pbX] using o312, hgd.2, fun q hq hq2 => ?_, own_ne o112 o312 ne_ei, fun q hq hq2 => ?_⟩
   · rcases List.mem_append.1 hq2 with h5 | h5
     · exact own_ne o112 hown12 ne_eb q hq (blk_own hown12 h5).1
     · exact hfb1 q h5 hq
   · rcases List.mem_append.1 hq2 with h5 | h5
     · exact own_ne o312 hown12 ne_ib q hq (blk_own hown12 h5).1
     · rcases d11 with rfl | ⟨rfl, _⟩
       · exact hfb3 q h5 hq
       · have := hlt9 q h5
         injection hq with hq; injection hq with hq; omega
 obtain ⟨w12, hw12⟩ : ∃ w12, w12 = (w11.setCell ⟨w4.heap.size, 2, none⟩ (.slice D8 (t.before.length + 1) e8)) := ⟨_, rfl⟩
 rw [← hw12] at tX kr12 kb12 k612 hB12 ⊢
 clear hw12 hgd o312 o112 hown12 hall12 hfb1 hfb3 keep12 hD8 chH ch11 k611 h1 h2 h3 h4 d11 o11 b10 hall9 hown9 o38 o18 k69 kb9 kr9 c19 hlt9 k610 o310 HX rl
 have hlx1 : (pbX t b).base.length = t.base.length := rfl
 have hlx2 : (pbX t b).blocks.length = t.blocks.length + 1 := by simp [pbX]
 have hlx3 : (pbX t b).before.length = t.before.length + 1 := by simp [pbX]
 have hbx : ∀ x ∈ (pbX t b).blocks, x.list.length ≤ 1099511627776 := fun x hx => by
   rcases List.mem_append.1 (show x ∈ t.blocks ++ [b] from hx) with h5 | h5
   · exact unhide HBS x h5
   · rw [List.mem_singleton] at h5; rw [h5]; omega
 have KX := treeValid_spec (pbX t b) B1 d1 A8 c8 D8 e8 w12 tX.rd (by omega) (by omega) hbx (by omega)
 simp only [trA] at KX
 rw [hlx1, hlx2, hlx3] at KX
 have HL1 := hide hlx1
 have HL2 := hide hlx2
 have HL3 := hide hlx3
 clear hlx1 hlx2 hlx3 hbx
 refine KX.mono ?_
 rintro e w13 ⟨rfl, b13⟩
 replace tX := tX.new b13
 replace kr12 := kr12.new_ b13
 replace kb12 := kb12.new_ b13
 replace k612 := k612.new_ b13
 replace hB12 := bthen hB12 b13
 have hl13 := kr12.lt
 clear KX b13
 have y0 : w13.cell? ⟨w.heap.size, 0, none⟩ = some (.slice A1 t.base.length c1) := kb12.cell 0
 have y1 : w13.cell? ⟨w.heap.size, 1, none⟩ = some (.slice A2 t.blocks.length c2) := kb12.cell 1
 have y2 : w13.cell? ⟨w.heap.size, 2, none⟩ = some (.slice A3 t.before.length c3) := kb12.cell 2
 have g0 : w13.cell? ⟨w4.heap.size, 0, none⟩ = some (.slice B1 t.base.length d1) := k612.cell 0
 have g1 : w13.cell? ⟨w4.heap.size, 1, none⟩ = some (.slice A8 (t.blocks.length + 1) c8) := k612.cell 1
 have g2 : w13.cell? ⟨w4.heap.size, 2, none⟩ = some (.slice D8 (t.before.length + 1) e8) := k612.cell 2
 cases hvx : treeB (pbX t b)
 · have HF := hide (show pbOk t b = false by simp [pbOk, hvx])
   have HA := hide (pbT_out (unhide HV) hvx)
   clear hvx
   go_wp2_with fail
   refine (unhide HCL w13 hB12).mono ?_
   rintro e w14 ⟨E1, f1, E2, f2, E3, f3, fq, rfl, tE, b14⟩
   replace kr12 := kr12.new_ b14
   have hs14 := b14.size
   go_wp2_with (refine wpList_store_row rfl 69 (.tmp 4) (.tmp 37) rfl (w.heap.size + 1 + 1) #[.slice E1 t.base.length f1, .slice E2 t.blocks.length f2, .slice E3 t.before.length f3] rfl rfl 69 #[.slice none 0 0, .slice none 0 0, .slice none 0 0] kr12 info_tr rfl (sl3_one _ _ _ _ _ _ _ _ _) ?_)
   refine bodyPost_ret (v := .tuple #[.agg #[.slice E1 t.base.length f1, .slice E2 t.blocks.length f2, .slice E3 t.before.length f3], .bool false]) (results_cell_tmp (p := 4) (q := 5) (ty := 69) rfl _ _ (w.heap.size + 1 + 1) 69 #[.slice E1 t.base.length f1, .slice E2 t.blocks.length f2, .slice E3 t.before.length f3] (0, 0) _ rfl (blk_setRow kr12) Tryz.underlying69 rfl info_tr) rfl ?_
   rw [unhide HA, unhide HF]
   exact ⟨E1, f1, E2, f2, E3, f3, fq, rfl, trO_base2 (trO_setRow2 tE (by omega) _) (by omega), below_setRow (bthen hB12 b14) (by omega) _⟩
 have HF := hide (show pbOk t b = true by rw [pbOk, unhide HV, hvx]; rfl)
 have HA := hide (pbT_yes (unhide HV) hvx)
 clear hvx
 go_wp2_with (refine wpList_store_row rfl 69 (.tmp 4) (.tmp 38) rfl (w.heap.size + 1 + 1) #[.slice B1 t.base.length d1, .slice A8 (t.blocks.length + 1) c8, .slice D8 (t.before.length + 1) e8] rfl rfl 69 #[.slice none 0 0, .slice none 0 0, .slice none 0 0] kr12 info_tr rfl (sl3_one _ _ _ _ _ _ _ _ _) ?_)
 refine bodyPost_ret (v := .tuple #[.agg #[.slice B1 t.base.length d1, .slice A8 (t.blocks.length + 1) c8, .slice D8 (t.before.length + 1) e8], .bool true]) (results_cell_tmp (p := 4) (q := 5) (ty := 69) rfl _ _ (w.heap.size + 1 + 1) 69 #[.slice B1 t.base.length d1, .slice A8 (t.blocks.length + 1) c8, .slice D8 (t.before.length + 1) e8] (0, 0) _ rfl (blk_setRow kr12) Tryz.underlying69 rfl info_tr) rfl ?_
 rw [unhide HA, unhide HF]
 refine ⟨B1, d1, A8, c8, D8, e8, _, ?_, trO_base2 (trO_setRow2 tX (by omega) _) (by omega), below_setRow hB12 (by omega) _⟩
 rw [unhide HL1, unhide HL2, unhide HL3]
end Go.Proofs.YtihlhejencninaaGreat
namespace Go.Proofs.YtihlhejencninaaGreat
open Go.RowKit
set_option linter.unusedVariables false
set_option linter.unusedSimpArgs false

def grNext (t : Tr) (n view : Int) (al : List Act) : Bk := nextB (bAt t n.toNat) (storeT t n) view al
def grOk (t : Tr) (n view : Int) (al : List Act) : Bool := treeB t && (inB n 0 ((t.blocks.length : Int) - 1) && (nextOk (bAt t n.toNat) (storeT t n) view al && pbOk t (grNext t n view al)))
/-- the tree with a next block -/
def grT (t : Tr) (n view : Int) (al : List Act) : Tr := if treeB t = true then (if inB n 0 ((t.blocks.length : Int) - 1) = true then (if nextOk (bAt t n.toNat) (storeT t n) view al = true then pbT t (grNext t n view al) else t) else t) else ⟨[], [], []⟩
theorem grT_ok {t : Tr} (n view : Int) (al : List Act) (h : treeB t = true) : treeB (grT t n view al) = true := by
 rw [grT, if_pos h]
 split
 · split
   · exact pbT_ok _ h
   · exact h
 · exact h
theorem grT_no {t : Tr} {n view : Int} {al : List Act} (h : treeB t = false) : grT t n view al = ⟨[], [], []⟩ := by rw [grT, if_neg (by simp [h])]
theorem grT_out {t : Tr} {n view : Int} {al : List Act} (h : treeB t = true) (hn : inB n 0 ((t.blocks.length : Int) - 1) = false) : grT t n view al = t := by rw [grT, if_pos h, if_neg (by simp [hn])]
theorem grT_bad {t : Tr} {n view : Int} {al : List Act} (h : treeB t = true) (hn : inB n 0 ((t.blocks.length : Int) - 1) = true) (hx : nextOk (bAt t n.toNat) (storeT t n) view al = false) : grT t n view al = t := by rw [grT, if_pos h, if_pos hn, if_neg (by simp [hx])]
theorem grT_yes {t : Tr} {n view : Int} {al : List Act} (h : treeB t = true) (hn : inB n 0 ((t.blocks.length : Int) - 1) = true) (hx : nextOk (bAt t n.toNat) (storeT t n) view al = true) : grT t n view al = pbT t (grNext t n view al) := by rw [grT, if_pos h, if_pos hn, if_pos hx]
theorem ne_ab : (56 : TypeId) ≠ 32 := by decide
def sNextT (B : Nat) (x : Bk) (ok : Bool) (v : Value) (w : World) : Prop := ∃ A c, v = .tuple #[.agg #[.int .i64 x.before, .int .i64 x.height, .int .i64 x.view, .slice A x.list.length c, .int .i64 x.root, .int .i64 x.eff], .bool ok] ∧ w.ownsRow B 56 4 (.slice A x.list.length c) x.list.length (x.list.flatMap encA)
def sNext (B : Nat) (x : Bk) (v : Value) (w : World) : Prop := ∃ A c, v = .agg #[.int .i64 x.before, .int .i64 x.height, .int .i64 x.view, .slice A x.list.length c, .int .i64 x.root, .int .i64 x.eff] ∧ w.ownsRow B 56 4 (.slice A x.list.length c) x.list.length (x.list.flatMap encA)
def qNext (B : Nat) (x : Bk) (cs : Array Value) (w : World) : Prop := ∃ A c, cs = #[.int .i64 x.before, .int .i64 x.height, .int .i64 x.view, .slice A x.list.length c, .int .i64 x.root, .int .i64 x.eff] ∧ w.ownsRow B 56 4 (.slice A x.list.length c) x.list.length (x.list.flatMap encA)
set_option maxRecDepth 100000 in
set_option maxHeartbeats 8000000 in
theorem grow_spec (t : Tr) (A1 : Option Addr) (c1 : Nat) (A2 : Option Addr) (c2 : Nat) (A3 : Option Addr) (c3 : Nat) (n view : Int) (L : Option Addr) (cl : Nat) (al : List Act) (w : World) (h : TrR w t A1 A2 A3) (hl : Rd w L (al.flatMap encA)) (hb1 : t.base.length ≤ 1000000) (hb2 : t.blocks.length ≤ 1000000) (hbs : ∀ x ∈ t.blocks, x.list.length ≤ 1000000) (hb3 : t.before.length ≤ 1000000) (hbl : al.length ≤ 1000000) :
   Calls Tryz.prog 136 #[.agg (trA t A1 c1 A2 c2 A3 c3), .int .i64 n, .int .i64 view, .slice L al.length cl] w fun e w' => ∃ B1 d1 B2 d2 B3 d3 fp, e = .returned (.tuple #[.agg (trA (grT t n view al) B1 d1 B2 d2 B3 d3), .bool (grOk t n view al)]) ∧ TrO w' w.heap.size (grT t n view al) B1 d1 B2 d2 B3 d3 fp ∧ Below w.heap.size w w' := by
 have HBS := hide (fun x hx => Nat.le_trans (hbs x hx) (by omega) : ∀ x ∈ t.blocks, x.list.length ≤ 1099511627776)
 have HBO := hide hbs
 clear hbs
 have hT := h
 have HR := hide (fun w' (hb : Below w.heap.size w w') => h.new hb)
 have HRL := hide (fun w' (hb : Below w.heap.size w w') => (hl.new hb : Rd w' L (al.flatMap encA)))
 have HCL := hide (fun w' (hb : Below w.heap.size w w') => copy_spec t A1 c1 A2 c2 A3 c3 w' (unhide HR w' hb) (by omega) (by omega) (unhide HBS) (by omega))
 have HST := hide (fun w' (hb : Below w.heap.size w w') => storeOf_spec t A1 c1 A2 c2 A3 c3 n w' (unhide HR w' hb) (by omega) (by omega) (unhide HBS) (by omega))
 simp only [trA] at HCL HST ⊢
 have k0 : Blk ((w.alloc (.cells #[.slice A1 t.base.length c1, .slice A2 t.blocks.length c2, .slice A3 t.before.length c3] 69)).alloc (.cells #[.slice none 0 0, .slice none 0 0, .slice none 0 0] 69)) w.heap.size 69 #[.slice A1 t.base.length c1, .slice A2 t.blocks.length c2, .slice A3 t.before.length c3] := (Blk.new _ _ _).alloc _
 have kr : Blk ((w.alloc (.cells #[.slice A1 t.base.length c1, .slice A2 t.blocks.length c2, .slice A3 t.before.length c3] 69)).alloc (.cells #[.slice none 0 0, .slice none 0 0, .slice none 0 0] 69)) (w.heap.size + 1) 69 #[.slice none 0 0, .slice none 0 0, .slice none 0 0] := by
   have := Blk.new (w.alloc (.cells #[.slice A1 t.base.length c1, .slice A2 t.blocks.length c2, .slice A3 t.before.length c3] 69)) 69 #[.slice none 0 0, .slice none 0 0, .slice none 0 0]
   simpa using this
 have hb0 : Below w.heap.size w ((w.alloc (.cells #[.slice A1 t.base.length c1, .slice A2 t.blocks.length c2, .slice A3 t.before.length c3] 69)).alloc (.cells #[.slice none 0 0, .slice none 0 0, .slice none 0 0] 69)) := ((Below.refl _ _).alloc (Nat.le_refl _) _).alloc (by simp) _
 have hz0 := kr.lt
 have KV := treeValid_spec t A1 c1 A2 c2 A3 c3 ((w.alloc (.cells #[.slice A1 t.base.length c1, .slice A2 t.blocks.length c2, .slice A3 t.before.length c3] 69)).alloc (.cells #[.slice none 0 0, .slice none 0 0, .slice none 0 0] 69)) (unhide HR _ hb0) (by omega) (by omega) (unhide HBS) (by omega)
 simp only [trA] at KV
 have x0 : ((w.alloc (.cells #[.slice A1 t.base.length c1, .slice A2 t.blocks.length c2, .slice A3 t.before.length c3] 69)).alloc (.cells #[.slice none 0 0, .slice none 0 0, .slice none 0 0] 69)).cell? ⟨w.heap.size, 0, none⟩ = some (.slice A1 t.base.length c1) := k0.cell 0
 have x1 : ((w.alloc (.cells #[.slice A1 t.base.length c1, .slice A2 t.blocks.length c2, .slice A3 t.before.length c3] 69)).alloc (.cells #[.slice none 0 0, .slice none 0 0, .slice none 0 0] 69)).cell? ⟨w.heap.size, 1, none⟩ = some (.slice A2 t.blocks.length c2) := k0.cell 1
 have x2 : ((w.alloc (.cells #[.slice A1 t.base.length c1, .slice A2 t.blocks.length c2, .slice A3 t.before.length c3] 69)).alloc (.cells #[.slice none 0 0, .slice none 0 0, .slice none 0 0] 69)).cell? ⟨w.heap.size, 2, none⟩ = some (.slice A3 t.before.length c3) := k0.cell 2
 clear h hl
 go_enter Tryz.func136, Tryz.ntmps136
 go_wp2_with fail
 refine KV.mono ?_
 rintro e w3 ⟨rfl, b3⟩
 replace k0 := k0.new_ b3
 replace kr := kr.new_ b3
 replace hb0 := bthen hb0 b3
 replace hz0 := kr.lt
 clear KV x0 x1 x2 b3
 have x0 : w3.cell? ⟨w.heap.size, 0, none⟩ = some (.slice A1 t.base.length c1) := k0.cell 0
 have x1 : w3.cell? ⟨w.heap.size, 1, none⟩ = some (.slice A2 t.blocks.length c2) := k0.cell 1
 have x2 : w3.cell? ⟨w.heap.size, 2, none⟩ = some (.slice A3 t.before.length c3) := k0.cell 2
 cases hv : treeB t
 · have HF := hide (show grOk t n view al = false by simp [grOk, hv])
   have HA := hide (grT_no (n := n) (view := view) (al := al) hv)
   go_wp2_with (refine wpList_store_row rfl 69 (.tmp 8) (.tmp 15) rfl (w.heap.size + 1) #[.slice none 0 0, .slice none 0 0, .slice none 0 0] rfl rfl 69 #[.slice none 0 0, .slice none 0 0, .slice none 0 0] kr info_tr rfl (sl3_one _ _ _ _ _ _ _ _ _) ?_)
   refine bodyPost_ret (v := .tuple #[.agg #[.slice none 0 0, .slice none 0 0, .slice none 0 0], .bool false]) (results_cell_tmp (p := 8) (q := 9) (ty := 69) rfl _ _ (w.heap.size + 1) 69 #[.slice none 0 0, .slice none 0 0, .slice none 0 0] (0, 0) _ rfl (blk_setRow kr) Tryz.underlying69 rfl info_tr) rfl ?_
   rw [unhide HA, unhide HF]
   exact ⟨none, 0, none, 0, none, 0, [], rfl, trO_nil2 _ _, below_setRow hb0 (by omega) _⟩
 have HV := hide hv
 have hl14 := (treeB_yes hv).2.2.1
 clear hv
 cases hin : inB n 0 ((t.blocks.length : Int) - 1)
 · have HF := hide (show grOk t n view al = false by simp [grOk, hin])
   have HA := hide (grT_out (view := view) (al := al) (unhide HV) hin)
   go_wp2_with (go_at_call 93; refine (l1In_any _ _ _ _).mono ?_; rintro e w' ⟨rfl, rfl⟩; rw [hin])
   refine (unhide HCL w3 hb0).mono ?_
   rintro e w4 ⟨B1, d1, B2, d2, B3, d3, fp, rfl, tO, b4⟩
   replace kr := kr.new_ b4
   have hs4 := b4.size
   go_wp2_with (refine wpList_store_row rfl 69 (.tmp 8) (.tmp 24) rfl (w.heap.size + 1) #[.slice B1 t.base.length d1, .slice B2 t.blocks.length d2, .slice B3 t.before.length d3] rfl rfl 69 #[.slice none 0 0, .slice none 0 0, .slice none 0 0] kr info_tr rfl (sl3_one _ _ _ _ _ _ _ _ _) ?_)
   refine bodyPost_ret (v := .tuple #[.agg #[.slice B1 t.base.length d1, .slice B2 t.blocks.length d2, .slice B3 t.before.length d3], .bool false]) (results_cell_tmp (p := 8) (q := 9) (ty := 69) rfl _ _ (w.heap.size + 1) 69 #[.slice B1 t.base.length d1, .slice B2 t.blocks.length d2, .slice B3 t.before.length d3] (0, 0) _ rfl (blk_setRow kr) Tryz.underlying69 rfl info_tr) rfl ?_
   rw [unhide HA, unhide HF]
   exact ⟨B1, d1, B2, d2, B3, d3, fp, rfl, trO_base2 (trO_setRow2 tO (by omega) _) (by omega), below_setRow (bthen hb0 b4) (by omega) _⟩
 have HIN := hide hin
 obtain ⟨q, rfl⟩ := Int.eq_ofNat_of_zero_le (inB_true.1 hin).1
 have hqn : q < t.blocks.length := by have := (inB_true.1 hin).2; omega
 have hGN : ∀ v a, grNext t (q : Int) v a = nextB (bAt t q) (storeT t (q : Int)) v a := fun v a => by rw [grNext, Int.toNat_natCast]
 have HGO := hide (show nextOk (bAt t q) (storeT t (q : Int)) view al = true → grOk t (q : Int) view al = pbOk t (nextB (bAt t q) (storeT t (q : Int)) view al) ∧ grT t (q : Int) view al = pbT t (nextB (bAt t q) (storeT t (q : Int)) view al) from fun hx => by
   rw [← hGN, grT_yes (unhide HV) hin (by rw [Int.toNat_natCast]; exact hx)]
   exact ⟨by rw [grOk, unhide HV, hin, Int.toNat_natCast, hx]; rfl, rfl⟩)
 have HGN := hide (show nextOk (bAt t q) (storeT t (q : Int)) view al = false → grOk t (q : Int) view al = false ∧ grT t (q : Int) view al = t from fun hx => by
   rw [grT_bad (unhide HV) hin (by rw [Int.toNat_natCast]; exact hx)]
   exact ⟨by rw [grOk, unhide HV, hin, Int.toNat_natCast, hx]; rfl, rfl⟩)
 have HSL := hide (storeT_len t (q : Int))
 have HNX := hide (fun (S : Option Addr) (cs : Nat) (w' : World) (A : Option Addr) (c : Nat) (h1 : Rd w' A ((bAt t q).list.flatMap encA)) (h2 : Rd w' S ((storeT t (q : Int)).flatMap encE)) (h3 : Rd w' L (al.flatMap encA)) => next_spec (bAt t q) A c S cs (storeT t (q : Int)) view L cl al w' h1 h2 h3 (by rw [bAt_get t hqn]; exact unhide HBS _ (List.getElem_mem hqn)) (by have := unhide HSL; omega) (by omega))
 have hbn : (nextB (bAt t q) (storeT t (q : Int)) view al).list.length ≤ 1000000 := by
   rw [nextB]
   split
   · exact hbl
   · simp
 have HPB := hide (fun w' (hb : Below w.heap.size w w') A c (h5 : Rd w' A ((nextB (bAt t q) (storeT t (q : Int)) view al).list.flatMap encA)) => put_spec t A1 c1 A2 c2 A3 c3 (nextB (bAt t q) (storeT t (q : Int)) view al) A c w' (unhide HR w' hb) h5 (by omega) (by omega) (unhide HBO) (by omega) hbn)
 simp only [trA] at HPB
 obtain ⟨bq, offq, L1, e1, hA2, -, hbb, q0, q1, q2, q3, q4, q5, hlc, r1⟩ := hT.b2.bk hqn
 rw [← bAt_get t hqn] at q0 q1 q2 q3 q4 q5 hlc r1
 generalize storeT t (q : Int) = st at *
 generalize bAt t q = x at *
 generalize nextB x st view al = nb at *
 generalize nextOk x st view al = nok at *
 have HA2 := hide hA2
 have HX := hide (fun (w' : World) (hE : EB w3.heap.size 32 w3 w') => show (w'.cell? ⟨w.heap.size, 0, none⟩ = some (.slice A1 t.base.length c1) ∧ w'.cell? ⟨w.heap.size, 1, none⟩ = some (.slice A2 t.blocks.length c2) ∧ w'.cell? ⟨w.heap.size, 2, none⟩ = some (.slice A3 t.before.length c3)) ∧ (w'.cell? ⟨bq, offq + q * 6, none⟩ = some (.int .i64 x.before) ∧ w'.cell? ⟨bq, offq + q * 6 + 1, none⟩ = some (.int .i64 x.height) ∧ w'.cell? ⟨bq, offq + q * 6 + 2, none⟩ = some (.int .i64 x.view) ∧ w'.cell? ⟨bq, offq + q * 6 + 3, none⟩ = some (.slice L1 x.list.length e1) ∧ w'.cell? ⟨bq, offq + q * 6 + 4, none⟩ = some (.int .i64 x.root) ∧ w'.cell? ⟨bq, offq + q * 6 + 5, none⟩ = some (.int .i64 x.eff)) ∧ Rd w' L1 (x.list.flatMap encA) ∧ Below w.heap.size w w' from by
   have hb := hE.below (Nat.le_refl _)
   have hbw := bthen hb0 hb
   exact ⟨⟨(k0.new_ hb).cell 0, (k0.new_ hb).cell 1, (k0.new_ hb).cell 2⟩, ⟨(hbw.cell (p := ⟨bq, offq + q * 6, none⟩) hbb).trans q0, (hbw.cell (p := ⟨bq, offq + q * 6 + 1, none⟩) hbb).trans q1, (hbw.cell (p := ⟨bq, offq + q * 6 + 2, none⟩) hbb).trans q2, (hbw.cell (p := ⟨bq, offq + q * 6 + 3, none⟩) hbb).trans q3, (hbw.cell (p := ⟨bq, offq + q * 6 + 4, none⟩) hbb).trans q4, (hbw.cell (p := ⟨bq, offq + q * 6 + 5, none⟩) hbb).trans q5⟩, Rd.new (RdP.rd r1) hbw, hbw⟩)
 clear hA2 q0 q1 q2 q3 q4 q5 hlc r1 hT hGN hin
 have i2 : (q : Int) < (t.blocks.length : Int) := by omega
 go_wp2_with (go_at_call 93; refine (l1In_any _ _ _ _).mono ?_; rintro e w' ⟨rfl, rfl⟩; rw [unhide HIN])
 clear x0 x1 x2
 have hF : StEL (EB w3.heap.size 32) [bV (.pointer (some ⟨w.heap.size, 1, none⟩)), bV (.slice (some ⟨bq, offq, none⟩) t.blocks.length c2), bV (.int .i64 (q : Int)), bV (.pointer (some ⟨bq, offq + q * 6, none⟩)), bV (.agg #[.int .i64 x.before, .int .i64 x.height, .int .i64 x.view, .slice L1 x.list.length e1, .int .i64 x.root, .int .i64 x.eff]), bV (.agg #[.slice A1 t.base.length c1, .slice A2 t.blocks.length c2, .slice A3 t.before.length c3]), bV (.int .i64 (q : Int)), sOwn w3.heap.size st, bV (.int .i64 view), bV (.slice L al.length cl), sNextT w3.heap.size nb nok, sNextT w3.heap.size nb nok, sNext w3.heap.size nb, bV (.bool nok), pV (fun v => v ≠ undef), pV (fun _ => True)] :=
   ⟨fun _ _ _ _ h => h, fun _ _ _ _ h => h, fun _ _ _ _ h => h, fun _ _ _ _ h => h, fun _ _ _ _ h => h, fun _ _ _ _ h => h, fun _ _ _ _ h => h, fun _ _ _ hE ⟨A, c, h1, h2⟩ => ⟨A, c, h1, own_EB h2 hE ne_eb⟩, fun _ _ _ _ h => h, fun _ _ _ _ h => h, fun _ _ _ hE ⟨A, c, h1, h2⟩ => ⟨A, c, h1, own_EB h2 hE ne_ab⟩, fun _ _ _ hE ⟨A, c, h1, h2⟩ => ⟨A, c, h1, own_EB h2 hE ne_ab⟩, fun _ _ _ hE ⟨A, c, h1, h2⟩ => ⟨A, c, h1, own_EB h2 hE ne_ab⟩, fun _ _ _ _ h => h, fun _ _ _ _ h => h, fun _ _ _ _ h => h, trivial⟩
 go_upto_region 5 with fail
 refine wp_region_box (by kernel_rfl) [(0, some 26), (1, some 27), (2, some 28), (3, some 29), (4, some 30), (5, some 31), (6, some 32), (7, some 33), (8, some 34), (9, some 35), (10, some 36), (11, some 25), (12, some 37), (13, some 38), (14, some 10), (15, none)] [[], [(0, some 26)], [], [(1, some 27), (2, some 28)], [(3, some 29)], [], [], [(5, some 31), (6, some 32)], [], [], [(4, some 30), (7, some 33), (8, some 34), (9, some 35)], [(10, some 36)], [(11, some 25)], [(11, some 25)], [], [(12, some 37), (14, some 10)]] (by kernel_rfl) 15 [0, 1, 2, 3, 4, 5, 6, 7, 8, 9, 10, 11, 12, 14] (by kernel_rfl) 14
   (locB [bV (.pointer (some ⟨w.heap.size, 1, none⟩)), bV (.slice (some ⟨bq, offq, none⟩) t.blocks.length c2), bV (.int .i64 (q : Int)), bV (.pointer (some ⟨bq, offq + q * 6, none⟩)), bV (.agg #[.int .i64 x.before, .int .i64 x.height, .int .i64 x.view, .slice L1 x.list.length e1, .int .i64 x.root, .int .i64 x.eff]), bV (.agg #[.slice A1 t.base.length c1, .slice A2 t.blocks.length c2, .slice A3 t.before.length c3]), bV (.int .i64 (q : Int)), sOwn w3.heap.size st, bV (.int .i64 view), bV (.slice L al.length cl), sNextT w3.heap.size nb nok, sNextT w3.heap.size nb nok, sNext w3.heap.size nb, bV (.bool nok), pV (fun v => v ≠ undef), pV (fun _ => True)]) (EB w3.heap.size 32) (BoxR w3.heap.size 32 #[.int .i64 0, .int .i64 0, .int .i64 0, .slice none 0 0, .int .i64 0, .int .i64 0] (qNext w3.heap.size nb)) (EB.refl _ _) (fun _ _ _ => EB.trans) (locE_st hF _) (.inl ⟨rfl, .inl rfl⟩) ?_ ?_
 · refine steps_cons ?s0 ( steps_cons ?s1 ( steps_cons ?s2 ( steps_cons ?s3 ( steps_cons ?s4 ( steps_cons ?s5 ( steps_cons ?s6 ( steps_cons ?s7 ( steps_cons ?s8 ( steps_cons ?s9 ( steps_cons ?s10 ( steps_cons ?s11 ( steps_cons ?s12 ( steps_cons ?s13 ( steps_cons ?s14 ( steps_cons ?s15 steps_nil)))))))))))))))
   case s0 | s2 | s6 | s8 | s9 =>
     intro w' b vp hE hb hR
     obtain rfl := hb (by simp)
     intro Q hQ
     go_wp2
     exact hQ _ _ _ rfl rfl (EB.refl _ _ _) hR
   case s1 =>
     intro w' b vp hE hb hR
     obtain rfl := hb (by simp)
     rintro _ ⟨rfl, -⟩ Q hQ
     obtain ⟨⟨s0, s1, s2⟩, ⟨u0, u1, u2, u3, u4, u5⟩, u6, u7⟩ := unhide HX w' hE.undrew
     rw [unhide HA2] at s1
     go_wp2
     exact hQ _ _ _ rfl rfl (EB.refl _ _ _) hR
   case s3 =>
     intro w' b vp hE hb hR
     obtain rfl := hb (by simp)
     rintro _ ⟨rfl, -⟩ _ ⟨rfl, -⟩ Q hQ
     go_wp2
     exact hQ _ _ _ rfl rfl (EB.refl _ _ _) hR
   case s4 =>
     intro w' b vp hE hb hR
     obtain rfl := hb (by simp)
     rintro _ ⟨rfl, -⟩ Q hQ
     obtain ⟨⟨s0, s1, s2⟩, ⟨u0, u1, u2, u3, u4, u5⟩, u6, u7⟩ := unhide HX w' hE.undrew
     go_wp2
     exact hQ _ _ _ rfl rfl (EB.refl _ _ _) hR
   case s5 =>
     intro w' b vp hE hb hR
     obtain rfl := hb (by simp)
     intro Q hQ
     obtain ⟨⟨s0, s1, s2⟩, ⟨u0, u1, u2, u3, u4, u5⟩, u6, u7⟩ := unhide HX w' hE.undrew
     go_wp2
     exact hQ _ _ _ rfl rfl (EB.refl _ _ _) hR
   case s7 =>
     intro w' b vp hE hb hR
     obtain rfl := hb (by simp)
     rintro _ ⟨rfl, -⟩ _ ⟨rfl, -⟩ Q hQ
     obtain ⟨⟨s0, s1, s2⟩, ⟨u0, u1, u2, u3, u4, u5⟩, u6, u7⟩ := unhide HX w' hE.undrew
     go_wp2_with fail
     refine (unhide HST w' u7).mono ?_
     rintro e w1 ⟨A8, c8, rfl, o8, b8⟩
     have hsz := hE.size
     go_wp2
     exact hQ _ _ _ rfl ⟨A8, c8, rfl, own_base o8 hsz⟩ (EB.of_new b8) (hR.new b8 (fun _ ⟨A, c, h1, h2⟩ => ⟨A, c, h1, own_new h2 b8⟩))
   case s10 =>
     intro w' b vp hE hb hR
     obtain rfl := hb (by simp)
     rintro _ ⟨rfl, -⟩ _ ⟨⟨A8, c8, rfl, o8⟩, -⟩ _ ⟨rfl, -⟩ _ ⟨rfl, -⟩ Q hQ
     obtain ⟨⟨s0, s1, s2⟩, ⟨u0, u1, u2, u3, u4, u5⟩, u6, u7⟩ := unhide HX w' hE.undrew
     go_wp2_with fail
     refine (unhide HNX A8 c8 w' L1 e1 u6 (own_rd o8) (unhide HRL w' u7)).mono ?_
     rintro e w1 ⟨A7, c7, rfl, o7, b7⟩
     have hsz := hE.size
     go_wp2
     exact hQ _ _ _ rfl ⟨A7, c7, rfl, own_base o7 hsz⟩ (EB.of_new b7) (hR.new b7 (fun _ ⟨A, c, h1, h2⟩ => ⟨A, c, h1, own_new h2 b7⟩))
   case s11 | s12 =>
     intro w' b vp hE hb hR
     obtain rfl := hb (by simp)
     rintro _ ⟨⟨A7, c7, rfl, o7⟩, -⟩ Q hQ
     go_wp2
     exact hQ _ _ _ rfl ⟨A7, c7, rfl, o7⟩ (EB.refl _ _ _) hR
   case s13 =>
     intro w' b vp hE hbx hR
     clear hbx
     rintro _ ⟨⟨A7, c7, rfl, o7⟩, -⟩ Q hQ
     go_wp2
     exact hQ _ _ _ rfl rfl (EB.refl _ _ _) hR
   case s14 =>
     intro w' b vp hE hb hR
     obtain rfl := hb (by simp)
     intro Q hQ
     have hsz := hE.size
     go_wp2
     exact hQ _ _ _ rfl (fun h => by cases h) (EB.of_new ((Below.refl _ _).alloc (Nat.le_refl _) _)) (.inl ⟨rfl, .inr ⟨w'.heap.size, rfl, hsz, Blk.new _ _ _⟩⟩)
   case s15 =>
     intro w' b vp hE hb hR
     obtain rfl := hb (by simp)
     rintro _ ⟨⟨A7, c7, rfl, o7⟩, -⟩ _ ⟨hnu, hvp⟩ Q hQ
     obtain rfl := hvp rfl
     rcases hR with ⟨-, h | ⟨g, rfl, hg, hk9⟩⟩ | ⟨h, _⟩
     · exact absurd h hnu
     · refine wpList_store_row rfl 32 (.tmp 10) (.tmp 37) rfl g #[.int .i64 nb.before, .int .i64 nb.height, .int .i64 nb.view, .slice A7 nb.list.length c7, .int .i64 nb.root, .int .i64 nb.eff] rfl rfl 32 #[.int .i64 0, .int .i64 0, .int .i64 0, .slice none 0 0, .int .i64 0, .int .i64 0] hk9 info_bkS rfl (bk6_one _ _ _ _ _ _ _ _) ?_
       go_wp2
       exact hQ undef _ _ rfl trivial (EB.setRow hk9 hg _) (.inr ⟨rfl, g, _, rfl, hg, blk_setRow hk9, A7, c7, rfl, own_EB o7 (EB.setRow hk9 hg _) ne_ab⟩)
     · cases h
 intro w5 vp hE hR
 rintro v0 - v1 - v2 - v3 - v4 - v5 - v6 - v7 - v8 - v9 - v10 - v11 - v12 - v13 ⟨hv13, -⟩ v14 ⟨hnu, hvp⟩ v15 -
 obtain rfl : v13 = _ := hv13
 obtain rfl := hvp rfl
 rcases hR with ⟨h, _⟩ | ⟨-, g, cs, rfl, hg, k5, A7, c7, rfl, o7⟩
 · cases h
 change wpList _ _ _ [_] _ _
 simp only [Act.put, List.setIfInBounds_toArray, List.set_cons_succ, List.set_cons_zero]
 obtain ⟨⟨x0, x1, x2⟩, -, -, hb5⟩ := unhide HX w5 hE.undrew
 have b35 := hE.undrew.below (Nat.le_refl _)
 have kr5 := kr.new_ b35
 have hs35 := b35.size
 have hgl := k5.lt
 have y0 : w5.cell? ⟨g, 0, none⟩ = some (.int .i64 nb.before) := k5.cell 0
 have y1 : w5.cell? ⟨g, 1, none⟩ = some (.int .i64 nb.height) := k5.cell 1
 have y2 : w5.cell? ⟨g, 2, none⟩ = some (.int .i64 nb.view) := k5.cell 2
 have y3 : w5.cell? ⟨g, 3, none⟩ = some (.slice A7 nb.list.length c7) := k5.cell 3
 have y4 : w5.cell? ⟨g, 4, none⟩ = some (.int .i64 nb.root) := k5.cell 4
 have y5 : w5.cell? ⟨g, 5, none⟩ = some (.int .i64 nb.eff) := k5.cell 5
 cases hok : nok
 · obtain ⟨h1, h2⟩ := unhide HGN hok
   have HF := hide h1
   have HA := hide h2
   clear h1 h2 hok
   go_wp2_with fail
   refine (unhide HCL w5 hb5).mono ?_
   rintro e w6 ⟨B1, d1, B2, d2, B3, d3, fp, rfl, tO, b6⟩
   replace kr5 := kr5.new_ b6
   have hs6 := b6.size
   go_wp2_with (refine wpList_store_row rfl 69 (.tmp 8) (.tmp 42) rfl (w.heap.size + 1) #[.slice B1 t.base.length d1, .slice B2 t.blocks.length d2, .slice B3 t.before.length d3] rfl rfl 69 #[.slice none 0 0, .slice none 0 0, .slice none 0 0] kr5 info_tr rfl (sl3_one _ _ _ _ _ _ _ _ _) ?_)
   refine bodyPost_ret (v := .tuple #[.agg #[.slice B1 t.base.length d1, .slice B2 t.blocks.length d2, .slice B3 t.before.length d3], .bool false]) (results_cell_tmp (p := 8) (q := 9) (ty := 69) rfl _ _ (w.heap.size + 1) 69 #[.slice B1 t.base.length d1, .slice B2 t.blocks.length d2, .slice B3 t.before.length d3] (0, 0) _ rfl (blk_setRow kr5) Tryz.underlying69 rfl info_tr) rfl ?_
   rw [unhide HA, unhide HF]
   exact ⟨B1, d1, B2, d2, B3, d3, fp, rfl, trO_base2 (trO_setRow2 tO (by omega) _) (by omega), below_setRow (bthen hb5 b6) (by omega) _⟩
 obtain ⟨h1, h2⟩ := unhide HGO hok
 have HF := hide h1
 have HA := hide h2
 clear h1 h2 hok
 go_wp2_with fail
 refine (unhide HPB w5 hb5 A7 c7 (own_rd o7)).mono ?_
 rintro e w6 ⟨B1, d1, B2, d2, B3, d3, fp, rfl, tO, b6⟩
 replace kr5 := kr5.new_ b6
 have hs6 := b6.size
 go_wp2_with (refine wpList_store_row rfl 69 (.tmp 8) (.tmp 46) rfl (w.heap.size + 1) #[.slice B1 (pbT t nb).base.length d1, .slice B2 (pbT t nb).blocks.length d2, .slice B3 (pbT t nb).before.length d3] rfl rfl 69 #[.slice none 0 0, .slice none 0 0, .slice none 0 0] kr5 info_tr rfl (sl3_one _ _ _ _ _ _ _ _ _) ?_)
 refine bodyPost_ret (v := .tuple #[.agg #[.slice B1 (pbT t nb).base.length d1, .slice B2 (pbT t nb).blocks.length d2, .slice B3 (pbT t nb).before.length d3], .bool (pbOk t nb)]) (results_cell_tmp (p := 8) (q := 9) (ty := 69) rfl _ _ (w.heap.size + 1) 69 #[.slice B1 (pbT t nb).base.length d1, .slice B2 (pbT t nb).blocks.length d2, .slice B3 (pbT t nb).before.length d3] (0, 0) _ rfl (blk_setRow kr5) Tryz.underlying69 rfl info_tr) rfl ?_
 rw [unhide HA, unhide HF]
 exact ⟨B1, d1, B2, d2, B3, d3, fp, rfl, trO_base2 (trO_setRow2 tO (by omega) _) (by omega), below_setRow (bthen hb5 b6) (by omega) _⟩
end Go.Proofs.YtihlhejencninaaGreat
namespace Go.Proofs.YtihlhejencninaaGreat
open Go.RowKit
set_option linter.unusedVariables false
set_option linter.unusedSimpArgs false

/-- changes that touch the block g, and, at or above m, variables of the type t alone -/
structure EG (g m : Nat) (t : TypeId) (a b : World) : Prop where
 os : b.os = a.os
 tape : b.tape = a.tape
 output : b.output = a.output
 size : a.heap.size ≤ b.heap.size
 blk : ∀ k, k < a.heap.size → k ≠ g → b.heap[k]? = a.heap[k]? ∨ (m ≤ k ∧ ∃ old, a.heap[k]? = some (.cells old t (0, 0)))
theorem EG.refl (g m : Nat) (t : TypeId) (a : World) : EG g m t a a := ⟨rfl, rfl, rfl, Nat.le_refl _, fun _ _ _ => .inl rfl⟩
theorem EG.trans {g m : Nat} {t : TypeId} {a b c : World} (h1 : EG g m t a b) (h2 : EG g m t b c) : EG g m t a c :=
 ⟨h2.os.trans h1.os, h2.tape.trans h1.tape, h2.output.trans h1.output, Nat.le_trans h1.size h2.size, fun k hk hg => by
   rcases h1.blk k hk hg with h | h
   · rcases h2.blk k (Nat.lt_of_lt_of_le hk h1.size) hg with q | q
     · exact .inl (q.trans h)
     · exact .inr ⟨q.1, by rw [← h]; exact q.2⟩
   · exact .inr h⟩
theorem EG.of_new {g m : Nat} {t : TypeId} {a b : World} (h : Below a.heap.size a b) : EG g m t a b := ⟨h.os, h.tape, h.output, h.size, fun k hk _ => .inl (h.block k hk)⟩
theorem EG.of_chg {g m : Nat} {t : TypeId} {a b : World} (h : Chg (fun k => k = g) a b) : EG g m t a b := ⟨h.os, h.tape, h.output, h.size, fun k hk hg => .inl (h.block k hk hg)⟩
theorem EG.undrew {g m : Nat} {t : TypeId} {a b : World} (h : EG g m t a.drew b) : EG g m t a b := ⟨h.os, h.tape, h.output, h.size, h.blk⟩
theorem EG.chg {g m : Nat} {t : TypeId} {a b : World} (h : EG g m t a b) (hm : a.heap.size ≤ m) : Chg (fun k => k = g) a b :=
 ⟨h.os, h.tape, h.output, h.size, fun k hk hn => by
   rcases h.blk k hk hn with q | q
   · exact q
   · omega⟩
theorem EG.setRow {g m : Nat} {t : TypeId} {w : World} {q : Nat} {old : Array Value} (h : Blk w q t old) (hm : m ≤ q) (ds : Array Value) : EG g m t w (w.setRow q ds) :=
 ⟨rfl, rfl, rfl, by rw [size_setRow]; exact Nat.le_refl _, fun k hk _ => by
   by_cases hkq : k = q
   · subst hkq; exact .inr ⟨hm, old, h⟩
   · exact .inl (setRow_other w q k ds hkq)⟩
theorem own_EG {g m : Nat} {t : TypeId} {a b : World} {base : Nat} {e : TypeId} {s n c : Nat} {A : Option Addr} {xs : List Value} (h : a.ownsRow base e s (.slice A n c) n xs) (hE : EG g m t a b) (hne : e ≠ t) (hg : g < base) : b.ownsRow base e s (.slice A n c) n xs := by
 refine own_keep h fun q hA hq => ?_
 have hr := own_rng h q hA
 rcases hE.blk q hq (by omega) with h1 | ⟨_, old, h1⟩
 · exact h1
 · rcases h.2 with ⟨hv, _⟩ | ⟨g', cap, cur, hv, _, hh, _⟩
   · injection hv with hv; rw [hA] at hv; cases hv
   · injection hv with hv
     rw [hA] at hv
     injection hv with hv
     injection hv with hv
     subst hv
     rw [hh] at h1
     injection h1 with h1
     injection h1 with h2 h3 h4
     exact absurd h3 hne
end Go.Proofs.YtihlhejencninaaGreat
