/- Trees that are drawn (printed by gen_in.py from xdrawt.in). -/
import Derived.Test.YtihlhejencninaaGreatGdraw
import Derived.Test.YtihlhejencninaaGreatGgrow
import Derived.Test.YtihlhejencninaaGreatGloc
import Derived.Test.YtihlhejencninaaGreatDeepSet
namespace Go.Proofs.YtihlhejencninaaGreat
open Go.RowKit
set_option linter.unusedVariables false
set_option linter.unusedSimpArgs false

theorem treeB_bd {t : Tr} (h : treeB t = true) : t.base.length ≤ 32 ∧ (1 ≤ t.blocks.length ∧ t.blocks.length ≤ 14) ∧ t.before.length = t.blocks.length ∧ ∀ x ∈ t.blocks, x.list.length ≤ 10 := by
 obtain ⟨h1, h2, h3, h4, _⟩ := treeB_yes h
 refine ⟨store_len h1, ⟨h2, h3⟩, h4, fun x hx => ?_⟩
 obtain ⟨k, hk, rfl⟩ := List.getElem_of_mem hx
 have := (actsB_yes (blk_acts h hk)).1
 rwa [bAt_get t hk] at this
theorem treeB_blk {t : Tr} (h : treeB t = true) {k : Nat} (hk : k < t.blocks.length) : blkB (bAt t k) = true := by
 have h1 := (treeB_yes h).2.2.2.2.2.2.1 k hk
 rw [sumOk, Bool.and_eq_true] at h1
 exact h1.1
theorem blkB_bd {b : Bk} (h : blkB b = true) : (0 ≤ b.height ∧ b.height ≤ 100) ∧ (0 ≤ b.view ∧ b.view ≤ 1000) := by
 unfold blkB at h
 simp only [Bool.and_eq_true] at h
 have h1 := inB_true.1 h.2.2.2.1
 have h2 := inB_true.1 h.2.2.2.2.1
 exact ⟨h1, h2⟩
theorem pbT_more {t : Tr} (b : Bk) (h : treeB t = true) : t.blocks.length ≤ (pbT t b).blocks.length := by
 rw [pbT, if_pos h]
 split
 · simp [pbX]
 · exact Nat.le_refl _
theorem grT_more {t : Tr} (n view : Int) (al : List Act) (h : treeB t = true) : t.blocks.length ≤ (grT t n view al).blocks.length := by
 rw [grT, if_pos h]
 split
 · split
   · exact pbT_more _ h
   · exact Nat.le_refl _
 · exact Nat.le_refl _
/-- a tree in a variable of the call's own, with at least m blocks -/
def TreeAt (B bx m : Nat) (w : World) : Prop := ∃ t A1 c1 A2 c2 A3 c3 fp, treeB t = true ∧ m ≤ t.blocks.length ∧ Blk w bx 69 (trA t A1 c1 A2 c2 A3 c3) ∧ TrO w B t A1 c1 A2 c2 A3 c3 fp ∧ ∀ q, TrS A1 A3 fp q → q ≠ bx
theorem TreeAt.new {B bx m : Nat} {w w' : World} (h : TreeAt B bx m w) (hb : Below w.heap.size w w') : TreeAt B bx m w' := by
 obtain ⟨t, A1, c1, A2, c2, A3, c3, fp, h1, h2, h3, h4, h5⟩ := h
 exact ⟨t, A1, c1, A2, c2, A3, c3, fp, h1, h2, h3.new_ hb, h4.new hb, h5⟩
theorem TreeAt.chg {B bx m : Nat} {w w' : World} {S : Nat → Prop} (h : TreeAt B bx m w) (hc : Chg S w w') (hS : ∀ q, B ≤ q → ¬ S q) (hx : ¬ S bx) : TreeAt B bx m w' := by
 obtain ⟨t, A1, c1, A2, c2, A3, c3, fp, h1, h2, h3, h4, h5⟩ := h
 exact ⟨t, A1, c1, A2, c2, A3, c3, fp, h1, h2, h3.chg hc hx, h4.chg hc fun q hq => hS q (h4.rng q hq).1, h5⟩
theorem TreeAt.less {B B' bx m m' : Nat} {w : World} (h : TreeAt B bx m w) (hB : B' ≤ B) (hm : m' ≤ m) : TreeAt B' bx m' w := by
 obtain ⟨t, A1, c1, A2, c2, A3, c3, fp, h1, h2, h3, h4, h5⟩ := h
 exact ⟨t, A1, c1, A2, c2, A3, c3, fp, h1, by omega, h3, trO_base2 h4 hB, h5⟩
theorem own_setc6 {w : World} {e : TypeId} {g n c : Nat} {vs : List (List Value)} (h : w.ownsRow 0 e 6 (.slice (some ⟨g, 0, none⟩) n c) n vs.flatten) (hv : ∀ v ∈ vs, v.length = 6) {k : Nat} (hk : k < vs.length) (j : Nat) (hj : j < 6) (u : Value) :
   (w.setCell ⟨g, k * 6 + j, none⟩ u).ownsRow 0 e 6 (.slice (some ⟨g, 0, none⟩) n c) n (vs.set k (vs[k].set j u)).flatten := by
 rw [← set_flatten 6 vs hv k hk j hj u]
 exact own_set h (k * 6 + j) u
section
variable {w : World} {B : Nat} {t : Tr} {A1 : Option Addr} {c1 : Nat} {A2 : Option Addr} {c2 : Nat} {A3 : Option Addr} {c3 : Nat} {fp : List Nat}
/-- the height of a block is changed -/
theorem tr_height (tO : TrO w B t A1 c1 A2 c2 A3 c3 fp) {k : Nat} (hk : k < t.blocks.length) (h : Int) :
   ∃ qb, A2 = some ⟨qb, 0, none⟩ ∧ B ≤ qb ∧ qb < w.heap.size ∧ w.frozen? ⟨qb, k * 6 + 1, none⟩ = false ∧ w.cell? ⟨qb, k * 6 + 1, none⟩ = some (.int .i64 (t.blocks[k]).height) ∧
     ∀ (S : Nat → Prop) (w'' : World), Chg S (w.setCell ⟨qb, k * 6 + 1, none⟩ (.int .i64 h)) w'' → (∀ q, TrS A1 A3 fp q → ¬ S q) → TrR w'' ⟨t.base, t.blocks.set k { t.blocks[k] with height := h }, t.before⟩ A1 A2 A3 := by
 obtain ⟨vs, fs, hall, hown, hfp, hnd⟩ := tO.o2
 obtain ⟨qb, rfl⟩ : ∃ qb, A2 = some ⟨qb, 0, none⟩ := by
   rcases hown.2 with ⟨hv, h9⟩ | ⟨qb, cap, cur, hv, _⟩
   · injection hv with _ h8 _; omega
   · injection hv with hv; exact ⟨qb, hv⟩
 have hqf : qb ∈ fp := by rw [hfp]; exact List.mem_append_left _ (by simp [blk])
 have hqb := tO.ge qb hqf
 have hve := hall.each bkO_good bk_good
 have hvl := hall.len.1
 have hfl := hall.len.2
 obtain ⟨hkv, hkf, -, hOk, -⟩ := hall.split k hk
 obtain ⟨L1, e1, hvk, oL, hfk⟩ := hOk
 have hcc : ∀ j, j < 6 → w.cell? ⟨qb, k * 6 + j, none⟩ = (bkV t.blocks[k] L1 e1)[j]? := fun j hj => by
   have h5 := (hall.rd bkO_good bk_good (P := fun _ => True) fun _ _ => trivial).flat_get bk_good hkv hj
   rw [hvk] at h5
   have hvf : vs.flatten.length = t.blocks.length * 6 := hown.1
   rw [own_cell hown (k * 6 + j) (by omega), ← h5]
   exact (List.getElem?_eq_getElem _).symm
 have hset := own_setc6 hown hve hkv 1 (by omega) (.int .i64 h)
 have hch : Chg (fun q => q = qb) w (w.setCell ⟨qb, k * 6 + 1, none⟩ (.int .i64 h)) := (Chg.refl (fun q => q = qb) w).setCell (p := ⟨qb, k * 6 + 1, none⟩) (.inl rfl) _
 have hLf : ∀ q, L1 = some ⟨q, 0, none⟩ → q ∈ fs.flatten := fun q hq => List.mem_flatten.2 ⟨fs[k], List.getElem_mem hkf, by rw [hfk]; exact mem_blk hq⟩
 have hnq : ∀ q ∈ fs.flatten, q ≠ qb := fun q hq e => by
   rw [hfp] at hqf
   have h1 : (blk (some ⟨qb, 0, none⟩) ++ fs.flatten).Nodup := by rw [← hfp]; exact hnd
   rw [List.nodup_append] at h1
   exact h1.2.2 qb (by simp [blk]) q hq e.symm
 have hff : ∀ q ∈ fs.flatten, q ∈ fp := fun q hq => by rw [hfp]; exact List.mem_append_right _ hq
 refine ⟨qb, rfl, hqb, (own_rng hown qb rfl).2, own_frozen hown _, hcc 1 (by omega), fun S w'' hc hS => ⟨?_, ?_, ?_⟩⟩
 · exact own_rd (own_chg (own_chg tO.o1 hch fun q hq e => tO.a12 q hq (by rw [e]; exact hqf)) hc fun q hq => hS q (.inl hq))
 · have oL2 := own_chg (own_chg oL hch fun q hq e => hnq q (hLf q hq) e) hc fun q hq => hS q (.inr (.inl (hff q (hLf q hq))))
   refine ⟨vs.set k (bkV { t.blocks[k] with height := h } L1 e1), hall.set_rd bkO_good bk_good k (fun _ _ => trivial) ⟨L1, e1, rfl, own_cap oL2, (own_rdP oL2).mono fun _ _ _ => trivial⟩ (fun j hj hne q hq hqw => ?_), ?_⟩
   · have hqm : q ∈ fs.flatten := List.mem_flatten.2 ⟨_, List.getElem_mem hj, hq⟩
     rw [hc.block q (by simp; exact hqw) (hS q (.inr (.inl (hff q hqm)))), hch.block q hqw (hnq q hqm)]
   · have h6 := own_chg hset hc fun q hq => hS q (.inr (.inl (by injection hq with hq; injection hq with hq; rw [← hq]; exact hqf)))
     rw [hvk] at h6
     exact (own_rdP h6).mono fun _ _ _ => trivial
 · exact own_rd (own_chg (own_chg tO.o3 hch fun q hq e => tO.a23 q hq (by rw [e]; exact hqf)) hc fun q hq => hS q (.inr (.inr hq)))
/-- the number of the block before is changed -/
theorem tr_before (tO : TrO w B t A1 c1 A2 c2 A3 c3 fp) {k : Nat} (hk : k < t.before.length) (v : Int) :
   ∃ qb, A3 = some ⟨qb, 0, none⟩ ∧ B ≤ qb ∧ qb < w.heap.size ∧ w.frozen? ⟨qb, k, none⟩ = false ∧ (∃ u, w.cell? ⟨qb, k, none⟩ = some u) ∧
     ∀ (S : Nat → Prop) (w'' : World), Chg S (w.setCell ⟨qb, k, none⟩ (.int .i64 v)) w'' → (∀ q, TrS A1 A3 fp q → ¬ S q) → TrR w'' ⟨t.base, t.blocks, t.before.set k v⟩ A1 A2 A3 := by
 have o3 := tO.o3
 obtain ⟨qb, rfl⟩ : ∃ qb, A3 = some ⟨qb, 0, none⟩ := by
   rcases o3.2 with ⟨hv, h9⟩ | ⟨qb, cap, cur, hv, _⟩
   · injection hv with _ h8 _; omega
   · injection hv with hv; exact ⟨qb, hv⟩
 have hr := own_rng o3 qb rfl
 have hch : Chg (fun q => q = qb) w (w.setCell ⟨qb, k, none⟩ (.int .i64 v)) := (Chg.refl (fun q => q = qb) w).setCell (p := ⟨qb, k, none⟩) (.inl rfl) _
 refine ⟨qb, rfl, hr.1, hr.2, own_frozen o3 _, ⟨_, own_cell o3 k (by simpa using hk)⟩, fun S w'' hc hS => ⟨?_, ?_, ?_⟩⟩
 · exact own_rd (own_chg (own_chg tO.o1 hch fun q hq e => tO.a13 q hq (by rw [e])) hc fun q hq => hS q (.inl hq))
 · exact ((tO.o2.keep bkO_good fun q hq hqw => hch.block q hqw fun e => tO.a23 qb rfl (by rw [← e]; exact hq)).keep bkO_good fun q hq hqw => hc.block q hqw (hS q (.inr (.inl hq)))).rd bkO_good bk_good fun _ _ => trivial
 · have h5 := own_rd (own_chg (own_set o3 k (.int .i64 v)) hc fun q hq => hS q (.inr (.inr hq)))
   rw [← map_set_] at h5
   exact h5
/-- a further number -/
theorem tr_more3 (tO : TrO w B t A1 c1 A2 c2 A3 c3 fp) {o : Obj} {w7 : World} {A7 : Option Addr} {c7 n7 : Nat} {B7 : Nat} {zs : List Int} (ch7 : Chg (fun q => A3 = some ⟨q, 0, none⟩) (w.alloc o) w7) (o7 : w7.ownsRow B7 3 1 (.slice A7 n7 c7) n7 (zs.map (.int .i64)))
   (S : Nat → Prop) (w'' : World) (hc : Chg S w7 w'') (hS : ∀ q, TrS A1 A3 fp q → ¬ S q) (hS7 : ∀ q, A7 = some ⟨q, 0, none⟩ → ¬ S q) : TrR w'' ⟨t.base, t.blocks, zs⟩ A1 A2 A7 := by
 refine ⟨?_, ?_, own_rd (own_chg o7 hc hS7)⟩
 · exact own_rd (own_chg (own_chg (own_alloc tO.o1 o) ch7 fun q hq e => tO.a13 q hq e) hc fun q hq => hS q (.inl hq))
 · exact (((tO.o2.new bkO_good ((Below.refl _ _).alloc (Nat.le_refl _) o)).keep bkO_good fun q hq hqw => ch7.block q hqw fun e => tO.a23 q e hq).keep bkO_good fun q hq hqw => hc.block q hqw (hS q (.inr (.inl hq)))).rd bkO_good bk_good fun _ _ => trivial
/-- a further entry -/
theorem tr_more1 (tO : TrO w B t A1 c1 A2 c2 A3 c3 fp) {o : Obj} {w7 : World} {A7 : Option Addr} {c7 n7 : Nat} {B7 : Nat} {es : List Ent} (ch7 : Chg (fun q => A1 = some ⟨q, 0, none⟩) (w.alloc o) w7) (o7 : w7.ownsRow B7 79 2 (.slice A7 n7 c7) n7 (es.flatMap encE))
   (S : Nat → Prop) (w'' : World) (hc : Chg S w7 w'') (hS : ∀ q, TrS A1 A3 fp q → ¬ S q) (hS7 : ∀ q, A7 = some ⟨q, 0, none⟩ → ¬ S q) : TrR w'' ⟨es, t.blocks, t.before⟩ A7 A2 A3 := by
 refine ⟨own_rd (own_chg o7 hc hS7), ?_, ?_⟩
 · exact (((tO.o2.new bkO_good ((Below.refl _ _).alloc (Nat.le_refl _) o)).keep bkO_good fun q hq hqw => ch7.block q hqw fun e => tO.a12 q e hq).keep bkO_good fun q hq hqw => hc.block q hqw (hS q (.inr (.inl hq)))).rd bkO_good bk_good fun _ _ => trivial
 · exact own_rd (own_chg (own_chg (own_alloc tO.o3 o) ch7 fun q hq e => tO.a13 q e hq) hc fun q hq => hS q (.inr (.inr hq)))
end
/-- a drawn tree's sizes -/
def TrBd (t : Tr) : Prop := t.base.length ≤ 100 ∧ (1 ≤ t.blocks.length ∧ t.blocks.length ≤ 14) ∧ t.before.length ≤ 100 ∧ ∀ x ∈ t.blocks, x.list.length ≤ 10
def sAl (B : Nat) (v : Value) (w : World) : Prop := ∃ (A : Option Addr) (c : Nat) (al : List Act), al.length ≤ 11 ∧ v = .slice A al.length c ∧ w.ownsRow B 56 4 (.slice A al.length c) al.length (al.flatMap encA)
def sTr (B m : Nat) (v : Value) (w : World) : Prop := ∃ t A1 c1 A2 c2 A3 c3 fp, treeB t = true ∧ m ≤ t.blocks.length ∧ v = .agg #[.slice A1 t.base.length c1, .slice A2 t.blocks.length c2, .slice A3 t.before.length c3] ∧ TrO w B t A1 c1 A2 c2 A3 c3 fp
def sTrT (B m : Nat) (v : Value) (w : World) : Prop := ∃ t A1 c1 A2 c2 A3 c3 fp ok, treeB t = true ∧ m ≤ t.blocks.length ∧ v = .tuple #[.agg #[.slice A1 t.base.length c1, .slice A2 t.blocks.length c2, .slice A3 t.before.length c3], .bool ok] ∧ TrO w B t A1 c1 A2 c2 A3 c3 fp
def sBk (B : Nat) (v : Value) (w : World) : Prop := ∃ x : Bk, x.list.length ≤ 11 ∧ sNext B x v w
def sBkT (B : Nat) (v : Value) (w : World) : Prop := ∃ (x : Bk) (ok : Bool), x.list.length ≤ 11 ∧ sNextT B x ok v w
def qBk (B : Nat) (cs : Array Value) (w : World) : Prop := ∃ x : Bk, x.list.length ≤ 11 ∧ qNext B x cs w
theorem sAl_chg {B : Nat} {S : Nat → Prop} (hS : ∀ q, B ≤ q → ¬ S q) (v : Value) (a b : World) (hc : Chg S a b) : sAl B v a → sAl B v b := fun ⟨A, c, al, h1, h2, h3⟩ => ⟨A, c, al, h1, h2, own_chg h3 hc fun q hq => hS q (own_rng h3 q hq).1⟩
theorem sTr_chg {B m : Nat} {S : Nat → Prop} (hS : ∀ q, B ≤ q → ¬ S q) (v : Value) (a b : World) (hc : Chg S a b) : sTr B m v a → sTr B m v b := fun ⟨t, A1, c1, A2, c2, A3, c3, fp, h1, h2, h3, h4⟩ => ⟨t, A1, c1, A2, c2, A3, c3, fp, h1, h2, h3, h4.chg hc fun q hq => hS q (h4.rng q hq).1⟩
theorem sTrT_chg {B m : Nat} {S : Nat → Prop} (hS : ∀ q, B ≤ q → ¬ S q) (v : Value) (a b : World) (hc : Chg S a b) : sTrT B m v a → sTrT B m v b := fun ⟨t, A1, c1, A2, c2, A3, c3, fp, ok, h1, h2, h3, h4⟩ => ⟨t, A1, c1, A2, c2, A3, c3, fp, ok, h1, h2, h3, h4.chg hc fun q hq => hS q (h4.rng q hq).1⟩
theorem chg_more {S T : Nat → Prop} {a b c : World} (h : Chg S a b) (k : Chg T b c) (hT : ∀ q, q < a.heap.size → T q → S q) : Chg S a c :=
 ⟨k.os.trans h.os, k.tape.trans h.tape, k.output.trans h.output, Nat.le_trans h.size k.size, fun q hq hn => by
   rw [k.block q (Nat.lt_of_lt_of_le hq h.size) (fun e => hn (hT q hq e)), h.block q hq hn]⟩
theorem chg_setRow {S : Nat → Prop} {w : World} {q : Nat} (hq : S q) (ds : Array Value) : Chg S w (w.setRow q ds) :=
 ⟨rfl, rfl, rfl, by rw [size_setRow]; exact Nat.le_refl _, fun k hk hn => setRow_other w q k ds (fun e => hn (by rw [e]; exact hq))⟩
theorem rdrR_new {g N0 m : Nat} {w w' : World} (h : rdrR g N0 m w) (hb : Below w.heap.size w w') : rdrR g N0 m w' := by
 obtain ⟨N, h1, h2⟩ := h
 exact ⟨N, h1, h2.new hb⟩
theorem rdrR_far {g N0 m : Nat} {w w' : World} {S : Nat → Prop} (h : rdrR g N0 m w) (hc : Chg S w w') (hS : ∀ k, k ≤ g → ¬ S k) : rdrR g N0 m w' := by
 obtain ⟨N, h1, h2⟩ := h
 exact ⟨N, h1, h2.chg hc hS⟩
/-- the state of the region that grows a tree -/
def R7 (g N0 B bx m : Nat) (cells : Array Value) (k : Nat) (b : Bool) (w : World) : Prop := rdrR g N0 k w ∧ (b = false → Blk w bx 69 cells) ∧ (b = true → TreeAt B bx m w)
theorem R7.new {g N0 B bx m : Nat} {cells : Array Value} {k : Nat} {b : Bool} {w w' : World} (h : R7 g N0 B bx m cells k b w) (hb : Below w.heap.size w w') : R7 g N0 B bx m cells k b w' := ⟨rdrR_new h.1 hb, fun e => (h.2.1 e).new_ hb, fun e => (h.2.2 e).new hb⟩
/-- the state of the region that draws a next block -/
def R9 (g N0 B : Nat) (k : Nat) (b : Bool) (vp : Value) (w : World) : Prop := rdrR g N0 k w ∧ BoxR B 32 #[.int .i64 0, .int .i64 0, .int .i64 0, .slice none 0 0, .int .i64 0, .int .i64 0] (qBk B) b vp w
theorem qBk_new {B : Nat} {w w' : World} (hb : Below w.heap.size w w') (cs : Array Value) (h : qBk B cs w) : qBk B cs w' := by
 obtain ⟨x, hx, A, c, h1, h2⟩ := h
 exact ⟨x, hx, A, c, h1, own_new h2 hb⟩
theorem qBk_chg {g B : Nat} (hg : g < B) {w w' : World} (hc : Chg (fun k => k = g) w w') (cs : Array Value) (h : qBk B cs w) : qBk B cs w' := by
 obtain ⟨x, hx, A, c, h1, h2⟩ := h
 exact ⟨x, hx, A, c, h1, own_reader h2 hc hg⟩
theorem boxR_chg {g m : Nat} {t : TypeId} {z : Array Value} {Q : Array Value → World → Prop} {b : Bool} {vp : Value} {w w' : World} (h : BoxR m t z Q b vp w) (hc : Chg (fun k => k = g) w w') (hg : g < m) (hQ : ∀ cs, Q cs w → Q cs w') : BoxR m t z Q b vp w' := by
 rcases h with ⟨h1, h | ⟨q, h2, h3, h4⟩⟩ | ⟨h1, q, cs, h2, h3, h4, h5⟩
 · exact .inl ⟨h1, .inl h⟩
 · exact .inl ⟨h1, .inr ⟨q, h2, h3, h4.chg hc (by omega)⟩⟩
 · exact .inr ⟨h1, q, cs, h2, h3, h4.chg hc (by omega), hQ cs h5⟩
theorem R9.new {g N0 B k : Nat} {b : Bool} {vp : Value} {w w' : World} (h : R9 g N0 B k b vp w) (hb : Below w.heap.size w w') : R9 g N0 B k b vp w' := ⟨rdrR_new h.1 hb, h.2.new hb fun cs => qBk_new hb cs⟩
theorem sBk_EG {g B : Nat} (hg : g < B) (v : Value) (a b : World) (hE : EG g B 32 a b) : sBk B v a → sBk B v b := fun ⟨x, hx, A, c, h1, h2⟩ => ⟨x, hx, A, c, h1, own_EG h2 hE ne_ab hg⟩
theorem sBkT_EG {g B : Nat} (hg : g < B) (v : Value) (a b : World) (hE : EG g B 32 a b) : sBkT B v a → sBkT B v b := fun ⟨x, ok, hx, A, c, h1, h2⟩ => ⟨x, ok, hx, A, c, h1, own_EG h2 hE ne_ab hg⟩
theorem sAl_EG {g B : Nat} (hg : g < B) (v : Value) (a b : World) (hE : EG g B 32 a b) : sAl B v a → sAl B v b := fun ⟨A, c, al, h1, h2, h3⟩ => ⟨A, c, al, h1, h2, own_EG h3 hE ne_ab hg⟩
theorem sOwn_EG {g B : Nat} (hg : g < B) (s : List Ent) (v : Value) (a b : World) (hE : EG g B 32 a b) : sOwn B s v a → sOwn B s v b := fun ⟨A, c, h1, h2⟩ => ⟨A, c, h1, own_EG h2 hE ne_eb hg⟩
theorem nextB_len (b : Bk) (s : List Ent) (view : Int) (al : List Act) : (nextB b s view al).list.length ≤ al.length := by
 rw [nextB]
 split
 · exact Nat.le_refl _
 · simp
theorem own_ne_blk {w : World} {base : Nat} {e : TypeId} {s n c : Nat} {A : Option Addr} {xs : List Value} (h : w.ownsRow base e s (.slice A n c) n xs) {q : Nat} {t : TypeId} {cs : Array Value} (k : Blk w q t cs) (hne : e ≠ t) : A ≠ some ⟨q, 0, none⟩ := by
 intro hA
 rcases h.2 with ⟨hv, _⟩ | ⟨g', cap, cur, hv, _, hh, _⟩
 · injection hv with hv; rw [hA] at hv; cases hv
 · injection hv with hv
   rw [hA] at hv
   injection hv with hv
   injection hv with hv
   subst hv
   have h1 : w.heap[q]? = some (.cells cs t (0, 0)) := k
   rw [hh] at h1
   injection h1 with h1
   injection h1 with h2 h3 h4
   exact hne h3
def sBool (v : Value) (_ : World) : Prop := ∃ ok : Bool, v = .bool ok
def rounds (j : Nat) : Nat := 410 * (7 - j)
set_option maxRecDepth 100000 in
set_option maxHeartbeats 16000000 in
theorem l20Tree_any (g N : Nat) (n : Int) (w : World) (h : Rdr w g N) (hN : N ≤ 500000) (hn : 0 ≤ n) (hn2 : n ≤ 1000000) :
   Calls Tryz.prog 85 #[.pointer (some ⟨g, 0, none⟩), .int .i64 n] w fun e w' => ∃ t A1 c1 A2 c2 A3 c3, e = .returned (.agg (trA t A1 c1 A2 c2 A3 c3)) ∧ TrBd t ∧ (n = 0 → treeB t = true) ∧ (∀ w'', Chg (fun k => k < w.heap.size) w' w'' → TrR w'' t A1 A2 A3) ∧ Rdr w' g (N + 5000) ∧ Chg (fun k => k = g) w w' := by
 have hg := h.lt
 have kr0 : Blk (w.alloc (.cells #[.slice none 0 0, .slice none 0 0, .slice none 0 0] 69)) w.heap.size 69 #[.slice none 0 0, .slice none 0 0, .slice none 0 0] := Blk.new _ _ _
 go_enter Tryz.func85, Tryz.ntmps85
 go_wp2_with fail
 refine (l20Store_zero g N _ (h.alloc _) (by omega)).mono ?_
 rintro e w1 ⟨A, c, s, hsl, hsb, rfl, o1, h1, ch1⟩
 have kr1 := kr0.chg ch1 (by omega)
 have q1 := ((Chg.refl (fun k => k = g) w).alloc (.cells #[.slice none 0 0, .slice none 0 0, .slice none 0 0] 69)).trans ch1
 go_wp2_with fail
 refine (treeOf_spec A c s w1 (own_rd o1) (by omega) hsb).mono ?_
 rintro e w2 ⟨B1, d1, B2, d2, B3, d3, fp, rfl, tO, b2⟩
 have ht := treeOf_ok hsb
 generalize treeOf s = t at *
 have hs1 := q1.size
 have hs2 := b2.size
 have hrng := tO.rng
 have kr2 := kr1.new_ b2
 have hrl := kr1.lt
 have h2 := h1.new b2
 have q2 := q1.trans (Chg.of_new (S := fun k => k = g) b2)
 simp only [trA]
 clear o1 hsb hsl
 go_wp2_with (refine wpList_store_row rfl 69 (.tmp 5) (.tmp 14) rfl w2.heap.size #[.slice B1 t.base.length d1, .slice B2 t.blocks.length d2, .slice B3 t.before.length d3] rfl rfl 69 #[.slice none 0 0, .slice none 0 0, .slice none 0 0] (box_new w2 69 #[.slice none 0 0, .slice none 0 0, .slice none 0 0] #[.slice B1 t.base.length d1, .slice B2 t.blocks.length d2, .slice B3 t.before.length d3]).1 info_tr rfl (sl3_one _ _ _ _ _ _ _ _ _) ?_; refine at_world (C := fun W => wpList _ _ _ _ _ W) (F := fun W => Blk W w2.heap.size 69 #[.slice B1 t.base.length d1, .slice B2 t.blocks.length d2, .slice B3 t.before.length d3] ∧ Below w2.heap.size w2 W) ⟨(box_new w2 69 #[.slice none 0 0, .slice none 0 0, .slice none 0 0] #[.slice B1 t.base.length d1, .slice B2 t.blocks.length d2, .slice B3 t.before.length d3]).2.1, (box_new w2 69 #[.slice none 0 0, .slice none 0 0, .slice none 0 0] #[.slice B1 t.base.length d1, .slice B2 t.blocks.length d2, .slice B3 t.before.length d3]).2.2⟩ ?_; rintro w3 ⟨kb, b3⟩)
 have hT3 : TreeAt (w.heap.size + 1) w2.heap.size 1 w3 := ⟨t, B1, d1, B2, d2, B3, d3, fp, ht, (treeB_bd ht).2.1.1, kb, (trO_base2 tO (by omega)).new b3, fun q hq => by have := hrng q hq; omega⟩
 have kr3 := kr2.new_ b3
 have h3 := h2.new b3
 have q3 := q2.trans (Chg.of_new (S := fun k => k = g) b3)
 obtain ⟨bx, hbx⟩ : ∃ bx, bx = w2.heap.size := ⟨_, rfl⟩
 rw [← hbx] at hT3 kb ⊢
 have hbx1 : w.heap.size < bx := by omega
 clear hbx kb tO hrng ht b2 b3 kr0 kr1 kr2 h1 h2 q1 q2 ch1 hs1 hs2 hrl
 go_wp2_with fail
 refine (pick_any g _ 8 w3 h3 (by omega) (by omega) (by omega)).mono ?_
 rintro e w4 ⟨v4, hv4, rfl, h4, ch4⟩
 have kr4 := kr3.chg ch4 (by omega)
 have hT4 := hT3.chg ch4 (fun q hq e => by omega) (by omega)
 have q4 := q3.trans ch4
 clear hT3 kr3 h3 q3 ch4
 go_wp2
 go_loopw [6, 7, 8, 9, 10] (fun i _ _ _ _ wr => ∃ (j : Nat), j ≤ 7 ∧ i = .int .i64 j ∧ TreeAt (w.heap.size + 1) bx 1 wr ∧ Blk wr w.heap.size 69 #[.slice none 0 0, .slice none 0 0, .slice none 0 0] ∧ Rdr wr g (N + 61 + rounds j) ∧ Chg (fun k => k = g) w wr) (fun i _ _ _ _ _ => (intOf i).toNat)
 case atStart => exact ⟨v4, by omega, rfl, hT4, kr4, h4.more (by unfold rounds; omega), q4⟩
 case round =>
   clear hT4 kr4 h4 q4
   obtain ⟨j, hj, rfl, hTA, kr, hrd, hchg⟩ := hrel
   have hsw := hchg.size
   have hrl := kr.lt
   have HRO := hide (show 0 < j → rounds j + 410 = rounds (j - 1) from fun h => by unfold rounds; omega)
   have hro : rounds j ≤ 2870 := by unfold rounds; omega
   by_cases hlt : 0 < j
   · have hlt' : (0 : Int) < (j : Int) := by omega
     obtain ⟨t, A1, c1, A2, c2, A3, c3, fp, hv, -, kb, tO, hne⟩ := hTA
     obtain ⟨hd1, hd2, hd3, hd4⟩ := treeB_bd hv
     simp only [trA] at kb
     have hbxl := kb.lt
     have HD4 := hide hd4
     have HD3 := hide hd3
     have HV := hide hv
     have HNE := hide hne
     have HX := hide (fun (w' : World) (hc : Chg (fun k => k = g) wr w') => show (w'.cell? ⟨bx, 0, none⟩ = some (.slice A1 t.base.length c1) ∧ w'.cell? ⟨bx, 1, none⟩ = some (.slice A2 t.blocks.length c2) ∧ w'.cell? ⟨bx, 2, none⟩ = some (.slice A3 t.before.length c3)) ∧ TrR w' t A1 A2 A3 from
       ⟨⟨(kb.chg hc (by omega)).cell 0, (kb.chg hc (by omega)).cell 1, (kb.chg hc (by omega)).cell 2⟩, (tO.chg hc fun q hq e => by have := tO.rng q hq; omega).rd⟩)
     clear hd4 hd3 hv hne
     obtain ⟨nb, hnb⟩ : ∃ nb, nb = t.blocks.length := ⟨_, rfl⟩
     rw [← hnb] at hd2
     have HNB := hide hnb
     have hn1 : (1 : Int) ≤ (t.blocks.length : Int) := by omega
     have hF : StL g [kV (.pointer (some ⟨bx, 1, none⟩)), kV (.slice A2 t.blocks.length c2), kV (.int .i64 (t.blocks.length : Int)), kV (.int .i64 ((t.blocks.length : Int) - 1)), kV (.pointer (some ⟨g, 0, none⟩)), kV (.pointer (some ⟨bx, 1, none⟩)), kV (.slice A2 t.blocks.length c2), kV (.int .i64 (t.blocks.length : Int)), kInt 0 ((t.blocks.length : Int) - 1), kRow g 3 2 0 ((t.blocks.length : Int) - 1), kV (.pointer (some ⟨g, 0, none⟩)), kInt 0 3, kInt 0 1] := (stl_cons (st_V _) (stl_cons (st_V _) (stl_cons (st_V _) (stl_cons (st_V _) (stl_cons (st_V _) (stl_cons (st_V _) (stl_cons (st_V _) (stl_cons (st_V _) (stl_cons (st_Int _ _) (stl_cons (st_Row _ _ _ _) (stl_cons (st_V _) (stl_cons (st_Int _ _) (stl_cons (st_Int _ _) stl_nil)))))))))))))
     go_upto_region 5 with fail
     refine wp_region_loc (by kernel_rfl) [(0, some 21), (1, some 22), (2, some 23), (3, some 24), (4, some 25), (5, some 26), (6, some 27), (7, some 28), (8, some 29), (9, some 30), (10, some 31), (11, some 32), (12, some 33)] [[], [(0, some 21)], [(1, some 22)], [(2, some 23)], [], [], [(5, some 26)], [(6, some 27)], [(4, some 25), (7, some 28)], [(3, some 24), (8, some 29)], [], [(10, some 31)], [(11, some 32)]] (by kernel_rfl)
       (locF _) (Chg fun k => k = g) (rdrR g (N + 61 + rounds j + 2)) [0, 0, 0, 0, 0, 0, 0, 0, 1, 0, 0, 1, 0] 2 (by kernel_rfl) (Chg.refl _) (fun _ _ _ => Chg.trans) (fun i v a b h1 h2 hc => locF_st hF i v a b _ h1 h2 hc) ⟨_, by omega, (hrd).drew⟩ ?_ ?_
     · refine steps_cons ?s0 ( steps_cons ?s1 ( steps_cons ?s2 ( steps_cons ?s3 ( steps_cons ?s4 ( steps_cons ?s5 ( steps_cons ?s6 ( steps_cons ?s7 ( steps_cons ?s8 ( steps_cons ?s9 ( steps_cons ?s10 ( steps_cons ?s11 ( steps_cons ?s12 steps_nil))))))))))))
       case s0 | s4 | s5 | s10 =>
         intro w' m' hE hR
         intro Q hQ
         go_wp2
         exact hQ _ _ _ rfl rfl (Chg.refl _ _) hR
       case s1 | s6 =>
         intro w' m' hE hR
         rintro _ rfl Q hQ
         obtain ⟨⟨s0, s1, s2⟩, sR⟩ := unhide HX w' (chg_undrew hE)
         go_wp2
         exact hQ _ _ _ rfl rfl (Chg.refl _ _) hR
       case s2 | s3 | s7 =>
         intro w' m' hE hR
         rintro _ rfl Q hQ
         go_wp2
         exact hQ _ _ _ rfl rfl (Chg.refl _ _) hR
       case s8 =>
         intro w' m' hE hR
         rintro _ rfl _ rfl Q hQ
         obtain ⟨N1, hN1, hr1⟩ := rdrR_use hR
         simp only [List.getD_cons_succ, List.getD_cons_zero] at hN1
         go_wp2_with fail
         refine (pick_any g N1 (t.blocks.length : Int) _ hr1 (by omega) (by omega) (by omega)).mono ?_
         rintro e w2 ⟨x, hx, rfl, h2, ch2⟩
         go_wp2
         exact hQ _ _ _ rfl ⟨_, rfl, by omega, by omega⟩ ch2 ⟨N1 + 1, by omega, h2⟩
       case s9 =>
         intro w' m' hE hR
         rintro _ rfl _ ⟨x0, rfl, l0, h0⟩ Q hQ
         go_wp2
         exact hQ _ _ _ rfl (kRow_new [((t.blocks.length : Int) - 1), x0] 3 0 ((t.blocks.length : Int) - 1) (by omega) hE (by intro i hi; simp at hi; rcases i with _ | _ | i <;> simp <;> omega)) ((Chg.refl _ _).alloc _) (rdrR_alloc hR _)
       case s11 =>
         intro w' m' hE hR
         rintro _ rfl Q hQ
         obtain ⟨N1, hN1, hr1⟩ := rdrR_use hR
         simp only [List.getD_cons_succ, List.getD_cons_zero] at hN1
         go_wp2_with fail
         refine (pick_any g N1 4 _ hr1 (by omega) (by omega) (by omega)).mono ?_
         rintro e w2 ⟨x, hx, rfl, h2, ch2⟩
         go_wp2
         exact hQ _ _ _ rfl ⟨_, rfl, by omega, by omega⟩ ch2 ⟨N1 + 1, by omega, h2⟩
       case s12 =>
         intro w' m' hE hR
         rintro _ ⟨x1, rfl, l1, h1⟩ Q hQ
         obtain ⟨x1, rfl⟩ := Int.eq_ofNat_of_zero_le l1
         have hq3 : x1 / 3 ≤ 1 := by omega
         have hq2 : (x1 : Int) / 3 = ((x1 / 3 : Nat) : Int) := by omega
         generalize x1 / 3 = q3 at *
         go_wp2
         exact hQ _ _ _ rfl ⟨_, rfl, by omega, by omega⟩ (Chg.refl _ _) hR
     intro w5 hE hR
     rintro v0 - v1 - v2 - v3 - v4 - v5 - v6 - v7 - v8 - _ ⟨q9, zs, rfl, a9, b9, c9, d9⟩ v10 - v11 - _ ⟨x12, rfl, l12, h12⟩
     obtain ⟨N5, hN5, hr5⟩ := hR
     have hc5 := chg_undrew hE
     clear hE hF
     obtain ⟨i, z, e1, e2, e3, e4, e5, e6⟩ := kRow_cell (g := g) b9 c9 d9 (x := x12) (by omega) (by omega)
     subst e1
     have i1 : (i : Int) < 2 := by omega
     change wpList _ _ _ [_, _, _] _ _
     simp only [Act.put, List.setIfInBounds_toArray, List.set_cons_succ, List.set_cons_zero]
     obtain ⟨q, rfl⟩ := Int.eq_ofNat_of_zero_le e5
     have hqn : q < t.blocks.length := by omega
     have i2 : (q : Int) < (t.blocks.length : Int) := by omega
     have hvb := (blkB_bd (treeB_blk (unhide HV) hqn)).2
     rw [bAt_get t hqn] at hvb
     obtain ⟨bq, offq, L1, e1, hA2, hqP, hbb, u0, u1, u2, u3, u4, u5, hlc, r1⟩ := (tO.o2.rd bkO_good bk_good (P := fun k => k ∈ fp) (fun _ h => h)).bk hqn
     have hlx := unhide HD4 _ (List.getElem_mem hqn)
     generalize t.blocks[q] = x at *
     have hqB := tO.ge bq hqP
     have hqg : bq ≠ g := by omega
     have HA2 := hide hA2
     have HU := hide (fun (w' : World) (hc : Chg (fun k => k = g) wr w') => show w'.cell? ⟨bq, offq + q * 6 + 2, none⟩ = some (.int .i64 x.view) from hc.cell u2 hqg)
     clear hA2 u0 u1 u2 u3 u4 u5 hlc r1
     go_upto_region 6 with fail
     have hF : StL g [kV (.pointer (some ⟨bx, 1, none⟩)), kV (.slice (some ⟨bq, offq, none⟩) t.blocks.length c2), kV (.int .i64 (q : Int)), kV (.pointer (some ⟨bq, offq + q * 6, none⟩)), kV (.pointer (some ⟨bq, offq + q * 6 + 2, none⟩)), kV (.int .i64 x.view), kRow g 3 4 1 2, kV (.pointer (some ⟨g, 0, none⟩)), kInt 0 3, kPtr g 1 2, kInt 1 2] := (stl_cons (st_V _) (stl_cons (st_V _) (stl_cons (st_V _) (stl_cons (st_V _) (stl_cons (st_V _) (stl_cons (st_V _) (stl_cons (st_Row _ _ _ _) (stl_cons (st_V _) (stl_cons (st_Int _ _) (stl_cons (st_Ptr _ _) (stl_cons (st_Int _ _) stl_nil)))))))))))
     refine wp_region_loc (by kernel_rfl) [(0, some 36), (1, some 37), (2, some 38), (3, some 39), (4, some 40), (5, some 41), (6, some 42), (7, some 43), (8, some 44), (9, some 45), (10, some 46)] [[], [(0, some 36)], [], [(1, some 37), (2, some 38)], [(3, some 39)], [(4, some 40)], [], [], [(7, some 43)], [(6, some 42), (8, some 44)], [(9, some 45)]] (by kernel_rfl)
       (locF _) (Chg fun k => k = g) (rdrR g (N5 + 1)) [0, 0, 0, 0, 0, 0, 0, 0, 1, 0, 0] 1 (by kernel_rfl) (Chg.refl _) (fun _ _ _ => Chg.trans) (fun i v a b h1 h2 hc => locF_st hF i v a b _ h1 h2 hc) ⟨_, by omega, (hr5).drew⟩ ?_ ?_
     · refine steps_cons ?s0 ( steps_cons ?s1 ( steps_cons ?s2 ( steps_cons ?s3 ( steps_cons ?s4 ( steps_cons ?s5 ( steps_cons ?s6 ( steps_cons ?s7 ( steps_cons ?s8 ( steps_cons ?s9 ( steps_cons ?s10 steps_nil))))))))))
       case s0 | s2 | s7 =>
         intro w' m' hE hR
         intro Q hQ
         go_wp2
         exact hQ _ _ _ rfl rfl (Chg.refl _ _) hR
       case s1 =>
         intro w' m' hE hR
         rintro _ rfl Q hQ
         obtain ⟨⟨s0, s1, s2⟩, sR⟩ := unhide HX w' (hc5.trans (chg_undrew hE))
         rw [unhide HA2] at s1
         go_wp2
         exact hQ _ _ _ rfl rfl (Chg.refl _ _) hR
       case s3 =>
         intro w' m' hE hR
         rintro _ rfl _ rfl Q hQ
         go_wp2
         exact hQ _ _ _ rfl rfl (Chg.refl _ _) hR
       case s4 =>
         intro w' m' hE hR
         rintro _ rfl Q hQ
         go_wp2
         exact hQ _ _ _ rfl rfl (Chg.refl _ _) hR
       case s5 =>
         intro w' m' hE hR
         rintro _ rfl Q hQ
         have u2 := unhide HU w' (hc5.trans (chg_undrew hE))
         go_wp2
         exact hQ _ _ _ rfl rfl (Chg.refl _ _) hR
       case s6 =>
         intro w' m' hE hR
         intro Q hQ
         go_wp2
         exact hQ _ _ _ rfl (kRow_new [1, 1, 1, 2] 3 1 2 (by have := hc5.size; omega) hE (by intro i hi; simp at hi; rcases i with _ | _ | _ | _ | i <;> simp <;> omega)) ((Chg.refl _ _).alloc _) (rdrR_alloc hR _)
       case s8 =>
         intro w' m' hE hR
         rintro _ rfl Q hQ
         obtain ⟨N1, hN1, hr1⟩ := rdrR_use hR
         simp only [List.getD_cons_succ, List.getD_cons_zero] at hN1
         go_wp2_with fail
         refine (pick_any g N1 4 _ hr1 (by omega) (by omega) (by omega)).mono ?_
         rintro e w2 ⟨x, hx, rfl, h2, ch2⟩
         go_wp2
         exact hQ _ _ _ rfl ⟨_, rfl, by omega, by omega⟩ ch2 ⟨N1 + 1, by omega, h2⟩
       case s9 =>
         intro w' m' hE hR
         rintro _ ⟨q0, zs0, rfl, a0, b0, c0, d0⟩ _ ⟨x1, rfl, l1, h1⟩ Q hQ
         obtain ⟨i, z, e1, e2, e3, e4, e5, e6⟩ := kRow_cell (g := g) b0 c0 d0 (x := x1) (by omega) (by omega)
         subst e1
         have i1 : (i : Int) < 4 := by omega
         go_wp2
         exact hQ _ _ _ rfl ⟨q0, i, z, by first | rfl | simp, a0, e3, e4, e5, e6⟩ (Chg.refl _ _) hR
       case s10 =>
         intro w' m' hE hR
         rintro _ ⟨q0, i0, z0, rfl, a0, b0, c0, d0, e0⟩ Q hQ
         go_wp2
         exact hQ _ _ _ rfl ⟨_, rfl, by omega, by omega⟩ (Chg.refl _ _) hR
     intro w6 hE hR
     rintro v0 - v1 - v2 - v3 - v4 - v5 hv5 v6 - v7 - v8 - v9 - _ ⟨z2, rfl, l2, h2⟩
     obtain rfl : v5 = _ := hv5
     obtain ⟨N6, hN6, hr6⟩ := hR
     have hc6 := hc5.trans (chg_undrew hE)
     clear hE hF hr5 hc5
     change wpList _ _ _ [_, _] _ _
     simp only [Act.put, List.setIfInBounds_toArray, List.set_cons_succ, List.set_cons_zero]
     go_upto_region 7 with fail
     generalize x.view + z2 = vw
     have hsz6 := hc6.size
     have t6 := tO.chg hc6 (fun q hq e => by have := tO.rng q hq; omega)
     have kb6 := kb.chg hc6 (by omega)
     have kr6 := kr.chg hc6 (by omega)
     have q6 := hchg.trans hc6
     have hS7 : ∀ q, w6.heap.size ≤ q → ¬ (q = g ∨ q = bx) := fun q hq e => by omega
     have HT6 := hide (fun (w' : World) (hc : Chg (fun k => k = g ∨ k = bx) w6 w') => (t6.chg hc (fun q hq e => by have := t6.rng q hq; have := unhide HNE q hq; omega)).rd)
     have HGR := hide (fun (w' : World) (hc : Chg (fun k => k = g ∨ k = bx) w6 w') (L : Option Addr) (cl : Nat) (al : List Act) (hl : Rd w' L (al.flatMap encA)) (hal : al.length ≤ 11) => grow_spec t A1 c1 A2 c2 A3 c3 (q : Int) vw L cl al w' (unhide HT6 w' hc) hl (by omega) (by have := unhide HNB; omega) (fun x hx => by have := unhide HD4 x hx; omega) (by have := unhide HNB; have := unhide HD3; omega) (by omega))
     simp only [trA] at HGR
     clear kb kr hchg hrd e1 e2 e3 e4 e5 e6 l2 h2
     have hF : StEL (Chg fun k => k = g ∨ k = bx) [bV (.agg #[.slice A1 t.base.length c1, .slice A2 t.blocks.length c2, .slice A3 t.before.length c3]), bV (.int .i64 (q : Int)), bV (.int .i64 vw), bV (.pointer (some ⟨g, 0, none⟩)), sAl w6.heap.size, sTrT w6.heap.size t.blocks.length, sTrT w6.heap.size t.blocks.length, sTr w6.heap.size t.blocks.length, pV (fun _ => True), pV (fun _ => True)] :=
       ⟨fun _ _ _ _ h => h, fun _ _ _ _ h => h, fun _ _ _ _ h => h, fun _ _ _ _ h => h, fun v a b hc => sAl_chg hS7 v a b hc, fun v a b hc => sTrT_chg hS7 v a b hc, fun v a b hc => sTrT_chg hS7 v a b hc, fun v a b hc => sTr_chg hS7 v a b hc, fun _ _ _ _ h => h, fun _ _ _ _ h => h, trivial⟩
     refine wp_region_cost (by kernel_rfl) [(0, some 49), (1, some 50), (2, some 51), (3, some 52), (4, some 53), (5, some 54), (6, some 48), (7, some 55), (8, some 56), (9, none)] [[], [], [], [], [(3, some 52)], [(0, some 49), (1, some 50), (2, some 51), (4, some 53)], [(5, some 54)], [(6, some 48)], [(6, some 48)], [(7, some 55)]] (by kernel_rfl) 9 [0, 1, 2, 3, 4, 5, 6, 7] (by kernel_rfl) [0, 0, 0, 0, 200, 0, 0, 0, 0, 0] 200 (by kernel_rfl) 99
       (locB [bV (.agg #[.slice A1 t.base.length c1, .slice A2 t.blocks.length c2, .slice A3 t.before.length c3]), bV (.int .i64 (q : Int)), bV (.int .i64 vw), bV (.pointer (some ⟨g, 0, none⟩)), sAl w6.heap.size, sTrT w6.heap.size t.blocks.length, sTrT w6.heap.size t.blocks.length, sTr w6.heap.size t.blocks.length, pV (fun _ => True), pV (fun _ => True)]) (Chg fun k => k = g ∨ k = bx) (fun k b _ w => R7 g (N6 + 200) w6.heap.size bx t.blocks.length #[.slice A1 t.base.length c1, .slice A2 t.blocks.length c2, .slice A3 t.before.length c3] k b w) (Chg.refl _) (fun _ _ _ => Chg.trans) (locE_st hF _) ⟨⟨N6, by omega, hr6.drew⟩, fun _ => kb6, fun e => nomatch e⟩ ?_ ?_
     · refine steps_cons ?s0 ( steps_cons ?s1 ( steps_cons ?s2 ( steps_cons ?s3 ( steps_cons ?s4 ( steps_cons ?s5 ( steps_cons ?s6 ( steps_cons ?s7 ( steps_cons ?s8 ( steps_cons ?s9 steps_nil)))))))))
       case s0 =>
         intro w' m' b vp hE hbx hR
         obtain rfl := hbx (by simp)
         intro Q hQ
         have kb7 := hR.2.1 rfl
         have s0 : w'.cell? ⟨bx, 0, none⟩ = some (.slice A1 t.base.length c1) := kb7.cell 0
         have s1 : w'.cell? ⟨bx, 1, none⟩ = some (.slice A2 t.blocks.length c2) := kb7.cell 1
         have s2 : w'.cell? ⟨bx, 2, none⟩ = some (.slice A3 t.before.length c3) := kb7.cell 2
         go_wp2
         exact hQ _ _ _ rfl rfl (Chg.refl _ _) hR
       case s1 | s2 | s3 =>
         intro w' m' b vp hE hbx hR
         obtain rfl := hbx (by simp)
         intro Q hQ
         go_wp2
         exact hQ _ _ _ rfl rfl (Chg.refl _ _) hR
       case s4 =>
         intro w' m' b vp hE hbx hR
         obtain rfl := hbx (by simp)
         rintro _ ⟨rfl, -⟩ Q hQ
         have hsz := hE.size
         obtain ⟨N1, hN1, hr7⟩ := rdrR_use hR.1
         simp only [List.getD_cons_succ, List.getD_cons_zero] at hN1
         go_wp2_with fail
         refine (l20Actions_any g N1 0 w' hr7 (by omega) (by omega) (by omega)).mono ?_
         rintro e w1 ⟨A8, c8, al, hal, rfl, o8, h8, ch8⟩
         go_wp2
         exact hQ _ _ _ rfl ⟨A8, c8, al, hal, rfl, own_base o8 hsz⟩ (ch8.mono fun k _ h => .inl h) ⟨⟨N1 + 200, by omega, h8⟩, fun e => (hR.2.1 rfl).chg ch8 (by omega), fun e => nomatch e⟩
       case s5 =>
         intro w' m' b vp hE hbx hR
         obtain rfl := hbx (by simp)
         rintro _ ⟨rfl, -⟩ _ ⟨rfl, -⟩ _ ⟨rfl, -⟩ _ ⟨⟨A8, c8, al, hal, rfl, o8⟩, -⟩ Q hQ
         have hsz := hE.size
         go_wp2_with fail
         refine (unhide HGR w' (chg_undrew hE) A8 c8 al (own_rd o8) hal).mono ?_
         rintro e w1 ⟨B1, d1, B2, d2, B3, d3, fq, rfl, tG, b1⟩
         have p1 := grT_ok (q : Int) vw al (unhide HV)
         have p2 := grT_more (q : Int) vw al (unhide HV)
         generalize grT t (q : Int) vw al = t2 at *
         generalize grOk t (q : Int) vw al = ok at *
         go_wp2
         exact hQ _ _ _ rfl ⟨t2, B1, d1, B2, d2, B3, d3, fq, ok, p1, p2, rfl, trO_base2 tG hsz⟩ (Chg.of_new b1) (R7.new hR b1)
       case s6 =>
         intro w' m' b vp hE hbx hR
         obtain rfl := hbx (by simp)
         rintro _ ⟨⟨t2, B1, d1, B2, d2, B3, d3, fq, ok, p1, p2, rfl, p4⟩, -⟩ Q hQ
         go_wp2
         exact hQ _ _ _ rfl ⟨t2, B1, d1, B2, d2, B3, d3, fq, ok, p1, p2, rfl, p4⟩ (Chg.refl _ _) hR
       case s7 =>
         intro w' m' b vp hE hbx hR
         obtain rfl := hbx (by simp)
         rintro _ ⟨⟨t2, B1, d1, B2, d2, B3, d3, fq, ok, p1, p2, rfl, p4⟩, -⟩ Q hQ
         go_wp2
         exact hQ _ _ _ rfl ⟨t2, B1, d1, B2, d2, B3, d3, fq, p1, p2, rfl, p4⟩ (Chg.refl _ _) hR
       case s8 =>
         intro w' m' b vp hE hbx hR
         clear hbx
         rintro _ ⟨⟨t2, B1, d1, B2, d2, B3, d3, fq, ok, p1, p2, rfl, p4⟩, -⟩ Q hQ
         go_wp2
         exact hQ _ _ _ rfl trivial (Chg.refl _ _) hR
       case s9 =>
         intro w' m' b vp hE hbx hR
         obtain rfl := hbx (by simp)
         rintro _ ⟨⟨t2, B1, d1, B2, d2, B3, d3, fq, p1, p2, rfl, p4⟩, -⟩ Q hQ
         have hsz := hE.size
         refine wpList_store_row rfl 69 (.tmp 5) (.tmp 55) rfl bx #[.slice B1 t2.base.length d1, .slice B2 t2.blocks.length d2, .slice B3 t2.before.length d3] rfl rfl 69 #[.slice A1 t.base.length c1, .slice A2 t.blocks.length c2, .slice A3 t.before.length c3] (hR.2.1 rfl) info_tr rfl (sl3_one _ _ _ _ _ _ _ _ _) ?_
         go_wp2
         exact hQ undef _ _ rfl trivial (chg_setRow (.inr rfl) _) ⟨rdrR_far hR.1 (chg_setRow (S := fun k => k = bx) rfl _) (fun k hk e => by omega), fun e => absurd e (by simp), fun _ => ⟨t2, B1, d1, B2, d2, B3, d3, fq, p1, p2, blk_setRow (hR.2.1 rfl), trO_setRow2 p4 (by omega) _, fun r hr e => by have := p4.rng r hr; omega⟩⟩
     intro w7 vp hE hR
     rintro v0 - v1 - v2 - v3 - v4 - v5 - v6 - v7 - v8 - v9 -
     have hc7 := chg_undrew hE
     obtain ⟨N7, hN7, hr7⟩ := hR.1
     have hT7 := hR.2.2 rfl
     have kr7 := kr6.chg hc7 (by omega)
     have q7 := chg_more q6 hc7 (fun q hq e => by omega)
     have hsz7 := hc7.size
     clear hE hR hF HGR HT6 kb6 t6 kr6 q6 hr6
     refine wpList_drop_all rfl ?_
     simp only [Act.put, List.setIfInBounds_toArray, List.set_cons_succ, List.set_cons_zero]
     go_wp2_with fail
     refine (odd_any g _ 9 w7 hr7 (by omega) (by omega) (by omega)).mono ?_
     rintro e w8 ⟨b, rfl, -, h8, ch8⟩
     have hT8 := hT7.chg ch8 (fun q hq e => by omega) (by omega)
     have kr8 := kr7.chg ch8 (by omega)
     have q8 := q7.trans ch8
     have hsz8 := ch8.size
     clear hT7 kr7 q7 ch8 hr7
     cases b
     · go_wp2
       go_roundw
       case rel => exact ⟨j - 1, by omega, by go_num, hT8.less (by omega) (by omega), kr8, h8.more (by have := unhide HRO hlt; omega), q8⟩
       case measure => simp [intOf]; omega
     have HT8 := hide hT8
     obtain ⟨t2, C1, k1, C2, k2, C3, k3, fq, hv2, hm2, kb8, tO8, hne8⟩ := hT8
     obtain ⟨ha1, ha2, ha3, ha4⟩ := treeB_bd hv2
     have HV2 := hide hv2
     have HA3 := hide ha3
     have HA4 := hide ha4
     have HNE8 := hide hne8
     simp only [trA] at kb8
     clear hv2 ha3 ha4 hne8
     have x1 : w8.cell? ⟨bx, 1, none⟩ = some (.slice C2 t2.blocks.length k2) := kb8.cell 1
     obtain ⟨nb2, hnb2⟩ : ∃ nb2, nb2 = t2.blocks.length := ⟨_, rfl⟩
     rw [← hnb2] at ha2
     have HNB2 := hide hnb2
     have hn142 : t2.blocks.length ≤ 14 := by omega
     by_cases hl1 : (1 : Int) < (t2.blocks.length : Int)
     rotate_left
     · go_wp2
       go_roundw
       case rel => exact ⟨j - 1, by omega, by go_num, (unhide HT8).less (by omega) (by omega), kr8, h8.more (by have := unhide HRO hlt; omega), q8⟩
       case measure => simp [intOf]; omega
     clear HT8
     have hq2 : q < t2.blocks.length := by omega
     have i3 : (q : Int) < (t2.blocks.length : Int) := by omega
     clear hnb2
     obtain ⟨bq2, offq2, L2, e2, hC2, hqP2, hbb2, zz0, zz1, zz2, zz3, zz4, zz5, hlc2, r2⟩ := (tO8.o2.rd bkO_good bk_good (P := fun k => k ∈ fq) (fun _ h => h)).bk hq2
     have hqB2 := tO8.ge bq2 hqP2
     have hlx2 := unhide HA4 _ (List.getElem_mem hq2)
     generalize t2.blocks[q] = x2 at *
     have HC2 := hide hC2
     have HX9 := hide (fun (w' : World) (hc : Chg (fun k => k = g) w8 w') => show (w'.cell? ⟨bx, 0, none⟩ = some (.slice C1 t2.base.length k1) ∧ w'.cell? ⟨bx, 1, none⟩ = some (.slice C2 t2.blocks.length k2) ∧ w'.cell? ⟨bx, 2, none⟩ = some (.slice C3 t2.before.length k3)) ∧ (w'.cell? ⟨bq2, offq2 + q * 6, none⟩ = some (.int .i64 x2.before) ∧ w'.cell? ⟨bq2, offq2 + q * 6 + 1, none⟩ = some (.int .i64 x2.height) ∧ w'.cell? ⟨bq2, offq2 + q * 6 + 2, none⟩ = some (.int .i64 x2.view) ∧ w'.cell? ⟨bq2, offq2 + q * 6 + 3, none⟩ = some (.slice L2 x2.list.length e2) ∧ w'.cell? ⟨bq2, offq2 + q * 6 + 4, none⟩ = some (.int .i64 x2.root) ∧ w'.cell? ⟨bq2, offq2 + q * 6 + 5, none⟩ = some (.int .i64 x2.eff)) ∧ Rd w' L2 (x2.list.flatMap encA) ∧ TrR w' t2 C1 C2 C3 from
       have hg2 : ¬ bq2 = g := by omega
       ⟨⟨(kb8.chg hc (by omega)).cell 0, (kb8.chg hc (by omega)).cell 1, (kb8.chg hc (by omega)).cell 2⟩, ⟨hc.cell zz0 hg2, hc.cell zz1 hg2, hc.cell zz2 hg2, hc.cell zz3 hg2, hc.cell zz4 hg2, hc.cell zz5 hg2⟩, (r2.keep (Kp.chg hc fun k hk e => by have := tO8.ge k hk; omega)).rd, (tO8.chg hc fun k hk e => by have := tO8.rng k hk; omega).rd⟩)
     have HST9 := hide (fun (w' : World) (hc : Chg (fun k => k = g) w8 w') => storeOf_spec t2 C1 k1 C2 k2 C3 k3 (q : Int) w' (unhide HX9 w' hc).2.2.2 (by omega) (by omega) (fun x hx => by have := unhide HA4 x hx; omega) (by have := unhide HA3; omega))
     have HPB := hide (fun (w' : World) (hc : Chg (fun k => k = g) w8 w') (nb : Bk) (A : Option Addr) (c : Nat) (h5 : Rd w' A (nb.list.flatMap encA)) (hn : nb.list.length ≤ 11) => put_spec t2 C1 k1 C2 k2 C3 k3 nb A c w' (unhide HX9 w' hc).2.2.2 h5 (by omega) (by omega) (fun x hx => by have := unhide HA4 x hx; omega) (by have := unhide HA3; omega) (by omega))
     simp only [trA] at HST9 HPB
     have HSL := hide (storeT_len t2 (q : Int))
     generalize storeT t2 (q : Int) = st at *
     have HNX9 := hide (fun (S : Option Addr) (cs : Nat) (w' : World) (h1 : Rd w' L2 (x2.list.flatMap encA)) (h2 : Rd w' S (st.flatMap encE)) (L : Option Addr) (cl : Nat) (al : List Act) (h3 : Rd w' L (al.flatMap encA)) (hal : al.length ≤ 11) => next_spec x2 L2 e2 S cs st vw L cl al w' h1 h2 h3 (by omega) (by have := unhide HSL; omega) (by omega))
     clear hC2 zz0 zz1 zz2 zz3 zz4 zz5 r2 hlc2
     have hF : StEL (EG g w8.heap.size 32) [bV (.pointer (some ⟨bx, 1, none⟩)), bV (.slice (some ⟨bq2, offq2, none⟩) t2.blocks.length k2), bV (.int .i64 (q : Int)), bV (.pointer (some ⟨bq2, offq2 + q * 6, none⟩)), bV (.agg #[.int .i64 x2.before, .int .i64 x2.height, .int .i64 x2.view, .slice L2 x2.list.length e2, .int .i64 x2.root, .int .i64 x2.eff]), bV (.agg #[.slice C1 t2.base.length k1, .slice C2 t2.blocks.length k2, .slice C3 t2.before.length k3]), bV (.int .i64 (q : Int)), sOwn w8.heap.size st, bV (.int .i64 vw), bV (.pointer (some ⟨g, 0, none⟩)), sAl w8.heap.size, sBkT w8.heap.size, sBkT w8.heap.size, sBk w8.heap.size, sBool, pV (fun v => v ≠ undef), pV (fun _ => True)] :=
       ⟨fun _ _ _ _ h => h, fun _ _ _ _ h => h, fun _ _ _ _ h => h, fun _ _ _ _ h => h, fun _ _ _ _ h => h, fun _ _ _ _ h => h, fun _ _ _ _ h => h, fun v a b hE => sOwn_EG (show g < w8.heap.size by omega) st v a b hE, fun _ _ _ _ h => h, fun _ _ _ _ h => h, fun v a b hE => sAl_EG (show g < w8.heap.size by omega) v a b hE, fun v a b hE => sBkT_EG (show g < w8.heap.size by omega) v a b hE, fun v a b hE => sBkT_EG (show g < w8.heap.size by omega) v a b hE, fun v a b hE => sBk_EG (show g < w8.heap.size by omega) v a b hE, fun _ _ _ _ h => h, fun _ _ _ _ h => h, fun _ _ _ _ h => h, trivial⟩
     go_upto_region 9 with fail
     clear x1
     refine wp_region_cost (by kernel_rfl) [(0, some 66), (1, some 67), (2, some 68), (3, some 69), (4, some 70), (5, some 71), (6, some 72), (7, some 73), (8, some 74), (9, some 75), (10, some 76), (11, some 77), (12, some 65), (13, some 78), (14, some 79), (15, some 9), (16, none)] [[], [(0, some 66)], [], [(1, some 67), (2, some 68)], [(3, some 69)], [], [], [(5, some 71), (6, some 72)], [], [], [(9, some 75)], [(4, some 70), (7, some 73), (8, some 74), (10, some 76)], [(11, some 77)], [(12, some 65)], [(12, some 65)], [], [(13, some 78), (15, some 9)]] (by kernel_rfl) 16 [0, 1, 2, 3, 4, 5, 6, 7, 8, 9, 10, 11, 12, 13, 15] (by kernel_rfl) [0, 0, 0, 0, 0, 0, 0, 0, 0, 0, 200, 0, 0, 0, 0, 0, 0] 200 (by kernel_rfl) 15
       (locB [bV (.pointer (some ⟨bx, 1, none⟩)), bV (.slice (some ⟨bq2, offq2, none⟩) t2.blocks.length k2), bV (.int .i64 (q : Int)), bV (.pointer (some ⟨bq2, offq2 + q * 6, none⟩)), bV (.agg #[.int .i64 x2.before, .int .i64 x2.height, .int .i64 x2.view, .slice L2 x2.list.length e2, .int .i64 x2.root, .int .i64 x2.eff]), bV (.agg #[.slice C1 t2.base.length k1, .slice C2 t2.blocks.length k2, .slice C3 t2.before.length k3]), bV (.int .i64 (q : Int)), sOwn w8.heap.size st, bV (.int .i64 vw), bV (.pointer (some ⟨g, 0, none⟩)), sAl w8.heap.size, sBkT w8.heap.size, sBkT w8.heap.size, sBk w8.heap.size, sBool, pV (fun v => v ≠ undef), pV (fun _ => True)]) (EG g w8.heap.size 32) (fun k b vp w => R9 g (N7 + 1 + 200) w8.heap.size k b vp w) (EG.refl _ _ _) (fun _ _ _ => EG.trans) (locE_st hF _) ⟨⟨N7 + 1, by omega, h8.drew⟩, .inl ⟨rfl, .inl rfl⟩⟩ ?_ ?_
     · refine steps_cons ?s0 ( steps_cons ?s1 ( steps_cons ?s2 ( steps_cons ?s3 ( steps_cons ?s4 ( steps_cons ?s5 ( steps_cons ?s6 ( steps_cons ?s7 ( steps_cons ?s8 ( steps_cons ?s9 ( steps_cons ?s10 ( steps_cons ?s11 ( steps_cons ?s12 ( steps_cons ?s13 ( steps_cons ?s14 ( steps_cons ?s15 ( steps_cons ?s16 steps_nil))))))))))))))))
       case s0 | s2 | s6 | s8 | s9 =>
         intro w' m' b vp hE hbx hR
         obtain rfl := hbx (by simp)
         intro Q hQ
         go_wp2
         exact hQ _ _ _ rfl rfl (EG.refl _ _ _ _) hR
       case s1 =>
         intro w' m' b vp hE hbx hR
         obtain rfl := hbx (by simp)
         rintro _ ⟨rfl, -⟩ Q hQ
         obtain ⟨⟨s0, s1, s2⟩, ⟨u0, u1, u2, u3, u4, u5⟩, u6, u7⟩ := unhide HX9 w' (hE.undrew.chg (Nat.le_refl _))
         rw [unhide HC2] at s1
         go_wp2
         exact hQ _ _ _ rfl rfl (EG.refl _ _ _ _) hR
       case s3 =>
         intro w' m' b vp hE hbx hR
         obtain rfl := hbx (by simp)
         rintro _ ⟨rfl, -⟩ _ ⟨rfl, -⟩ Q hQ
         go_wp2
         exact hQ _ _ _ rfl rfl (EG.refl _ _ _ _) hR
       case s4 =>
         intro w' m' b vp hE hbx hR
         obtain rfl := hbx (by simp)
         rintro _ ⟨rfl, -⟩ Q hQ
         obtain ⟨⟨s0, s1, s2⟩, ⟨u0, u1, u2, u3, u4, u5⟩, u6, u7⟩ := unhide HX9 w' (hE.undrew.chg (Nat.le_refl _))
         go_wp2
         exact hQ _ _ _ rfl rfl (EG.refl _ _ _ _) hR
       case s5 =>
         intro w' m' b vp hE hbx hR
         obtain rfl := hbx (by simp)
         intro Q hQ
         obtain ⟨⟨s0, s1, s2⟩, ⟨u0, u1, u2, u3, u4, u5⟩, u6, u7⟩ := unhide HX9 w' (hE.undrew.chg (Nat.le_refl _))
         go_wp2
         exact hQ _ _ _ rfl rfl (EG.refl _ _ _ _) hR
       case s7 =>
         intro w' m' b vp hE hbx hR
         obtain rfl := hbx (by simp)
         rintro _ ⟨rfl, -⟩ _ ⟨rfl, -⟩ Q hQ
         have hsz := hE.size
         go_wp2_with fail
         refine (unhide HST9 w' (hE.undrew.chg (Nat.le_refl _))).mono ?_
         rintro e w1 ⟨A8, c8, rfl, o8, b8⟩
         go_wp2
         exact hQ _ _ _ rfl ⟨A8, c8, rfl, own_base o8 hsz⟩ (EG.of_new b8) (R9.new hR b8)
       case s10 =>
         intro w' m' b vp hE hbx hR
         obtain rfl := hbx (by simp)
         rintro _ ⟨rfl, -⟩ Q hQ
         have hsz := hE.size
         obtain ⟨N1, hN1, hr1⟩ := rdrR_use hR.1
         simp only [List.getD_cons_succ, List.getD_cons_zero] at hN1
         go_wp2_with fail
         refine (l20Actions_any g N1 0 w' hr1 (by omega) (by omega) (by omega)).mono ?_
         rintro e w1 ⟨A8, c8, al, hal, rfl, o8, h9, ch8⟩
         go_wp2
         exact hQ _ _ _ rfl ⟨A8, c8, al, hal, rfl, own_base o8 hsz⟩ (EG.of_chg ch8) ⟨⟨N1 + 200, by omega, h9⟩, boxR_chg hR.2 ch8 (by omega) (fun cs => qBk_chg (by omega) ch8 cs)⟩
       case s11 =>
         intro w' m' b vp hE hbx hR
         obtain rfl := hbx (by simp)
         rintro _ ⟨rfl, -⟩ _ ⟨⟨A8, c8, rfl, o8⟩, -⟩ _ ⟨rfl, -⟩ _ ⟨⟨A9, c9, al, hal, rfl, o9⟩, -⟩ Q hQ
         obtain ⟨⟨s0, s1, s2⟩, ⟨u0, u1, u2, u3, u4, u5⟩, u6, u7⟩ := unhide HX9 w' (hE.undrew.chg (Nat.le_refl _))
         have hsz := hE.size
         go_wp2_with fail
         refine (unhide HNX9 A8 c8 w' u6 (own_rd o8) A9 c9 al (own_rd o9) hal).mono ?_
         rintro e w1 ⟨A7, c7, rfl, o7, b7⟩
         have hnl := nextB_len x2 st vw al
         generalize nextB x2 st vw al = nb at *
         generalize nextOk x2 st vw al = ok at *
         go_wp2
         exact hQ _ _ _ rfl ⟨nb, ok, by omega, A7, c7, rfl, own_base o7 hsz⟩ (EG.of_new b7) (R9.new hR b7)
       case s12 =>
         intro w' m' b vp hE hbx hR
         obtain rfl := hbx (by simp)
         rintro _ ⟨⟨nb, ok, hnl, A7, c7, rfl, o7⟩, -⟩ Q hQ
         go_wp2
         exact hQ _ _ _ rfl ⟨nb, ok, hnl, A7, c7, rfl, o7⟩ (EG.refl _ _ _ _) hR
       case s13 =>
         intro w' m' b vp hE hbx hR
         obtain rfl := hbx (by simp)
         rintro _ ⟨⟨nb, ok, hnl, A7, c7, rfl, o7⟩, -⟩ Q hQ
         go_wp2
         exact hQ _ _ _ rfl ⟨nb, hnl, A7, c7, rfl, o7⟩ (EG.refl _ _ _ _) hR
       case s14 =>
         intro w' m' b vp hE hbx hR
         clear hbx
         rintro _ ⟨⟨nb, ok, hnl, A7, c7, rfl, o7⟩, -⟩ Q hQ
         go_wp2
         exact hQ _ _ _ rfl ⟨ok, rfl⟩ (EG.refl _ _ _ _) hR
       case s15 =>
         intro w' m' b vp hE hbx hR
         obtain rfl := hbx (by simp)
         intro Q hQ
         have hsz := hE.size
         go_wp2
         exact hQ _ _ _ rfl (fun h => by cases h) (EG.of_new ((Below.refl _ _).alloc (Nat.le_refl _) _)) ⟨rdrR_alloc hR.1 _, .inl ⟨rfl, .inr ⟨w'.heap.size, rfl, hsz, Blk.new _ _ _⟩⟩⟩
       case s16 =>
         intro w' m' b vp hE hbx hR
         obtain rfl := hbx (by simp)
         rintro _ ⟨⟨nb, hnl, A7, c7, rfl, o7⟩, -⟩ _ ⟨hnu, hvp⟩ Q hQ
         obtain rfl := hvp rfl
         obtain ⟨hr, hBR⟩ := hR
         rcases hBR with ⟨-, h | ⟨gb, rfl, hgb, hk9⟩⟩ | ⟨h, _⟩
         · exact absurd h hnu
         · refine wpList_store_row rfl 32 (.tmp 9) (.tmp 78) rfl gb #[.int .i64 nb.before, .int .i64 nb.height, .int .i64 nb.view, .slice A7 nb.list.length c7, .int .i64 nb.root, .int .i64 nb.eff] rfl rfl 32 #[.int .i64 0, .int .i64 0, .int .i64 0, .slice none 0 0, .int .i64 0, .int .i64 0] hk9 info_bkS rfl (bk6_one _ _ _ _ _ _ _ _) ?_
           go_wp2
           exact hQ undef _ _ rfl trivial (EG.setRow hk9 hgb _) ⟨rdrR_far hr (chg_setRow (S := fun k => k = gb) rfl _) (fun k hk e => by omega), .inr ⟨rfl, gb, _, rfl, hgb, blk_setRow hk9, nb, hnl, A7, c7, rfl, own_EG o7 (EG.setRow hk9 hgb _) ne_ab (by omega)⟩⟩
         · cases h
     intro w9 vp hE hR
     rintro v0 - v1 - v2 - v3 - v4 - v5 - v6 - v7 - v8 - v9 - v10 - v11 - v12 - v13 - v14 ⟨⟨ok, rfl⟩, -⟩ v15 ⟨hnu, hvp⟩ v16 -
     obtain rfl := hvp rfl
     obtain ⟨⟨N9, hN9, hr9⟩, hBR⟩ := hR
     rcases hBR with ⟨h, _⟩ | ⟨-, gb, cs, rfl, hgb, k9, nb, hnl, A7, c7, rfl, o7⟩
     · cases h
     have hc9 := hE.undrew.chg (Nat.le_refl _)
     have kr9 := kr8.chg hc9 (by omega)
     have q9 := q8.trans hc9
     have kb9 := kb8.chg hc9 (by omega)
     have t9 := tO8.chg hc9 (fun k hk e => by have := tO8.rng k hk; omega)
     have hsz9 := hc9.size
     clear hF hE HST9 HNX9 hnu
     change wpList _ _ _ [_] _ _
     simp only [Act.put, List.setIfInBounds_toArray, List.set_cons_succ, List.set_cons_zero]
     cases ok
     · go_wp2
       go_roundw
       case rel => exact ⟨j - 1, by omega, by go_num, ⟨t2, C1, k1, C2, k2, C3, k3, fq, unhide HV2, by omega, kb9, trO_base2 t9 (by omega), unhide HNE8⟩, kr9, hr9.more (by have := unhide HRO hlt; omega), q9⟩
       case measure => simp [intOf]; omega
     go_wp2_with fail
     refine (pick_any g _ 256 w9 hr9 (by omega) (by omega) (by omega)).mono ?_
     rintro e w10 ⟨rv, hrv, rfl, h10, ch10⟩
     have kr10 := kr9.chg ch10 (by omega)
     have q10 := q9.trans ch10
     have kb10 := kb9.chg ch10 (by omega)
     have k10 := k9.chg ch10 (by omega)
     have o10 := own_reader o7 ch10 (by omega)
     have hsz10 := ch10.size
     have hgbl := k10.lt
     have hbxl2 := kb10.lt
     have y0 : w10.cell? ⟨gb, 0, none⟩ = some (.int .i64 nb.before) := k10.cell 0
     have y1 : w10.cell? ⟨gb, 1, none⟩ = some (.int .i64 nb.height) := k10.cell 1
     have y2 : w10.cell? ⟨gb, 2, none⟩ = some (.int .i64 nb.view) := k10.cell 2
     have y3 : w10.cell? ⟨gb, 3, none⟩ = some (.slice A7 nb.list.length c7) := k10.cell 3
     have y4 : w10.cell? ⟨gb, 4, none⟩ = some (.int .i64 nb.root) := k10.cell 4
     have y5 : w10.cell? ⟨gb, 5, none⟩ = some (.int .i64 nb.eff) := k10.cell 5
     have f4 : w10.frozen? ⟨gb, 4, none⟩ = false := k10.frozen 4
     have s0 : w10.cell? ⟨bx, 0, none⟩ = some (.slice C1 t2.base.length k1) := kb10.cell 0
     have s1 : w10.cell? ⟨bx, 1, none⟩ = some (.slice C2 t2.blocks.length k2) := kb10.cell 1
     have s2 : w10.cell? ⟨bx, 2, none⟩ = some (.slice C3 t2.before.length k3) := kb10.cell 2
     have hgx : gb ≠ bx := by omega
     have hxg : bx ≠ gb := by omega
     have ch11 : Chg (fun k => k = gb) w10 (w10.setCell ⟨gb, 4, none⟩ (.int .i64 (rv : Int))) := (Chg.refl (fun k => k = gb) w10).setCell (p := ⟨gb, 4, none⟩) (.inl rfl) _
     have hc11 := chg_more (hc9.trans ch10) ch11 (fun k hk e => by omega)
     have kr11 := kr10.chg ch11 (by omega)
     have q11 := chg_more q10 ch11 (fun k hk e => by omega)
     have kb11 := kb10.chg ch11 (by omega)
     have o11 := own_rd (own_chg o10 ch11 (fun k hk e => by rw [e] at hk; exact own_ne_blk o10 k10 ne_ab hk))
     have h11 := h10.chg ch11 (fun k hk e => by omega)
     have hsz11 := ch11.size
     clear ch11 kr10 q10 kb10 k10 o10 h10 ch10 t9 kb9 k9 kr9 q9 hr9 o7
     go_wp2_with fail
     refine (unhide HPB _ hc11 ⟨nb.before, nb.height, nb.view, nb.list, (rv : Int), nb.eff⟩ A7 c7 o11 hnl).mono ?_
     rintro e w12 ⟨D1, m1, D2, m2, D3, m3, fr, rfl, tP, b12⟩
     have hv3 := pbT_ok ⟨nb.before, nb.height, nb.view, nb.list, (rv : Int), nb.eff⟩ (unhide HV2)
     have hm3 := pbT_more ⟨nb.before, nb.height, nb.view, nb.list, (rv : Int), nb.eff⟩ (unhide HV2)
     generalize pbT t2 _ = t3 at *
     generalize pbOk t2 _ = ok3 at *
     have hrg3 := tP.rng
     have kr12 := kr11.new_ b12
     have q12 := q11.trans (Chg.of_new (S := fun k => k = g) b12)
     have kb12 := kb11.new_ b12
     have h12 := h11.new b12
     have hsz12 := b12.size
     simp only [World.size_setCell] at hsz11 hsz12 hrg3 tP
     go_wp2_with (refine wpList_store_row rfl 69 (.tmp 5) (.tmp 88) rfl bx #[.slice D1 t3.base.length m1, .slice D2 t3.blocks.length m2, .slice D3 t3.before.length m3] rfl rfl 69 #[.slice C1 t2.base.length k1, .slice C2 t2.blocks.length k2, .slice C3 t2.before.length k3] kb12 info_tr rfl (sl3_one _ _ _ _ _ _ _ _ _) ?_)
     go_roundw
     case rel => exact ⟨j - 1, by omega, by go_num, ⟨t3, D1, m1, D2, m2, D3, m3, fr, hv3, by omega, blk_setRow kb12, trO_base2 (trO_setRow2 tP (by omega) _) (by omega), fun k hk e => by have := hrg3 k hk; omega⟩, kr12.chg (chg_setRow (S := fun k => k = bx) rfl _) (by omega), (h12.chg (chg_setRow (S := fun k => k = bx) rfl _) (fun k hk e => by omega)).more (by have := unhide HRO hlt; omega), chg_more q12 (chg_setRow (S := fun k => k = bx) rfl _) (fun k hk e => by omega)⟩
     case measure => simp [intOf]; omega
   · obtain ⟨t, A1, c1, A2, c2, A3, c3, fp, hv, -, kb, tO, hne⟩ := hTA
     obtain ⟨hd1, hd2, hd3, hd4⟩ := treeB_bd hv
     simp only [trA] at kb
     have HV := hide hv
     have HD4 := hide hd4
     have HD3 := hide hd3
     have HNE := hide hne
     have hbn : t.before.length ≤ 14 := by omega
     have hkbn : ∀ k, k < t.blocks.length → k < t.before.length := fun k hk => by omega
     have HKB := hide hkbn
     clear hv hd4 hd3 hne hkbn
     obtain ⟨nb, hnb⟩ : ∃ nb, nb = t.blocks.length := ⟨_, rfl⟩
     rw [← hnb] at hd2
     have HNB := hide hnb
     have hn1 : (1 : Int) ≤ (t.blocks.length : Int) := by omega
     have hn14 : t.blocks.length ≤ 14 := by omega
     clear hnb
     have hj0 : ¬ (0 : Int) < (j : Int) := by omega
     have hj00 : j = 0 := by omega
     have hbxl := kb.lt
     go_wp2_with fail
     refine (odd_any g _ n wr hrd (by omega) hn hn2).mono ?_
     rintro e w2 ⟨b, rfl, hb0, h2, ch2⟩
     replace kb := kb.chg ch2 (by omega)
     replace tO := tO.chg ch2 (fun k hk e => by have := tO.rng k hk; omega)
     replace kr := kr.chg ch2 (by omega)
     have q2 := hchg.trans ch2
     have hsz2 := ch2.size
     clear hchg hrd ch2
     have BD := hide (show TrBd t from ⟨by omega, ⟨by omega, by omega⟩, by omega, unhide HD4⟩)
     cases b
     · have HTT := hide (fun (w'' : World) (hc : Chg (fun k => k ≤ w.heap.size) w2 w'') => (tO.chg hc (fun k hk e => by have := tO.rng k hk; omega)).rd)
       have s0 : w2.cell? ⟨bx, 0, none⟩ = some (.slice A1 t.base.length c1) := (kb).cell 0
       have s1 : w2.cell? ⟨bx, 1, none⟩ = some (.slice A2 t.blocks.length c2) := (kb).cell 1
       have s2 : w2.cell? ⟨bx, 2, none⟩ = some (.slice A3 t.before.length c3) := (kb).cell 2
       go_wp2_with (refine wpList_store_row rfl 69 (.tmp 4) (.tmp 136) rfl w.heap.size #[.slice A1 t.base.length c1, .slice A2 t.blocks.length c2, .slice A3 t.before.length c3] rfl rfl 69 #[.slice none 0 0, .slice none 0 0, .slice none 0 0] kr info_tr rfl (sl3_one _ _ _ _ _ _ _ _ _) ?_)
       refine bodyPost_ret (v := .agg #[.slice A1 t.base.length c1, .slice A2 t.blocks.length c2, .slice A3 t.before.length c3]) (results_cell_row (p := 4) (ty := 69) rfl _ _ w.heap.size 69 #[.slice A1 t.base.length c1, .slice A2 t.blocks.length c2, .slice A3 t.before.length c3] (0, 0) _ rfl (blk_setRow kr) Tryz.underlying69 rfl info_tr) rfl ?_
       first | exact ⟨t, A1, c1, A2, c2, A3, c3, rfl, unhide BD, fun _ => unhide HV, fun w'' hc => unhide HTT w'' (chg_more (chg_setRow (S := fun k => k ≤ w.heap.size) (Nat.le_refl _) _) hc (fun q hq e => Nat.le_of_lt e)), ((h2).chg (chg_setRow (S := fun k => k = w.heap.size) rfl _) (fun k hk e => by omega)).more (by omega), chg_more (q2) (chg_setRow (S := fun k => k = w.heap.size) rfl _) (fun q hq e => by omega)⟩ | exact ⟨t, A1, c1, A2, c2, A3, ⟨c3, rfl⟩, unhide BD, fun _ => unhide HV, fun w'' hc => unhide HTT w'' (chg_more (chg_setRow (S := fun k => k ≤ w.heap.size) (Nat.le_refl _) _) hc (fun q hq e => Nat.le_of_lt e)), ((h2).chg (chg_setRow (S := fun k => k = w.heap.size) rfl _) (fun k hk e => by omega)).more (by omega), chg_more (q2) (chg_setRow (S := fun k => k = w.heap.size) rfl _) (fun q hq e => by omega)⟩
     have HN0 := hide (show n = 0 → False from fun e => by have := hb0 e; cases this)
     clear hb0
     have s1 : w2.cell? ⟨bx, 1, none⟩ = some (.slice A2 t.blocks.length c2) := kb.cell 1
     go_wp2_with fail
     refine (pick_any g _ (t.blocks.length : Int) w2 h2 (by omega) (by omega) (by omega)).mono ?_
     rintro e w3 ⟨k, hk, rfl, h3, ch3⟩
     replace kb := kb.chg ch3 (by omega)
     replace tO := tO.chg ch3 (fun k hk e => by have := tO.rng k hk; omega)
     replace kr := kr.chg ch3 (by omega)
     have q3 := q2.trans ch3
     have hsz3 := ch3.size
     clear q2 ch3 h2 s1
     go_wp2_with fail
     refine (pick_any g _ 4 w3 h3 (by omega) (by omega) (by omega)).mono ?_
     rintro e w4 ⟨v, hv4, rfl, h4, ch4⟩
     replace kb := kb.chg ch4 (by omega)
     replace tO := tO.chg ch4 (fun k hk e => by have := tO.rng k hk; omega)
     replace kr := kr.chg ch4 (by omega)
     have q4 := q3.trans ch4
     have hsz4 := ch4.size
     clear q3 ch4 h3
     have hkl : k < t.blocks.length := by omega
     have i1 : (k : Int) < (t.blocks.length : Int) := by omega
     have hkb := unhide HKB k hkl
     have i2 : (k : Int) < (t.before.length : Int) := by omega
     have hT := tO.rd
     have o1 := tO.o1
     have o2 := tO.o2
     have o3 := tO.o3
     have HRG := hide tO.rng
     have HA12 := hide tO.a12
     have HA13 := hide tO.a13
     have HA23 := hide tO.a23
     have HGE := hide tO.ge
     have hv : v = 0 ∨ v = 1 ∨ v = 2 ∨ v = 3 := by omega
     clear hv4
     rcases hv with rfl | rfl | rfl | rfl
     · obtain ⟨qb, rfl, hqb, hqs, -, u1, -⟩ := tr_height tO hkl ((t.blocks[k]).height + 1)
       have hhb := (blkB_bd (treeB_blk (unhide HV) hkl)).1
       rw [bAt_get t hkl] at hhb
       have HTH := hide (fun (w' : World) (tO' : TrO w' (w.heap.size + 1) t A1 c1 (some ⟨qb, 0, none⟩) c2 A3 c3 fp) => tr_height tO' hkl ((t.blocks[k]).height + 1))
       have BDH := hide (show TrBd ⟨t.base, t.blocks.set k { t.blocks[k] with height := (t.blocks[k]).height + 1 }, t.before⟩ from ⟨by show t.base.length ≤ 100; omega, by show 1 ≤ (t.blocks.set k _).length ∧ _; rw [List.length_set]; omega, by show t.before.length ≤ 100; omega, fun y hy => by
         rcases List.mem_or_eq_of_mem_set hy with h | h
         · exact unhide HD4 y h
         · rw [h]; exact (show (t.blocks[k]).list.length ≤ 10 from unhide HD4 _ (List.getElem_mem hkl))⟩)
       generalize t.blocks[k] = x at *
       have HX := hide (fun (w' : World) (hb : Below w4.heap.size w4 w') => show (w'.cell? ⟨bx, 0, none⟩ = some (.slice A1 t.base.length c1) ∧ w'.cell? ⟨bx, 1, none⟩ = some (.slice (some ⟨qb, 0, none⟩) t.blocks.length c2) ∧ w'.cell? ⟨bx, 2, none⟩ = some (.slice A3 t.before.length c3)) ∧ w'.cell? ⟨qb, k * 6 + 1, none⟩ = some (.int .i64 x.height) from ⟨⟨(kb.new_ hb).cell 0, (kb.new_ hb).cell 1, (kb.new_ hb).cell 2⟩, (hb.cell (p := ⟨qb, k * 6 + 1, none⟩) hqs).trans u1⟩)
       clear hT o2 o3 o1
       have hF : StBL [bV (.pointer (some ⟨bx, 1, none⟩)), bV (.slice (some ⟨qb, 0, none⟩) t.blocks.length c2), bV (.int .i64 (k : Int)), bV (.pointer (some ⟨bx, 1, none⟩)), bV (.slice (some ⟨qb, 0, none⟩) t.blocks.length c2), bV (.int .i64 (k : Int)), bV (.pointer (some ⟨qb, k * 6, none⟩)), bV (.pointer (some ⟨qb, k * 6 + 1, none⟩)), bV (.int .i64 x.height), bV (.int .i64 (x.height + 1))] :=
         ⟨sb_V _, sb_V _, sb_V _, sb_V _, sb_V _, sb_V _, sb_V _, sb_V _, sb_V _, sb_V _, trivial⟩
       go_upto_region 18 with fail
       refine wp_region_loc (by kernel_rfl) [(0, some 108), (1, some 109), (2, some 110), (3, some 111), (4, some 112), (5, some 113), (6, some 114), (7, some 115), (8, some 116), (9, some 117)] [[], [(0, some 108)], [], [], [(3, some 111)], [], [(4, some 112), (5, some 113)], [(6, some 114)], [(7, some 115)], [(8, some 116)]] (by kernel_rfl)
         (locB _) (fun a b => Below a.heap.size a b) noR [0, 0, 0, 0, 0, 0, 0, 0, 0, 0] 0 (by kernel_rfl) (fun _ => Below.refl _ _) (fun _ _ _ => bthen) (locB_st hF _) trivial ?_ ?_
       · refine steps_cons ?s0 ( steps_cons ?s1 ( steps_cons ?s2 ( steps_cons ?s3 ( steps_cons ?s4 ( steps_cons ?s5 ( steps_cons ?s6 ( steps_cons ?s7 ( steps_cons ?s8 ( steps_cons ?s9 steps_nil)))))))))
         case s0 | s2 | s3 | s5 =>
           intro w' m' hE hR
           intro Q hQ
           go_wp2
           exact hQ _ _ _ rfl rfl (Below.refl _ _) trivial
         case s1 | s4 | s8 =>
           intro w' m' hE hR
           rintro _ rfl Q hQ
           obtain ⟨⟨s0, s1, s2⟩, u1⟩ := unhide HX w' (below_undrew hE)
           go_wp2
           exact hQ _ _ _ rfl rfl (Below.refl _ _) trivial
         case s6 =>
           intro w' m' hE hR
           rintro _ rfl _ rfl Q hQ
           go_wp2
           exact hQ _ _ _ rfl rfl (Below.refl _ _) trivial
         case s7 | s9 =>
           intro w' m' hE hR
           rintro _ rfl Q hQ
           go_wp2
           exact hQ _ _ _ rfl rfl (Below.refl _ _) trivial
       intro w9 hE _
       rintro v0 - v1 hv1 v2 hv2 v3 - v4 - v5 - v6 - v7 - v8 - v9 hv9
       obtain rfl : v1 = _ := hv1
       obtain rfl : v2 = _ := hv2
       obtain rfl : v9 = _ := hv9
       change wpList _ _ _ [_, _, _] _ _
       simp only [Act.put, List.setIfInBounds_toArray, List.set_cons_succ, List.set_cons_zero]
       have b9 := below_undrew hE
       clear hE hF
       have t9 := tO.new b9
       have hsz9 := b9.size
       obtain ⟨qb', hqe, -, -, f9, u9, HTR⟩ := unhide HTH w9 t9
       injection hqe with hqe
       injection hqe with hqe
       subst hqe
       have HTRH := hide HTR
       clear HTR HTH
       have chW : Chg (fun q => q = qb) w9 (w9.setCell ⟨qb, k * 6 + 1, none⟩ (.int .i64 (x.height + 1))) := (Chg.refl (fun q => q = qb) w9).setCell (p := ⟨qb, k * 6 + 1, none⟩) (.inl rfl) _
       have hqx : qb ≠ bx := unhide HNE qb (.inr (.inl (by obtain ⟨vs, fs, -, hown, hfp, -⟩ := tO.o2; rw [hfp]; exact List.mem_append_left _ (by simp [blk]))))
       have kbW := (kb.new_ b9).chg chW (fun e => hqx e.symm)
       have krW := (kr.new_ b9).chg chW (by omega)
       have hW := (h4.new b9).chg chW (fun k hk e => by omega)
       have qW := chg_more (q4.trans (Chg.of_new (S := fun k => k = g) b9)) chW (fun q hq e => by omega)
       have HTT := hide (fun (w'' : World) (hc : Chg (fun k => k ≤ w.heap.size) (w9.setCell ⟨qb, k * 6 + 1, none⟩ (.int .i64 (x.height + 1))) w'') => unhide HTRH _ w'' hc (fun q hq e => by have := unhide HRG q hq; omega))
       clear chW t9 kb kr h4 q4 b9
       have s0 : (w9.setCell ⟨qb, k * 6 + 1, none⟩ (.int .i64 (x.height + 1))).cell? ⟨bx, 0, none⟩ = some (.slice A1 t.base.length c1) := (kbW).cell 0
       have s1 : (w9.setCell ⟨qb, k * 6 + 1, none⟩ (.int .i64 (x.height + 1))).cell? ⟨bx, 1, none⟩ = some (.slice (some ⟨qb, 0, none⟩) t.blocks.length c2) := (kbW).cell 1
       have s2 : (w9.setCell ⟨qb, k * 6 + 1, none⟩ (.int .i64 (x.height + 1))).cell? ⟨bx, 2, none⟩ = some (.slice A3 t.before.length c3) := (kbW).cell 2
       go_wp2_with (refine wpList_store_row rfl 69 (.tmp 4) (.tmp 136) rfl w.heap.size #[.slice A1 t.base.length c1, .slice (some ⟨qb, 0, none⟩) t.blocks.length c2, .slice A3 t.before.length c3] rfl rfl 69 #[.slice none 0 0, .slice none 0 0, .slice none 0 0] krW info_tr rfl (sl3_one _ _ _ _ _ _ _ _ _) ?_)
       refine bodyPost_ret (v := .agg #[.slice A1 t.base.length c1, .slice (some ⟨qb, 0, none⟩) t.blocks.length c2, .slice A3 t.before.length c3]) (results_cell_row (p := 4) (ty := 69) rfl _ _ w.heap.size 69 #[.slice A1 t.base.length c1, .slice (some ⟨qb, 0, none⟩) t.blocks.length c2, .slice A3 t.before.length c3] (0, 0) _ rfl (blk_setRow krW) Tryz.underlying69 rfl info_tr) rfl ?_
       first | exact ⟨⟨t.base, t.blocks.set k { x with height := x.height + 1 }, t.before⟩, A1, c1, (some ⟨qb, 0, none⟩), c2, A3, c3, by simp [trA], unhide BDH, fun e => (unhide HN0 e).elim, fun w'' hc => unhide HTT w'' (chg_more (chg_setRow (S := fun k => k ≤ w.heap.size) (Nat.le_refl _) _) hc (fun q hq e => Nat.le_of_lt e)), ((hW).chg (chg_setRow (S := fun k => k = w.heap.size) rfl _) (fun k hk e => by omega)).more (by omega), chg_more (qW) (chg_setRow (S := fun k => k = w.heap.size) rfl _) (fun q hq e => by omega)⟩ | exact ⟨⟨t.base, t.blocks.set k { x with height := x.height + 1 }, t.before⟩, A1, c1, (some ⟨qb, 0, none⟩), c2, A3, ⟨c3, by simp [trA]⟩, unhide BDH, fun e => (unhide HN0 e).elim, fun w'' hc => unhide HTT w'' (chg_more (chg_setRow (S := fun k => k ≤ w.heap.size) (Nat.le_refl _) _) hc (fun q hq e => Nat.le_of_lt e)), ((hW).chg (chg_setRow (S := fun k => k = w.heap.size) rfl _) (fun k hk e => by omega)).more (by omega), chg_more (qW) (chg_setRow (S := fun k => k = w.heap.size) rfl _) (fun q hq e => by omega)⟩
     · obtain ⟨q3, rfl, hqb, hqs, -, -, -⟩ := tr_before tO hkb 0
       have HX := hide (fun (w' : World) (hc : Chg (fun k => k = g) w4 w') => show (w'.cell? ⟨bx, 0, none⟩ = some (.slice A1 t.base.length c1) ∧ w'.cell? ⟨bx, 1, none⟩ = some (.slice A2 t.blocks.length c2) ∧ w'.cell? ⟨bx, 2, none⟩ = some (.slice (some ⟨q3, 0, none⟩) t.before.length c3)) from ⟨(kb.chg hc (by omega)).cell 0, (kb.chg hc (by omega)).cell 1, (kb.chg hc (by omega)).cell 2⟩)
       clear hT o2 o3 o1
       have hF : StL g [kV (.pointer (some ⟨bx, 2, none⟩)), kV (.slice (some ⟨q3, 0, none⟩) t.before.length c3), kV (.int .i64 (k : Int)), kV (.pointer (some ⟨g, 0, none⟩)), kInt 0 4, kInt (-1) 3] := (stl_cons (st_V _) (stl_cons (st_V _) (stl_cons (st_V _) (stl_cons (st_V _) (stl_cons (st_Int _ _) (stl_cons (st_Int _ _) stl_nil))))))
       go_upto_region 20 with fail
       refine wp_region_loc (by kernel_rfl) [(0, some 122), (1, some 123), (2, some 124), (3, some 125), (4, some 126), (5, some 127)] [[], [(0, some 122)], [], [], [(3, some 125)], [(4, some 126)]] (by kernel_rfl)
         (locF _) (Chg fun k => k = g) (rdrR g (N + 61 + rounds j + 1 + 1 + 1 + 1)) [0, 0, 0, 0, 1, 0] 1 (by kernel_rfl) (Chg.refl _) (fun _ _ _ => Chg.trans) (fun i v a b h1 h2 hc => locF_st hF i v a b _ h1 h2 hc) ⟨_, by omega, (h4).drew⟩ ?_ ?_
       · refine steps_cons ?s0 ( steps_cons ?s1 ( steps_cons ?s2 ( steps_cons ?s3 ( steps_cons ?s4 ( steps_cons ?s5 steps_nil)))))
         case s0 | s2 | s3 =>
           intro w' m' hE hR
           intro Q hQ
           go_wp2
           exact hQ _ _ _ rfl rfl (Chg.refl _ _) hR
         case s1 =>
           intro w' m' hE hR
           rintro _ rfl Q hQ
           obtain ⟨s0, s1, s2⟩ := unhide HX w' (chg_undrew hE)
           go_wp2
           exact hQ _ _ _ rfl rfl (Chg.refl _ _) hR
         case s4 =>
           intro w' m' hE hR
           rintro _ rfl Q hQ
           obtain ⟨N1, hN1, hr1⟩ := rdrR_use hR
           simp only [List.getD_cons_succ, List.getD_cons_zero] at hN1
           go_wp2_with fail
           refine (pick_any g N1 5 _ hr1 (by omega) (by omega) (by omega)).mono ?_
           rintro e w2 ⟨x, hx, rfl, h2, ch2⟩
           go_wp2
           exact hQ _ _ _ rfl ⟨_, rfl, by omega, by omega⟩ ch2 ⟨N1 + 1, by omega, h2⟩
         case s5 =>
           intro w' m' hE hR
           rintro _ ⟨x1, rfl, l1, h1⟩ Q hQ
           go_wp2
           exact hQ _ _ _ rfl ⟨_, rfl, by omega, by omega⟩ (Chg.refl _ _) hR
       intro w9 hE hR
       rintro v0 - v1 hv1 v2 hv2 v3 - v4 - _ ⟨z, rfl, l5, h5⟩
       obtain rfl : v1 = _ := hv1
       obtain rfl : v2 = _ := hv2
       obtain ⟨N9, hN9, h9⟩ := hR
       have c9 := chg_undrew hE
       clear hE hF
       change wpList _ _ _ [_, _] _ _
       simp only [Act.put, List.setIfInBounds_toArray, List.set_cons_succ, List.set_cons_zero]
       have t9 := tO.chg c9 (fun k hk e => by have := unhide HRG k hk; omega)
       have hsz9 := c9.size
       obtain ⟨qb', hqe, -, -, f9, ⟨u, u9⟩, HTR⟩ := tr_before t9 hkb z
       injection hqe with hqe
       injection hqe with hqe
       subst hqe
       have HTRH := hide HTR
       clear HTR
       have BDH := hide (show TrBd ⟨t.base, t.blocks, t.before.set k z⟩ from ⟨by show t.base.length ≤ 100; omega, by show 1 ≤ t.blocks.length ∧ _; exact ⟨by omega, hn14⟩, by show (t.before.set k z).length ≤ 100; rw [List.length_set]; exact Nat.le_trans hbn (by omega), unhide HD4⟩)
       have chW : Chg (fun q => q = q3) w9 (w9.setCell ⟨q3, k, none⟩ (.int .i64 z)) := (Chg.refl (fun q => q = q3) w9).setCell (p := ⟨q3, k, none⟩) (.inl rfl) _
       have hqx : q3 ≠ bx := unhide HNE q3 (.inr (.inr rfl))
       have kbW := (kb.chg c9 (by omega)).chg chW (fun e => hqx e.symm)
       have krW := (kr.chg c9 (by omega)).chg chW (by omega)
       have hW := h9.chg chW (fun k hk e => by omega)
       have qW := chg_more (q4.trans c9) chW (fun q hq e => by omega)
       have HTT := hide (fun (w'' : World) (hc : Chg (fun k => k ≤ w.heap.size) (w9.setCell ⟨q3, k, none⟩ (.int .i64 z)) w'') => unhide HTRH _ w'' hc (fun q hq e => by have := unhide HRG q hq; omega))
       clear chW t9 kb kr h4 q4 c9 h9
       have s0 : (w9.setCell ⟨q3, k, none⟩ (.int .i64 z)).cell? ⟨bx, 0, none⟩ = some (.slice A1 t.base.length c1) := (kbW).cell 0
       have s1 : (w9.setCell ⟨q3, k, none⟩ (.int .i64 z)).cell? ⟨bx, 1, none⟩ = some (.slice A2 t.blocks.length c2) := (kbW).cell 1
       have s2 : (w9.setCell ⟨q3, k, none⟩ (.int .i64 z)).cell? ⟨bx, 2, none⟩ = some (.slice (some ⟨q3, 0, none⟩) t.before.length c3) := (kbW).cell 2
       go_wp2_with (refine wpList_store_row rfl 69 (.tmp 4) (.tmp 136) rfl w.heap.size #[.slice A1 t.base.length c1, .slice A2 t.blocks.length c2, .slice (some ⟨q3, 0, none⟩) t.before.length c3] rfl rfl 69 #[.slice none 0 0, .slice none 0 0, .slice none 0 0] krW info_tr rfl (sl3_one _ _ _ _ _ _ _ _ _) ?_)
       refine bodyPost_ret (v := .agg #[.slice A1 t.base.length c1, .slice A2 t.blocks.length c2, .slice (some ⟨q3, 0, none⟩) t.before.length c3]) (results_cell_row (p := 4) (ty := 69) rfl _ _ w.heap.size 69 #[.slice A1 t.base.length c1, .slice A2 t.blocks.length c2, .slice (some ⟨q3, 0, none⟩) t.before.length c3] (0, 0) _ rfl (blk_setRow krW) Tryz.underlying69 rfl info_tr) rfl ?_
       first | exact ⟨⟨t.base, t.blocks, t.before.set k z⟩, A1, c1, A2, c2, (some ⟨q3, 0, none⟩), c3, by simp [trA], unhide BDH, fun e => (unhide HN0 e).elim, fun w'' hc => unhide HTT w'' (chg_more (chg_setRow (S := fun k => k ≤ w.heap.size) (Nat.le_refl _) _) hc (fun q hq e => Nat.le_of_lt e)), ((hW).chg (chg_setRow (S := fun k => k = w.heap.size) rfl _) (fun k hk e => by omega)).more (by omega), chg_more (qW) (chg_setRow (S := fun k => k = w.heap.size) rfl _) (fun q hq e => by omega)⟩ | exact ⟨⟨t.base, t.blocks, t.before.set k z⟩, A1, c1, A2, c2, (some ⟨q3, 0, none⟩), ⟨c3, by simp [trA]⟩, unhide BDH, fun e => (unhide HN0 e).elim, fun w'' hc => unhide HTT w'' (chg_more (chg_setRow (S := fun k => k ≤ w.heap.size) (Nat.le_refl _) _) hc (fun q hq e => Nat.le_of_lt e)), ((hW).chg (chg_setRow (S := fun k => k = w.heap.size) rfl _) (fun k hk e => by omega)).more (by omega), chg_more (qW) (chg_setRow (S := fun k => k = w.heap.size) rfl _) (fun q hq e => by omega)⟩
     · have s0 : w4.cell? ⟨bx, 0, none⟩ = some (.slice A1 t.base.length c1) := kb.cell 0
       have s1 : w4.cell? ⟨bx, 1, none⟩ = some (.slice A2 t.blocks.length c2) := kb.cell 1
       have s2 : w4.cell? ⟨bx, 2, none⟩ = some (.slice A3 t.before.length c3) := kb.cell 2
       go_wp2_with (first | (at_builtin; refine wpList_app rfl (.tmp 132) (.tmp 133) 26 rfl el_int rfl (own_alloc o3 _) rfl (rd_lit w4 [.int .i64 0] _) rfl (one_ints [0]) (by simp only [maxLen]; omega) (by omega) (by simp; omega) ?_; intro A7 c7 w7 o7 ch7 d7 _; have kb7 := (kb.alloc _).chg ch7 (fun e => unhide HNE bx (.inr (.inr e)) rfl); have y0 : w7.cell? ⟨bx, 0, none⟩ = some (.slice A1 t.base.length c1) := kb7.cell 0; have y1 : w7.cell? ⟨bx, 1, none⟩ = some (.slice A2 t.blocks.length c2) := kb7.cell 1; have y2 : w7.cell? ⟨bx, 2, none⟩ = some (.slice A3 t.before.length c3) := kb7.cell 2; have fy : w7.frozen? ⟨bx, 2, none⟩ = false := kb7.frozen 2; have kr7 := (kr.alloc _).chg ch7 (fun e => by have := unhide HRG _ (.inr (.inr e)); omega); have chW : Chg (fun q => q = bx) w7 (w7.setCell ⟨bx, 2, none⟩ (.slice A7 (t.before.length + 1) c7)) := (Chg.refl (fun q => q = bx) w7).setCell (p := ⟨bx, 2, none⟩) (.inl rfl) _; have krW := kr7.chg chW (by omega)) | (refine wpList_store_row rfl 69 (.tmp 4) (.tmp 136) rfl w.heap.size #[.slice A1 t.base.length c1, .slice A2 t.blocks.length c2, .slice A7 (t.before.length + 1) c7] rfl rfl 69 #[.slice none 0 0, .slice none 0 0, .slice none 0 0] krW info_tr rfl (sl3_one _ _ _ _ _ _ _ _ _) ?_))
       refine bodyPost_ret (v := .agg #[.slice A1 t.base.length c1, .slice A2 t.blocks.length c2, .slice A7 (t.before.length + 1) c7]) (results_cell_row (p := 4) (ty := 69) rfl _ _ w.heap.size 69 #[.slice A1 t.base.length c1, .slice A2 t.blocks.length c2, .slice A7 (t.before.length + 1) c7] (0, 0) _ rfl (blk_setRow krW) Tryz.underlying69 rfl info_tr) rfl ?_
       have hA7 : ∀ q, A7 = some ⟨q, 0, none⟩ → w.heap.size < q ∧ q ≠ bx := fun q hq => by
         rcases d7 with rfl | ⟨rfl, _⟩
         · have h5 := unhide HRG q (.inr (.inr hq)); exact ⟨by omega, unhide HNE q (.inr (.inr hq))⟩
         · injection hq with hq; injection hq with hq; simp at hq; exact ⟨by omega, by omega⟩
       have hsz7 := ch7.size
       have hW := ((h4.alloc _).chg ch7 (fun q hq e => by have := unhide HRG q (.inr (.inr e)); omega)).chg chW (fun q hq e => by omega)
       have qW := chg_more (chg_more (q4.alloc _) ch7 (fun q hq e => by have := unhide HRG q (.inr (.inr e)); omega)) chW (fun q hq e => by omega)
       have hS3 : ∀ q, TrS A1 A3 fp q → ¬ (q = bx ∨ q ≤ w.heap.size) := fun q hq e => by
         have h5 := unhide HRG q hq
         rcases e with e | e
         · exact unhide HNE q hq e
         · omega
       have o7' : w7.ownsRow (w.heap.size + 1) 3 1 (.slice A7 (t.before.length + 1) c7) (t.before.length + 1) ((t.before ++ [0]).map (.int .i64)) := by simpa [encE] using o7
       have HTT := hide (fun (w'' : World) (hc : Chg (fun q => q ≤ w.heap.size) (w7.setCell ⟨bx, 2, none⟩ (.slice A7 (t.before.length + 1) c7)) w'') => show TrR w'' ⟨t.base, t.blocks, t.before ++ [0]⟩ A1 A2 A7 from tr_more3 tO ch7 o7' (fun q => q = bx ∨ q ≤ w.heap.size) w'' ((chW.mono (T := fun q => q = bx ∨ q ≤ w.heap.size) fun q _ e => .inl e).trans (hc.mono fun q _ e => .inr e)) hS3 (fun q hq e => by have := hA7 q hq; omega))
       have BDH := hide (show TrBd ⟨t.base, t.blocks, t.before ++ [0]⟩ from ⟨by show t.base.length ≤ 100; omega, by show 1 ≤ t.blocks.length ∧ _; exact ⟨by omega, hn14⟩, by show (t.before ++ [0]).length ≤ 100; rw [List.length_append]; exact Nat.le_trans (Nat.add_le_add_right hbn _) (by simp), unhide HD4⟩)
       first | exact ⟨⟨t.base, t.blocks, t.before ++ [0]⟩, A1, c1, A2, c2, A7, c7, by simp [trA], unhide BDH, fun e => (unhide HN0 e).elim, fun w'' hc => unhide HTT w'' (chg_more (chg_setRow (S := fun k => k ≤ w.heap.size) (Nat.le_refl _) _) hc (fun q hq e => Nat.le_of_lt e)), ((hW).chg (chg_setRow (S := fun k => k = w.heap.size) rfl _) (fun k hk e => by omega)).more (by omega), chg_more (qW) (chg_setRow (S := fun k => k = w.heap.size) rfl _) (fun q hq e => by omega)⟩ | exact ⟨⟨t.base, t.blocks, t.before ++ [0]⟩, A1, c1, A2, c2, A7, ⟨c7, by simp [trA]⟩, unhide BDH, fun e => (unhide HN0 e).elim, fun w'' hc => unhide HTT w'' (chg_more (chg_setRow (S := fun k => k ≤ w.heap.size) (Nat.le_refl _) _) hc (fun q hq e => Nat.le_of_lt e)), ((hW).chg (chg_setRow (S := fun k => k = w.heap.size) rfl _) (fun k hk e => by omega)).more (by omega), chg_more (qW) (chg_setRow (S := fun k => k = w.heap.size) rfl _) (fun q hq e => by omega)⟩
     · have s0 : w4.cell? ⟨bx, 0, none⟩ = some (.slice A1 t.base.length c1) := kb.cell 0
       have s1 : w4.cell? ⟨bx, 1, none⟩ = some (.slice A2 t.blocks.length c2) := kb.cell 1
       have s2 : w4.cell? ⟨bx, 2, none⟩ = some (.slice A3 t.before.length c3) := kb.cell 2
       go_wp2_with (first | (at_builtin; refine wpList_app rfl (.tmp 101) (.tmp 103) 34 rfl el_ent rfl (own_alloc o1 _) rfl (rd_lit w4 [.int .i64 32, .int .i64 1] _) rfl (one_ents [⟨32, 1⟩]) (by simp only [maxLen]; omega) (by omega) (by simp; omega) ?_; intro A7 c7 w7 o7 ch7 d7 _; have kb7 := (kb.alloc _).chg ch7 (fun e => unhide HNE bx (.inl e) rfl); have y0 : w7.cell? ⟨bx, 0, none⟩ = some (.slice A1 t.base.length c1) := kb7.cell 0; have y1 : w7.cell? ⟨bx, 1, none⟩ = some (.slice A2 t.blocks.length c2) := kb7.cell 1; have y2 : w7.cell? ⟨bx, 2, none⟩ = some (.slice A3 t.before.length c3) := kb7.cell 2; have fy : w7.frozen? ⟨bx, 0, none⟩ = false := kb7.frozen 0; have kr7 := (kr.alloc _).chg ch7 (fun e => by have := unhide HRG _ (.inl e); omega); have chW : Chg (fun q => q = bx) w7 (w7.setCell ⟨bx, 0, none⟩ (.slice A7 (t.base.length + 1) c7)) := (Chg.refl (fun q => q = bx) w7).setCell (p := ⟨bx, 0, none⟩) (.inl rfl) _; have krW := kr7.chg chW (by omega)) | (refine wpList_store_row rfl 69 (.tmp 4) (.tmp 136) rfl w.heap.size #[.slice A7 (t.base.length + 1) c7, .slice A2 t.blocks.length c2, .slice A3 t.before.length c3] rfl rfl 69 #[.slice none 0 0, .slice none 0 0, .slice none 0 0] krW info_tr rfl (sl3_one _ _ _ _ _ _ _ _ _) ?_))
       refine bodyPost_ret (v := .agg #[.slice A7 (t.base.length + 1) c7, .slice A2 t.blocks.length c2, .slice A3 t.before.length c3]) (results_cell_row (p := 4) (ty := 69) rfl _ _ w.heap.size 69 #[.slice A7 (t.base.length + 1) c7, .slice A2 t.blocks.length c2, .slice A3 t.before.length c3] (0, 0) _ rfl (blk_setRow krW) Tryz.underlying69 rfl info_tr) rfl ?_
       have hA7 : ∀ q, A7 = some ⟨q, 0, none⟩ → w.heap.size < q ∧ q ≠ bx := fun q hq => by
         rcases d7 with rfl | ⟨rfl, _⟩
         · have h5 := unhide HRG q (.inl hq); exact ⟨by omega, unhide HNE q (.inl hq)⟩
         · injection hq with hq; injection hq with hq; simp at hq; exact ⟨by omega, by omega⟩
       have hsz7 := ch7.size
       have hW := ((h4.alloc _).chg ch7 (fun q hq e => by have := unhide HRG q (.inl e); omega)).chg chW (fun q hq e => by omega)
       have qW := chg_more (chg_more (q4.alloc _) ch7 (fun q hq e => by have := unhide HRG q (.inl e); omega)) chW (fun q hq e => by omega)
       have hS3 : ∀ q, TrS A1 A3 fp q → ¬ (q = bx ∨ q ≤ w.heap.size) := fun q hq e => by
         have h5 := unhide HRG q hq
         rcases e with e | e
         · exact unhide HNE q hq e
         · omega
       have o7' : w7.ownsRow (w.heap.size + 1) 79 2 (.slice A7 (t.base.length + 1) c7) (t.base.length + 1) ((t.base ++ [(⟨32, 1⟩ : Ent)]).flatMap encE) := by simpa [encE] using o7
       have HTT := hide (fun (w'' : World) (hc : Chg (fun q => q ≤ w.heap.size) (w7.setCell ⟨bx, 0, none⟩ (.slice A7 (t.base.length + 1) c7)) w'') => show TrR w'' ⟨t.base ++ [(⟨32, 1⟩ : Ent)], t.blocks, t.before⟩ A7 A2 A3 from tr_more1 tO ch7 o7' (fun q => q = bx ∨ q ≤ w.heap.size) w'' ((chW.mono (T := fun q => q = bx ∨ q ≤ w.heap.size) fun q _ e => .inl e).trans (hc.mono fun q _ e => .inr e)) hS3 (fun q hq e => by have := hA7 q hq; omega))
       have BDH := hide (show TrBd ⟨t.base ++ [(⟨32, 1⟩ : Ent)], t.blocks, t.before⟩ from ⟨by show (t.base ++ [(⟨32, 1⟩ : Ent)]).length ≤ 100; rw [List.length_append]; exact Nat.le_trans (Nat.add_le_add_right hd1 _) (by simp), by show 1 ≤ t.blocks.length ∧ _; exact ⟨by omega, hn14⟩, by show t.before.length ≤ 100; omega, unhide HD4⟩)
       first | exact ⟨⟨t.base ++ [(⟨32, 1⟩ : Ent)], t.blocks, t.before⟩, A7, c7, A2, c2, A3, c3, by simp [trA], unhide BDH, fun e => (unhide HN0 e).elim, fun w'' hc => unhide HTT w'' (chg_more (chg_setRow (S := fun k => k ≤ w.heap.size) (Nat.le_refl _) _) hc (fun q hq e => Nat.le_of_lt e)), ((hW).chg (chg_setRow (S := fun k => k = w.heap.size) rfl _) (fun k hk e => by omega)).more (by omega), chg_more (qW) (chg_setRow (S := fun k => k = w.heap.size) rfl _) (fun q hq e => by omega)⟩ | exact ⟨⟨t.base ++ [(⟨32, 1⟩ : Ent)], t.blocks, t.before⟩, A7, c7, A2, c2, A3, ⟨c3, by simp [trA]⟩, unhide BDH, fun e => (unhide HN0 e).elim, fun w'' hc => unhide HTT w'' (chg_more (chg_setRow (S := fun k => k ≤ w.heap.size) (Nat.le_refl _) _) hc (fun q hq e => Nat.le_of_lt e)), ((hW).chg (chg_setRow (S := fun k => k = w.heap.size) rfl _) (fun k hk e => by omega)).more (by omega), chg_more (qW) (chg_setRow (S := fun k => k = w.heap.size) rfl _) (fun q hq e => by omega)⟩
end Go.Proofs.YtihlhejencninaaGreat
