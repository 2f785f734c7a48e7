/- Blocks, answers, effects as data. Effect by value, in the laws: to, sz, eq. Printed by gen_val.py. Slices of effects, in the laws: to, eq, sz, mark. Slices of effects, in the laws: mark, held. Effects and stores: ApplyEffect, EffectsStore of impl and spec. Rows of things that hold memory of their own, grown one by one; changes that touch variables of one type alone. No program is in sight here. Facts that last under changes of one kind; a variable that is laid and stored into. No program is in sight here. -/
import Derived.Test.YtihlhejencninaaGreatGact
import Derived.Test.YtihlhejencninaaGreatGmem
import Derived.Test.YtihlhejencninaaGreatGint
import Derived.Laws.Rows
import Derived.Test.YtihlhejencninaaGreatGval
import Derived.StillTailTactics
import Derived.Test.YtihlhejencninaaGreatGloc
namespace Go.Proofs.YtihlhejencninaaGreat
open Go.RowKit
set_option linter.unusedVariables false
set_option linter.unusedSimpArgs false

structure Bk where
 before : Int
 height : Int
 view : Int
 list : List Act
 root : Int
 eff : Int
deriving DecidableEq
structure Ans where
 key : Int
 value : Int
 proof : List Int
deriving DecidableEq
structure Eff where
 done : Bool
 reads : List Ent
 writes : List Ent
deriving DecidableEq
theorem Blk.drewN {w : World} {g : Nat} {t : TypeId} {cs : Array Value} (h : Blk w g t cs) (n : Nat) : Blk (w.drewN n) g t cs := h
end Go.Proofs.YtihlhejencninaaGreat
namespace Go.Proofs.YtihlhejencninaaGreat
open Go.RowKit
set_option linter.unusedVariables false
set_option linter.unusedSimpArgs false

theorem info_valEffect : (Tryz.prog.info? 107).map (·.size) = some 3 := by kernel_rfl
end Go.Proofs.YtihlhejencninaaGreat
namespace Go.Proofs.YtihlhejencninaaGreat
open Go.RowKit
set_option linter.unusedVariables false
set_option linter.unusedSimpArgs false

def effV (x : Eff) (A1 : Option Addr) (c1 : Nat) (A2 : Option Addr) (c2 : Nat) : List Value := [.bool x.done, .slice A1 x.reads.length c1, .slice A2 x.writes.length c2]
/-- an effect in three cells -/
def effR : Rel Eff := fun P x w cs => ∃ A1 c1 A2 c2, cs = effV x A1 c1 A2 c2 ∧ (x.reads.length ≤ c1 ∧ c1 ≤ maxLen) ∧ (x.writes.length ≤ c2 ∧ c2 ≤ maxLen) ∧ RdP P w A1 (x.reads.flatMap encE) ∧ RdP P w A2 (x.writes.flatMap encE)
theorem eff_good : Good effR 3 :=
 ⟨fun ⟨_, _, _, _, h, _⟩ => by rw [h]; rfl, fun ⟨A1, c1, A2, c2, h0, h1, h2, h3, h4⟩ hPQ => ⟨A1, c1, A2, c2, h0, h1, h2, h3.mono hPQ, h4.mono hPQ⟩, fun ⟨A1, c1, A2, c2, h0, h1, h2, h3, h4⟩ hk => ⟨A1, c1, A2, c2, h0, h1, h2, h3.keep hk, h4.keep hk⟩⟩
def effO : ORel Eff := fun x w cs fp => ∃ A1 c1 A2 c2, cs = effV x A1 c1 A2 c2 ∧ w.ownsRow 0 79 2 (.slice A1 x.reads.length c1) x.reads.length (x.reads.flatMap encE) ∧ w.ownsRow 0 79 2 (.slice A2 x.writes.length c2) x.writes.length (x.writes.flatMap encE) ∧ fp = blk A1 ++ blk A2
theorem effO_good : OGood effO effR :=
 ⟨fun ⟨A1, c1, A2, c2, h0, h1, h2, h3⟩ => ⟨A1, c1, A2, c2, h0, own_cap h1, own_cap h2, (own_rdP h1).mono fun k hk _ => by rw [h3]; exact List.mem_append_left _ (mem_blk hk.2), (own_rdP h2).mono fun k hk _ => by rw [h3]; exact List.mem_append_right _ (mem_blk hk.2)⟩,
  fun ⟨A1, c1, A2, c2, h0, h1, h2, h3⟩ hk => ⟨A1, c1, A2, c2, h0, own_keep h1 fun g hA hg => hk g (by rw [h3]; exact List.mem_append_left _ (mem_blk hA)) hg, own_keep h2 fun g hA hg => hk g (by rw [h3]; exact List.mem_append_right _ (mem_blk hA)) hg, h3⟩,
  fun ⟨A1, c1, A2, c2, h0, h1, h2, h3⟩ k hk => by
   rw [h3] at hk
   rcases List.mem_append.1 hk with hk | hk
   · exact (blk_own h1 hk).2.2
   · exact (blk_own h2 hk).2.2⟩
theorem RdD.eff {P : Nat → Prop} {w : World} {A : Option Addr} {xs : List Eff} (h : RdD effR P w A xs) {k : Nat} (hk : k < xs.length) :
   ∃ b off A1 c1 A2 c2, A = some ⟨b, off, none⟩ ∧ P b ∧ b < w.heap.size ∧ w.cell? ⟨b, off + k * 3, none⟩ = some (.bool xs[k].done) ∧ w.cell? ⟨b, off + k * 3 + 1, none⟩ = some (.slice A1 xs[k].reads.length c1) ∧ w.cell? ⟨b, off + k * 3 + 2, none⟩ = some (.slice A2 xs[k].writes.length c2) ∧
     (xs[k].reads.length ≤ c1 ∧ c1 ≤ maxLen) ∧ (xs[k].writes.length ≤ c2 ∧ c2 ≤ maxLen) ∧ RdP P w A1 (xs[k].reads.flatMap encE) ∧ RdP P w A2 (xs[k].writes.flatMap encE) := by
 obtain ⟨b, off, cs, hA, hp, hb, ⟨A1, c1, A2, c2, rfl, h1, h2, h3, h4⟩, hc⟩ := h.get eff_good (by omega) hk
 exact ⟨b, off, A1, c1, A2, c2, hA, hp, hb, hc 0 _ rfl, hc 1 _ rfl, hc 2 _ rfl, h1, h2, h3, h4⟩
theorem info_eff : (Tryz.prog.info? 107).map (fun i => (i.zero, i.size, i.bytes)) = some (some (.agg #[.bool false, .slice none 0 0, .slice none 0 0]), 3, 56) := by kernel_rfl
theorem el_eff : El Tryz.prog 57 107 3 56 := El.mk_ Tryz.underlying57 info_eff rfl (by omega)
/-- cells that make lays, as things of s cells -/
theorem zeroes_flat (z : List Value) (s n : Nat) (hz : z.length = s) (hs : 0 < s) : madeCells z.toArray (n * s) = (List.replicate n z).flatten.toArray := by
 have hall : ∀ v ∈ List.replicate n z, v.length = s := fun v hv => by rw [List.eq_of_mem_replicate hv, hz]
 have hfl : (List.replicate n z).flatten.length = n * s := by rw [List.length_flatten]; simp [hz]
 apply Array.ext
 · rw [size_madeCells, List.size_toArray, hfl]
 · intro i h1 h2
   have hi : i < n * s := by rw [size_madeCells] at h1; exact h1
   have hq : i / s < n := Nat.div_lt_of_lt_mul (by rw [Nat.mul_comm]; exact hi)
   have hm := Nat.mod_lt i hs
   have key : ∀ (m q r : Nat), q < m → r < s → (List.replicate m z).flatten[q * s + r]? = z[r]? := by
     intro m
     induction m with
     | zero => intro q r h; omega
     | succ m ih =>
       intro q r h hr
       rw [List.replicate_succ, List.flatten_cons]
       cases q with
       | zero => rw [Nat.zero_mul, Nat.zero_add, List.getElem?_append_left (by omega)]
       | succ q =>
         have e : (q + 1) * s + r = s + (q * s + r) := by rw [Nat.add_mul]; omega
         rw [e, List.getElem?_append_right (by omega), hz, Nat.add_sub_cancel_left]
         exact ih q r (by omega) hr
   have h3 := key n (i / s) (i % s) hq hm
   rw [Nat.div_add_mod' i s] at h3
   have h4 : z[i % s]? = some (z[i % s]'(by omega)) := List.getElem?_eq_getElem _
   rw [h4] at h3
   have h5 := (List.getElem?_eq_some_iff.1 h3).2
   refine Eq.trans ?_ ((List.getElem_toArray h2).trans h5).symm
   simp only [madeCells, Array.getElem_map, Array.getElem_range, List.size_toArray, hz]
   simp [hm, hz]
end Go.Proofs.YtihlhejencninaaGreat
namespace Go.Proofs.YtihlhejencninaaGreat
open Go.RowKit
set_option linter.unusedVariables false
set_option linter.unusedSimpArgs false

theorem set_flatten (s : Nat) (vs : List (List Value)) (hv : ∀ v ∈ vs, v.length = s) (k : Nat) (hk : k < vs.length) (j : Nat) (hj : j < s) (u : Value) : vs.flatten.set (k * s + j) u = (vs.set k (vs[k].set j u)).flatten := by
 induction vs generalizing k with
 | nil => simp at hk
 | cons y vs ih =>
   have hy := hv y (by simp)
   cases k with
   | zero =>
     rw [Nat.zero_mul, Nat.zero_add, List.flatten_cons, List.set_append_left _ _ (by omega)]
     rfl
   | succ k =>
     rw [List.flatten_cons, List.set_append_right _ _ (by rw [hy, Nat.add_mul]; omega), hy, show (k + 1) * s + j - s = k * s + j by rw [Nat.add_mul]; omega, ih (fun v h => hv v (by simp [h])) k (by simpa using hk)]
     rfl
end Go.Proofs.YtihlhejencninaaGreat
namespace Go.Proofs.YtihlhejencninaaGreat
open Go.RowKit
set_option linter.unusedVariables false
set_option linter.unusedSimpArgs false
attribute [local go_sem ↓] Go.wp_at_zero Go.wp_at_succ

theorem evOk_take {l z : Int} {es : List Ent} (h : evOk l z es = true) (n : Nat) : evOk l z (es.take n) = true := by
 induction n generalizing z es with
 | zero => rfl
 | succ n ih =>
   cases es with
   | nil => rfl
   | cons e es =>
     obtain ⟨h1, h2, h3, h4, h5⟩ := evOk_cons h
     exact evOk_mk h1 h2 h3 h4 (ih h5)
theorem putAll_snoc (s es : List Ent) (e : Ent) : putAll s (es ++ [e]) = putL (putAll s es) e.k e.v := by unfold putAll; rw [List.foldl_append]; rfl
/-- a store with the values of a difference -/
def applyL (s d : List Ent) : List Ent := if storeB s = true ∧ diffB d = true then putAll s d else []
theorem applyL_storeB {s d : List Ent} (hs : storeB s = true) (hd : diffB d = true) : storeB (applyL s d) = true := by
 unfold applyL
 rw [if_pos ⟨hs, hd⟩]
 exact (putAll_ok hs (show evOk 0 (-1) d = true from hd) (by omega) (by omega)).1
set_option maxRecDepth 100000 in
set_option maxHeartbeats 1000000 in
theorem applyEffect_spec (A : Option Addr) (ca : Nat) (a : List Ent) (x : Eff) (A1 : Option Addr) (c1 : Nat) (B : Option Addr) (cb : Nat) (w : World) (ha : Rd w A (a.flatMap encE)) (hb : Rd w B (x.writes.flatMap encE)) (hla : a.length ≤ 4611686018427387904) (hlb : x.writes.length ≤ 4611686018427387904) :
   Calls Tryz.prog 179 #[.slice A a.length ca, .agg #[.bool x.done, .slice A1 x.reads.length c1, .slice B x.writes.length cb]] w fun e w' => ∃ A' c', e = .returned (.slice A' (applyL a x.writes).length c') ∧ w'.ownsRow w.heap.size 79 2 (.slice A' (applyL a x.writes).length c') (applyL a x.writes).length ((applyL a x.writes).flatMap encE) ∧ Below w.heap.size w w' := by
 have hb0 : Below w.heap.size w (w.alloc (.cells #[.bool x.done, .slice A1 x.reads.length c1, .slice B x.writes.length cb] 107)) := (Below.refl _ _).alloc (Nat.le_refl _) _
 have k0 := Blk.new w 107 #[.bool x.done, .slice A1 x.reads.length c1, .slice B x.writes.length cb]
 replace ha := ha.new hb0
 replace hb := hb.new hb0
 have HW := hide (show applyL a x.writes = applyL a x.writes from rfl)
 obtain ⟨xd, xr, b⟩ := x
 simp only at *
 cases hsa : storeB a
 · have HL := hide (show applyL a b = [] by simp [applyL, hsa])
   go_enter Tryz.func179, Tryz.ntmps179
   go_wp2_with fail
   refine (storeB_store_spec A ca a _ ha (by omega)).mono ?_
   rintro e w' ⟨rfl, m1, rfl⟩
   rw [hsa]
   have hb1 := below_drewN hb0 m1
   generalize (w.alloc (.cells #[.bool xd, .slice A1 xr.length c1, .slice B b.length cb] 107)).drewN m1 = w2 at *
   go_wp2
   go_ret
   rw [unhide HL]
   exact ⟨_, _, rfl, own_made (base := w.heap.size) w2 #[] 0 hb1.size (by simp [maxLen]) rfl, hb1.alloc hb1.size _⟩
 cases hsb : diffB b
 · have HL := hide (show applyL a b = [] by simp [applyL, hsb])
   go_enter Tryz.func179, Tryz.ntmps179
   go_wp2_with fail
   refine (storeB_store_spec A ca a _ ha (by omega)).mono ?_
   rintro e w' ⟨rfl, m1, rfl⟩
   rw [hsa]
   have z2 : ((w.alloc (.cells #[.bool xd, .slice A1 xr.length c1, .slice B b.length cb] 107)).drewN m1).cell? ⟨w.heap.size, 2, none⟩ = some (.slice B b.length cb) := (k0.drewN m1).cell 2
   go_wp2_with fail
   refine (diffB_writes_spec B cb b _ (hb.drewN m1) (by omega)).mono ?_
   rintro e w' ⟨rfl, m2, rfl⟩
   rw [hsb, World.drewN_drewN]
   have hb1 := below_drewN hb0 (m1 + m2)
   clear z2
   generalize (w.alloc (.cells #[.bool xd, .slice A1 xr.length c1, .slice B b.length cb] 107)).drewN (m1 + m2) = w2 at *
   go_wp2
   go_ret
   rw [unhide HL]
   exact ⟨_, _, rfl, own_made (base := w.heap.size) w2 #[] 0 hb1.size (by simp [maxLen]) rfl, hb1.alloc hb1.size _⟩
 have HL := hide (show applyL a b = putAll a b by unfold applyL; rw [if_pos ⟨hsa, hsb⟩])
 have HPL := hide (show ∀ k, (putAll a (b.take k)).length ≤ 32 from fun k => store_len (putAll_ok hsa (show evOk 0 (-1) (b.take k) = true from evOk_take hsb k) (by omega) (by omega)).1)
 have hal := store_len hsa
 have hbl := diff_len hsb
 have HSA := hide hsa
 have HSB := hide hsb
 clear hsa hsb
 go_enter Tryz.func179, Tryz.ntmps179
 go_wp2_with fail
 refine (storeB_store_spec A ca a _ ha (by omega)).mono ?_
 rintro e w' ⟨rfl, m1, rfl⟩
 rw [unhide HSA]
 have z2 : ((w.alloc (.cells #[.bool xd, .slice A1 xr.length c1, .slice B b.length cb] 107)).drewN m1).cell? ⟨w.heap.size, 2, none⟩ = some (.slice B b.length cb) := (k0.drewN m1).cell 2
 go_wp2_with fail
 refine (diffB_writes_spec B cb b _ (hb.drewN m1) (by omega)).mono ?_
 rintro e w' ⟨rfl, m2, rfl⟩
 rw [unhide HSB]
 rw [World.drewN_drewN]
 clear z2
 have ha2 := ha.drewN (m1 + m2)
 have hb2 := hb.drewN (m1 + m2)
 have k2 := k0.drewN (m1 + m2)
 have hB2 := below_drewN hb0 (m1 + m2)
 generalize (w.alloc (.cells #[.bool xd, .slice A1 xr.length c1, .slice B b.length cb] 107)).drewN (m1 + m2) = w2 at *
 clear ha hb k0 hb0
 have o2 := own_made (base := w2.heap.size) (e := 79) (size := 2) w2 #[] 0 (Nat.le_refl _) (by simp [maxLen]) rfl
 go_wp2_with (at_builtin; refine wpList_app rfl (.tmp 17) (.tmp 18) 34 rfl el_ent rfl o2 rfl (ha2.alloc _) (length_flat encE 2 encE_len a) (one_ents a) (by simp only [maxLen]; omega) (by omega) (by simp) ?_; intro A3 c3 w3 o3 ch3 _ _)
 have hb23 : Below w2.heap.size w2 w3 := ((Below.refl _ _).alloc (Nat.le_refl _) _).trans (ch3.below (fun q hq e => by injection e with e; injection e with e; omega) (by simp))
 rw [show (0 : Nat) + a.length = a.length by omega] at o3
 have hb3 := hb2.new hb23
 have k3 := k2.new_ hb23
 have hB3 : Below w.heap.size w w3 := bthen hB2 hb23
 have o4 : w3.ownsRow w.heap.size 79 2 (.slice A3 a.length c3) a.length (a.flatMap encE) := own_base o3 (by simpa using hB2.size)
 clear o3 ch3 o2 ha2 hb2 k2
 go_loopw [5, 6] (fun v i wr => ∃ (k : Nat) (A' : Option Addr) (c' : Nat), k ≤ b.length ∧ i = .int .i64 k ∧ v = .slice A' (putAll a (b.take k)).length c' ∧ wr.ownsRow w.heap.size 79 2 (.slice A' (putAll a (b.take k)).length c') (putAll a (b.take k)).length ((putAll a (b.take k)).flatMap encE) ∧ Below w3.heap.size w3 wr) (fun _ i _ => b.length - (intOf i).toNat)
 case atStart => exact ⟨0, A3, c3, by omega, rfl, rfl, o4, Below.refl _ _⟩
 case round =>
   obtain ⟨k, A', c', hk, rfl, rfl, hown, hB⟩ := hrel
   have z2 : wr.cell? ⟨w.heap.size, 2, none⟩ = some (.slice B b.length cb) := (k3.new_ hB).cell 2
   by_cases hlt : k < b.length
   · obtain ⟨b', off, rfl, hbb, d1, d2⟩ := (hb3.new hB).ent hlt
     have HS := hide (show putAll a (b.take (k + 1)) = putL (putAll a (b.take k)) b[k].k b[k].v by rw [List.take_succ_eq_append_getElem hlt, putAll_snoc])
     have hln := unhide HPL k
     generalize putAll a (b.take k) = cur at *
     generalize b[k] = x at *
     have i1 : (k : Int) < (b.length : Int) := by omega
     have hrd := (own_rd hown).drew
     have hB' : Below w3.heap.size w3 wr.drew := hB.drew
     go_wp2
     go_still_tail 13, (by kernel_rfl)
     change wpList _ _ _ _ _ wr.drew
     go_wp2_with fail
     refine (l2Put_any A' c' cur x.k x.v wr.drew hrd (by omega)).mono ?_
     rintro e w5 ⟨A5, c5, rfl, o5, b5⟩
     go_wp2
     go_roundw
     case rel => exact ⟨k + 1, A5, c5, by omega, by go_num, by rw [unhide HS], by rw [unhide HS]; exact own_base o5 (show w.heap.size ≤ wr.heap.size by have := hB.size; have := hB3.size; omega), hB'.trans (b5.mono (show w3.heap.size ≤ wr.heap.size from hB.size))⟩
     case measure => simp [intOf]; omega
   · obtain rfl : k = b.length := by omega
     rw [List.take_length] at hown ⊢
     go_wp2
     go_ret
     rw [unhide HL]
     exact ⟨A', c', rfl, hown, bthen hB3 hB⟩
theorem cloneEntries_any (A : Option Addr) (c : Nat) (es : List Ent) (w : World) (h : Rd w A (es.flatMap encE)) (hb : es.length ≤ 1099511627776) :
   Calls Tryz.prog 167 #[.slice A es.length c] w fun e w' => ∃ A' c', e = .returned (.slice A' es.length c') ∧ w'.ownsRow w.heap.size 79 2 (.slice A' es.length c') es.length (es.flatMap encE) ∧ Below w.heap.size w w' := by
 go_enter Tryz.func167, Tryz.ntmps167
 go_wp2_with (at_builtin; refine wpList_app rfl (.const (.slice none 0 0)) (.tmp 3) 34 rfl el_ent rfl (own_nil w w.heap.size _ _) rfl h (length_flat encE 2 encE_len es) (one_ents es) (by simp only [maxLen]; omega) (by omega) (by simp) ?_; intro A1 c1 w1 o1 ch1 _ _)
 go_ret
 exact ⟨A1, c1, rfl, by simpa using o1, ch1.below (fun q hq e => by cases e) (Nat.le_refl _)⟩
end Go.Proofs.YtihlhejencninaaGreat
namespace Go.Proofs.YtihlhejencninaaGreat
open Go.RowKit
set_option linter.unusedVariables false
set_option linter.unusedSimpArgs false

theorem grow_step {α : Type} {O : ORel α} {R : Rel α} {s : Nat} (G : OGood O R) (GR : Good R s) {wr w3 w7 : World} {base : Nat} {e : TypeId} {A' A7 : Option Addr} {c' c7 n m : Nat} {xs : List α} {vs : List (List Value)} {fs : List (List Nat)} {x : α} {cs : List Value} {f : List Nat} {o : Obj}
   (hall : AllO O wr xs vs fs) (hnd : fs.flatten.Nodup) (hF : ∀ q ∈ fs.flatten, base ≤ q ∧ A' ≠ some ⟨q, 0, none⟩) (hown : wr.ownsRow base e s (.slice A' n c') n vs.flatten) (hbase : base ≤ wr.heap.size)
   (b3 : Below wr.heap.size wr w3) (hx : O x w3 cs f) (hfn : f.Nodup) (hfb : ∀ q ∈ f, wr.heap.size ≤ q)
   (ch7 : Chg (fun g => A' = some ⟨g, 0, none⟩) (w3.alloc o) w7) (d7 : A7 = A' ∨ (A7 = some ⟨(w3.alloc o).heap.size, 0, none⟩ ∧ Below (w3.alloc o).heap.size (w3.alloc o) w7)) (o7 : w7.ownsRow base e s (.slice A7 m c7) m (vs.flatten ++ cs)) :
   AllO O w7 (xs ++ [x]) (vs ++ [cs]) (fs ++ [f]) ∧ (fs ++ [f]).flatten.Nodup ∧ (∀ q ∈ (fs ++ [f]).flatten, base ≤ q ∧ A7 ≠ some ⟨q, 0, none⟩) ∧ w7.ownsRow base e s (.slice A7 m c7) m (vs ++ [cs]).flatten := by
 have hl := hall.lt G
 have hl3 : ∀ q ∈ f, q < w3.heap.size := by
   have := (AllO.one hx).lt G
   intro q hq
   exact this q (by simpa using hq)
 have hs3 := b3.size
 have hrg := own_rng hown
 have hall3 := (hall.keep G (w' := w3) fun q _ hq => b3.block q hq).append (AllO.one hx)
 have key : ∀ q ∈ (fs ++ [f]).flatten, base ≤ q ∧ q < w3.heap.size ∧ A' ≠ some ⟨q, 0, none⟩ := fun q hq => by
   rw [List.flatten_append] at hq
   rcases List.mem_append.1 hq with hq | hq
   · have h1 := hF q hq
     have h2 := hl q hq
     exact ⟨h1.1, by omega, h1.2⟩
   · have hq : q ∈ f := by simpa using hq
     have h1 := hfb q hq
     exact ⟨by omega, hl3 q hq, fun e => by have := hrg q e; omega⟩
 refine ⟨hall3.keep G fun q hq hqw => ?_, ?_, fun q hq => ?_, by rw [List.flatten_append]; simpa using o7⟩
 · have h1 := key q hq
   rw [ch7.block q (by simp; omega) h1.2.2]
   exact Below.heap_alloc _ _ _ hqw
 · rw [List.flatten_append]
   exact fresh_nodup (m := wr.heap.size) hnd (by simpa using hfn) hl (fun q hq => hfb q (by simpa using hq))
 · have h1 := key q hq
   refine ⟨h1.1, fun e => ?_⟩
   rcases d7 with rfl | ⟨rfl, _⟩
   · exact h1.2.2 e
   · injection e with e; injection e with e; simp at e; omega
theorem grow_done {α : Type} {O : ORel α} {w : World} {base : Nat} {e : TypeId} {s : Nat} {A : Option Addr} {c : Nat} {xs : List α} {vs : List (List Value)} {fs : List (List Nat)}
   (hall : AllO O w xs vs fs) (hnd : fs.flatten.Nodup) (hF : ∀ q ∈ fs.flatten, base ≤ q ∧ A ≠ some ⟨q, 0, none⟩) (hown : w.ownsRow base e s (.slice A xs.length c) xs.length vs.flatten) :
   OwnD O e s w A c xs (blk A ++ fs.flatten) ∧ ∀ k ∈ blk A ++ fs.flatten, base ≤ k := by
 refine ⟨⟨vs, fs, hall, own_base0 hown, rfl, ?_⟩, fun q hq => ?_⟩
 · rw [List.nodup_append]
   exact ⟨blk_nodup _, hnd, fun x hx y hy e => (hF y hy).2 (e ▸ (blk_own hown hx).1)⟩
 · rcases List.mem_append.1 hq with hq | hq
   · exact (blk_own hown hq).2.1
   · exact (hF q hq).1
theorem ownD_nil {α : Type} (O : ORel α) (e : TypeId) (s : Nat) (w : World) : OwnD O e s w none 0 [] [] := ⟨[], [], trivial, own_nil _ _ _ _, rfl, List.nodup_nil⟩

/-- only variables of the type t that lie at or above m are changed -/
structure EB (m : Nat) (t : TypeId) (a b : World) : Prop where
 os : b.os = a.os
 tape : b.tape = a.tape
 output : b.output = a.output
 size : a.heap.size ≤ b.heap.size
 blk : ∀ k, k < a.heap.size → b.heap[k]? = a.heap[k]? ∨ (m ≤ k ∧ ∃ old, a.heap[k]? = some (.cells old t (0, 0)))
theorem EB.refl (m : Nat) (t : TypeId) (a : World) : EB m t a a := ⟨rfl, rfl, rfl, Nat.le_refl _, fun _ _ => .inl rfl⟩
theorem EB.trans {m : Nat} {t : TypeId} {a b c : World} (h1 : EB m t a b) (h2 : EB m t b c) : EB m t a c :=
 ⟨h2.os.trans h1.os, h2.tape.trans h1.tape, h2.output.trans h1.output, Nat.le_trans h1.size h2.size, fun k hk => by
   rcases h1.blk k hk with h | h
   · rcases h2.blk k (Nat.lt_of_lt_of_le hk h1.size) with g | g
     · exact .inl (g.trans h)
     · exact .inr ⟨g.1, by rw [← h]; exact g.2⟩
   · exact .inr h⟩
theorem EB.of_new {m : Nat} {t : TypeId} {a b : World} (h : Below a.heap.size a b) : EB m t a b := ⟨h.os, h.tape, h.output, h.size, fun k hk => .inl (h.block k hk)⟩
theorem EB.undrew {m : Nat} {t : TypeId} {a b : World} (h : EB m t a.drew b) : EB m t a b := ⟨h.os, h.tape, h.output, h.size, h.blk⟩
theorem EB.below {m : Nat} {t : TypeId} {a b : World} (h : EB m t a b) (hm : m ≤ a.heap.size) : Below m a b :=
 ⟨h.os, h.tape, h.output, h.size, fun k hk => by
   rcases h.blk k (by omega) with g | g
   · exact g
   · omega⟩
theorem own_EB {m : Nat} {t : TypeId} {a b : World} {base : Nat} {e : TypeId} {s n c : Nat} {A : Option Addr} {xs : List Value} (h : a.ownsRow base e s (.slice A n c) n xs) (hE : EB m t a b) (hne : e ≠ t) : b.ownsRow base e s (.slice A n c) n xs := by
 refine own_keep h fun g hA hg => ?_
 rcases hE.blk g hg with h1 | ⟨_, old, h1⟩
 · exact h1
 · rcases h.2 with ⟨hv, _⟩ | ⟨g', cap, cur, hv, _, hh, _⟩
   · injection hv with hv; rw [hA] at hv; cases hv
   · injection hv with hv
     rw [hA] at hv
     injection hv with hv
     injection hv with hv
     subst hv
     rw [hh] at h1
     injection h1 with h1
     injection h1 with h2 h3 h4
     exact absurd h3 hne
/-- a variable that is laid (its address is vp), and later stored into -/
def BoxR (m : Nat) (t : TypeId) (z : Array Value) (Q : Array Value → World → Prop) (b : Bool) (vp : Value) (w : World) : Prop :=
 (b = false ∧ (vp = undef ∨ ∃ g, vp = .pointer (some ⟨g, 0, none⟩) ∧ m ≤ g ∧ Blk w g t z)) ∨ (b = true ∧ ∃ g cs, vp = .pointer (some ⟨g, 0, none⟩) ∧ m ≤ g ∧ Blk w g t cs ∧ Q cs w)
theorem BoxR.new {m : Nat} {t : TypeId} {z : Array Value} {Q : Array Value → World → Prop} {b : Bool} {vp : Value} {w w' : World} (h : BoxR m t z Q b vp w) (hb : Below w.heap.size w w') (hQ : ∀ cs, Q cs w → Q cs w') : BoxR m t z Q b vp w' := by
 rcases h with ⟨h1, h | ⟨g, h2, h3, h4⟩⟩ | ⟨h1, g, cs, h2, h3, h4, h5⟩
 · exact .inl ⟨h1, .inl h⟩
 · exact .inl ⟨h1, .inr ⟨g, h2, h3, h4.new_ hb⟩⟩
 · exact .inr ⟨h1, g, cs, h2, h3, h4.new_ hb, hQ cs h5⟩
end Go.Proofs.YtihlhejencninaaGreat
namespace Go.Proofs.YtihlhejencninaaGreat
open Go.RowKit
set_option linter.unusedVariables false
set_option linter.unusedSimpArgs false

theorem below_setRow {B : Nat} {a w : World} (hb : Below B a w) {g : Nat} (hg : B ≤ g) (ds : Array Value) : Below B a (w.setRow g ds) :=
 ⟨hb.os, hb.tape, hb.output, by rw [size_setRow]; exact hb.size, fun q hq => (setRow_other w g q ds (by omega)).trans (hb.block q hq)⟩
theorem box_new (w : World) (t : TypeId) (z cs : Array Value) : Blk (w.alloc (.cells z t)) w.heap.size t z ∧ Blk ((w.alloc (.cells z t)).setRow w.heap.size cs) w.heap.size t cs ∧ Below w.heap.size w ((w.alloc (.cells z t)).setRow w.heap.size cs) := by
 have h1 : Blk (w.alloc (.cells z t)) w.heap.size t z := Blk.new _ _ _
 exact ⟨h1, blk_setRow h1, below_setRow ((Below.refl _ _).alloc (Nat.le_refl _) _) (Nat.le_refl _) _⟩
theorem EB.setRow {m : Nat} {t : TypeId} {w : World} {g : Nat} {old : Array Value} (h : Blk w g t old) (hm : m ≤ g) (ds : Array Value) : EB m t w (w.setRow g ds) :=
 ⟨rfl, rfl, rfl, by rw [size_setRow]; exact Nat.le_refl _, fun k hk => by
   by_cases hkg : k = g
   · subst hkg; exact .inr ⟨hm, old, h⟩
   · exact .inl (setRow_other w g k ds hkg)⟩
def StEL (E : World → World → Prop) : List (Value → World → Prop) → Prop
 | [] => True
 | f :: l => (∀ v a b, E a b → f v a → f v b) ∧ StEL E l
theorem stel_get {E : World → World → Prop} : ∀ {l : List (Value → World → Prop)}, StEL E l → ∀ i v a b, E a b → (l.getD i fun _ _ => True) v a → (l.getD i fun _ _ => True) v b
 | [], _, i => fun _ _ _ _ _ => trivial
 | f :: l, h, 0 => h.1
 | f :: l, h, i + 1 => by simpa using stel_get h.2 i
theorem locE_st {E : World → World → Prop} {fs : List (Value → World → Prop)} (h : StEL E fs) (n : Nat) (i : Nat) (v : Value) (a b : World) (_ : i < n) (hf : locB fs i v a) (hE : E a b) : locB fs i v b := stel_get h i v a b hE hf
end Go.Proofs.YtihlhejencninaaGreat
