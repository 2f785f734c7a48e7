/- Copies of effects and of engines, of the program (printed by gen_in.py from xeclone.in). -/
import Derived.Test.YtihlhejencninaaGreatEngS
import Derived.Test.YtihlhejencninaaGreatGeff
import Derived.Test.YtihlhejencninaaGreatGmem
import Derived.Test.YtihlhejencninaaGreatCopyE
import Derived.Test.YtihlhejencninaaGreatGloc
import Derived.Test.YtihlhejencninaaGreatVersI
namespace Go.Proofs.YtihlhejencninaaGreat
open Go.RowKit
set_option linter.unusedVariables false
set_option linter.unusedSimpArgs false

theorem info_eff3 : (Tryz.prog.info? 107).map (·.size) = some 3 := by kernel_rfl
theorem eff3_one (b : Bool) (A : Option Addr) (n c : Nat) (B : Option Addr) (m d : Nat) : (#[Value.bool b, .slice A n c, .slice B m d]).all (·.oneCell') = true := by
 rw [Array.all_eq_true_iff_forall_mem]
 intro x hx
 simp at hx
 rcases hx with rfl | rfl | rfl <;> rfl
/-- the two rows of the copy lie apart -/
def RC (b : Bool) (vs : Nat → Value) (_ : World) : Prop := b = true → ∃ A n c B m d, vs 4 = .slice A n c ∧ vs 7 = .slice B m d ∧ ∀ q, A = some ⟨q, 0, none⟩ → B ≠ some ⟨q, 0, none⟩
theorem RC.other {b : Bool} {vs : Nat → Value} {w : World} (h : RC b vs w) (i : Nat) (v : Value) (w' : World) (h4 : i ≠ 4) (h7 : i ≠ 7) : RC (i == 7 || b) (fun j => if j = i then v else vs j) w' := by
 have : (i == 7) = false := by simp [h7]
 rw [this, Bool.false_or]
 intro hb
 obtain ⟨A, n, c, B, m, d, e1, e2, e3⟩ := h hb
 refine ⟨A, n, c, B, m, d, ?_, ?_, e3⟩
 · simp only [if_neg (fun e : 4 = i => h4 e.symm)]; exact e1
 · simp only [if_neg (fun e : 7 = i => h7 e.symm)]; exact e2
theorem RC.off (vs : Nat → Value) (w : World) (i : Nat) (h7 : i ≠ 7) : RC (i == 7 || false) vs w := by
 have : (i == 7) = false := by simp [h7]
 rw [this]
 intro h
 cases h
set_option maxRecDepth 100000 in
set_option maxHeartbeats 4000000 in
theorem effClone_impl (x : Eff) (A1 : Option Addr) (c1 : Nat) (A2 : Option Addr) (c2 : Nat) (w : World) (h1 : Rd w A1 (x.reads.flatMap encE)) (h2 : Rd w A2 (x.writes.flatMap encE)) (hb1 : x.reads.length ≤ 1000000) (hb2 : x.writes.length ≤ 1000000) :
   Calls Tryz.prog 128 #[.agg #[.bool x.done, .slice A1 x.reads.length c1, .slice A2 x.writes.length c2]] w fun e w' => ∃ B1 d1 B2 d2, e = .returned (.agg #[.bool x.done, .slice B1 x.reads.length d1, .slice B2 x.writes.length d2]) ∧ w'.ownsRow w.heap.size 79 2 (.slice B1 x.reads.length d1) x.reads.length (x.reads.flatMap encE) ∧ w'.ownsRow w.heap.size 79 2 (.slice B2 x.writes.length d2) x.writes.length (x.writes.flatMap encE) ∧ (∀ q, B1 = some ⟨q, 0, none⟩ → B2 ≠ some ⟨q, 0, none⟩) ∧ Below w.heap.size w w' := by
 obtain ⟨W, hW⟩ : ∃ W : World, W = (w.alloc (.cells #[.bool x.done, .slice A1 x.reads.length c1, .slice A2 x.writes.length c2] 107)).alloc (.cells #[.bool false, .slice none 0 0, .slice none 0 0] 107) := ⟨_, rfl⟩
 have hb0 : Below w.heap.size w W := by rw [hW]; exact ((Below.refl _ _).alloc (Nat.le_refl _) _).alloc (by simp) _
 have K0 : Blk W w.heap.size 107 #[.bool x.done, .slice A1 x.reads.length c1, .slice A2 x.writes.length c2] := by rw [hW]; exact (Blk.new _ _ _).alloc _
 have K1 : Blk W (w.heap.size + 1) 107 #[.bool false, .slice none 0 0, .slice none 0 0] := by
   rw [hW]
   have := Blk.new (w.alloc (.cells #[.bool x.done, .slice A1 x.reads.length c1, .slice A2 x.writes.length c2] 107)) 107 #[.bool false, .slice none 0 0, .slice none 0 0]
   simpa using this
 have hW1 := K1.lt
 have HX := hide (fun (w' : World) (hb : Below W.heap.size W w') => show w'.cell? ⟨w.heap.size, 0, none⟩ = some (.bool x.done) ∧ w'.cell? ⟨w.heap.size, 1, none⟩ = some (.slice A1 x.reads.length c1) ∧ w'.cell? ⟨w.heap.size, 2, none⟩ = some (.slice A2 x.writes.length c2) ∧ Rd w' A1 (x.reads.flatMap encE) ∧ Rd w' A2 (x.writes.flatMap encE) from ⟨(K0.new_ hb).cell 0, (K0.new_ hb).cell 1, (K0.new_ hb).cell 2, h1.new (bthen hb0 hb), h2.new (bthen hb0 hb)⟩)
 clear h1 h2 K0
 go_enter Tryz.func128, Tryz.ntmps128
 go_upto_region 1 with fail
 rw [← hW]
 clear hW
 have hF : StEL (fun a b => Below a.heap.size a b) [bV (.pointer (some ⟨w.heap.size, 0, none⟩)), bV (.bool x.done), bV (.pointer (some ⟨w.heap.size, 1, none⟩)), bV (.slice A1 x.reads.length c1), sOwn W.heap.size x.reads, bV (.pointer (some ⟨w.heap.size, 2, none⟩)), bV (.slice A2 x.writes.length c2), sOwn W.heap.size x.writes] := ⟨fun _ _ _ _ h => h, fun _ _ _ _ h => h, fun _ _ _ _ h => h, fun _ _ _ _ h => h, fun _ _ _ hb ⟨A, c, h1, h2⟩ => ⟨A, c, h1, own_new h2 hb⟩, fun _ _ _ _ h => h, fun _ _ _ _ h => h, fun _ _ _ hb ⟨A, c, h1, h2⟩ => ⟨A, c, h1, own_new h2 hb⟩, trivial⟩
 refine wp_region_vals (by kernel_rfl) [(0, some 3), (1, some 4), (2, some 5), (3, some 6), (4, some 7), (5, some 8), (6, some 9), (7, some 10)] [[], [(0, some 3)], [], [(2, some 5)], [(3, some 6)], [], [(5, some 8)], [(4, some 7), (6, some 9)]] (by kernel_rfl) 7 [4] (by kernel_rfl)
   (locB [bV (.pointer (some ⟨w.heap.size, 0, none⟩)), bV (.bool x.done), bV (.pointer (some ⟨w.heap.size, 1, none⟩)), bV (.slice A1 x.reads.length c1), sOwn W.heap.size x.reads, bV (.pointer (some ⟨w.heap.size, 2, none⟩)), bV (.slice A2 x.writes.length c2), sOwn W.heap.size x.writes]) (fun a b => Below a.heap.size a b) RC (fun _ => Below.refl _ _) (fun _ _ _ => bthen) (locE_st hF _) (fun h => by cases h) ?_ ?_
 · refine steps_cons ?s0 ( steps_cons ?s1 ( steps_cons ?s2 ( steps_cons ?s3 ( steps_cons ?s4 ( steps_cons ?s5 ( steps_cons ?s6 ( steps_cons ?s7 steps_nil)))))))
   case s0 =>
     intro w' b vs hE hbx hR
     clear hbx
     intro Q hQ
     go_wp2
     exact hQ _ _ _ rfl rfl (Below.refl _ _) (hR.other 0 _ _ (by omega) (by omega))
   case s1 =>
     intro w' b vs hE hbx hR
     clear hbx
     rintro _ ⟨rfl, -⟩ Q hQ
     obtain ⟨y0, y1, y2, r1, r2⟩ := unhide HX w' (below_undrew hE)
     go_wp2
     exact hQ _ _ _ rfl rfl (Below.refl _ _) (hR.other 1 _ _ (by omega) (by omega))
   case s2 =>
     intro w' b vs hE hbx hR
     clear hbx
     intro Q hQ
     go_wp2
     exact hQ _ _ _ rfl rfl (Below.refl _ _) (hR.other 2 _ _ (by omega) (by omega))
   case s3 =>
     intro w' b vs hE hbx hR
     clear hbx
     rintro _ ⟨rfl, -⟩ Q hQ
     obtain ⟨y0, y1, y2, r1, r2⟩ := unhide HX w' (below_undrew hE)
     go_wp2
     exact hQ _ _ _ rfl rfl (Below.refl _ _) (hR.other 3 _ _ (by omega) (by omega))
   case s4 =>
     intro w' b vs hE hbx hR
     obtain rfl := hbx (by simp)
     rintro _ ⟨rfl, -⟩ Q hQ
     obtain ⟨y0, y1, y2, r1, r2⟩ := unhide HX w' (below_undrew hE)
     have hsz := hE.size
     go_wp2_with fail
     refine (cloneEntries_any A1 c1 x.reads w' r1 (by omega)).mono ?_
     rintro e w2 ⟨A', c', rfl, o2, b2⟩
     go_wp2
     exact hQ _ _ _ rfl ⟨A', c', rfl, own_base o2 hsz⟩ b2 (RC.off _ _ 4 (by omega))
   case s5 =>
     intro w' b vs hE hbx hR
     clear hbx
     intro Q hQ
     go_wp2
     exact hQ _ _ _ rfl rfl (Below.refl _ _) (hR.other 5 _ _ (by omega) (by omega))
   case s6 =>
     intro w' b vs hE hbx hR
     clear hbx
     rintro _ ⟨rfl, -⟩ Q hQ
     obtain ⟨y0, y1, y2, r1, r2⟩ := unhide HX w' (below_undrew hE)
     go_wp2
     exact hQ _ _ _ rfl rfl (Below.refl _ _) (hR.other 6 _ _ (by omega) (by omega))
   case s7 =>
     intro w' b vs hE hbx hR
     obtain rfl := hbx (by simp)
     rintro _ ⟨⟨A', c', hv, oA⟩, hv4⟩ _ ⟨rfl, -⟩ Q hQ
     obtain ⟨y0, y1, y2, r1, r2⟩ := unhide HX w' (below_undrew hE)
     have hsz := hE.size
     have hrg := own_rng oA
     have HV4 := hide (hv4.symm.trans hv)
     clear hv4 hv
     go_wp2_with fail
     refine (cloneEntries_any A2 c2 x.writes w' r2 (by omega)).mono ?_
     rintro e w2 ⟨A'', c'', rfl, o2, b2⟩
     have hrg2 := own_rng o2
     go_wp2
     exact hQ _ _ _ rfl ⟨A'', c'', rfl, own_base o2 hsz⟩ b2 (fun _ => ⟨A', x.reads.length, c', A'', x.writes.length, c'', unhide HV4, rfl, fun q hq hq2 => by have := hrg q hq; have := hrg2 q hq2; omega⟩)
 intro w9 us hE hR
 rintro v0 - v1 ⟨hv1, -⟩ v2 - v3 - v4 ⟨⟨B1, d1, rfl, o1⟩, hv4⟩ v5 - v6 - v7 ⟨⟨B2, d2, rfl, o2⟩, hv7⟩
 obtain rfl : v1 = _ := hv1
 have hap : ∀ q, B1 = some ⟨q, 0, none⟩ → B2 ≠ some ⟨q, 0, none⟩ := by
   obtain ⟨A, n, c, B, m, d, e1, e2, e3⟩ := hR rfl
   rw [← hv4] at e1
   rw [← hv7] at e2
   injection e1 with e1
   injection e2 with e2
   subst e1
   subst e2
   exact e3
 clear hv4 hv7 hR
 change wpList _ _ _ [_, _] _ _
 simp only [Act.put, List.setIfInBounds_toArray, List.set_cons_succ, List.set_cons_zero]
 have b9 := below_undrew hE
 have k9 := K1.new_ b9
 clear hE hF
 go_wp2_with (refine wpList_store_row rfl 107 (.tmp 2) (.tmp 11) rfl (w.heap.size + 1) #[.bool x.done, .slice B1 x.reads.length d1, .slice B2 x.writes.length d2] rfl rfl 107 #[.bool false, .slice none 0 0, .slice none 0 0] k9 info_eff3 rfl (eff3_one _ _ _ _ _ _ _) ?_)
 refine bodyPost_ret (v := .agg #[.bool x.done, .slice B1 x.reads.length d1, .slice B2 x.writes.length d2]) (results_cell_row (p := 2) (ty := 107) rfl _ _ (w.heap.size + 1) 107 #[.bool x.done, .slice B1 x.reads.length d1, .slice B2 x.writes.length d2] (0, 0) _ rfl (blk_setRow k9) Tryz.underlying107 rfl info_eff3) rfl ?_
 exact ⟨B1, d1, B2, d2, rfl, own_base (own_setRow o1 (by omega) _) (by omega), own_base (own_setRow o2 (by omega) _) (by omega), hap, below_setRow (bthen hb0 b9) (by omega) _⟩
def acOwn (B : Nat) (xs : List Act) (v : Value) (w : World) : Prop := ∃ A c, v = .slice A xs.length c ∧ w.ownsRow B 56 4 (.slice A xs.length c) xs.length (xs.flatMap encA)
theorem sb_acOwn (B : Nat) (xs : List Act) : StB (acOwn B xs) := fun _ _ _ hb ⟨A, c, h1, h2⟩ => ⟨A, c, h1, own_new h2 hb⟩
def vOwn (B : Nat) (xs : List Ver) (v : Value) (w : World) : Prop := ∃ A c, v = .slice A xs.length c ∧ w.ownsRow B 166 3 (.slice A xs.length c) xs.length (xs.flatMap encV)
theorem sb_vOwn (B : Nat) (xs : List Ver) : StB (vOwn B xs) := fun _ _ _ hb ⟨A, c, h1, h2⟩ => ⟨A, c, h1, own_new h2 hb⟩
def engB (B : Nat) (e : Eng) (v : Value) (w : World) : Prop := ∃ A1 c1 A2 c2 A3 c3, v = .agg #[.slice A1 e.base.length c1, .slice A2 e.list.length c2, .slice A3 e.vers.length c3, .slice none 0 0] ∧ w.ownsRow B 79 2 (.slice A1 e.base.length c1) e.base.length (e.base.flatMap encE) ∧ w.ownsRow B 56 4 (.slice A2 e.list.length c2) e.list.length (e.list.flatMap encA) ∧ w.ownsRow B 166 3 (.slice A3 e.vers.length c3) e.vers.length (e.vers.flatMap encV)
theorem sb_engB (B : Nat) (e : Eng) : StB (engB B e) := fun _ _ _ hb ⟨A1, c1, A2, c2, A3, c3, h0, h1, h2, h3⟩ => ⟨A1, c1, A2, c2, A3, c3, h0, own_new h1 hb, own_new h2 hb, own_new h3 hb⟩
/-- a row of one such slot -/
def sltRow1 (B : Nat) (s : Slt) (v : Value) (w : World) : Prop := ∃ q A c A1 c1 A2 c2, v = .slice (some ⟨q, 0, none⟩) 1 1 ∧ Rd w (some ⟨q, 0, none⟩) (sltV s A c A1 c1 A2 c2) ∧ sltR (fun k => B ≤ k) s w (sltV s A c A1 c1 A2 c2)
theorem sb_sltRow1 (B : Nat) (s : Slt) : StB (sltRow1 B s) := fun _ _ _ hb ⟨q, A, c, A1, c1, A2, c2, h0, h1, h2⟩ => ⟨q, A, c, A1, c1, A2, c2, h0, h1.new hb, slt_good.keep h2 (Kp.below hb)⟩
/-- one more thing behind a row, its own literal laid before -/
theorem deep_app2 {α : Type} {R : Rel α} {s base s5 : Nat} {A A6 : Option Addr} {w w6 : World} {xs : List α} {vs : List (List Value)} {x : α} {cs : List Value} {T0 : Prop} (G : Good R s) (hall : AllR R (Off base A) w xs vs) (hx : R (fun k => s5 ≤ k) x w cs) (hs : base ≤ s5) (hr : ∀ g, A = some ⟨g, 0, none⟩ → base ≤ g ∧ g < s5)
   (hc : Chg (fun k => A = some ⟨k, 0, none⟩) w w6) (hd : A6 = A ∨ (A6 = some ⟨w.heap.size, 0, none⟩ ∧ T0)) : AllR R (Off base A6) w6 (xs ++ [x]) (vs ++ [cs]) := by
 have key : ∀ k, base ≤ k → k < w.heap.size → A ≠ some ⟨k, 0, none⟩ → Off base A6 k ∧ A ≠ some ⟨k, 0, none⟩ := fun k h1 h2 h3 => ⟨⟨h1, fun e => by
   rcases hd with hd | ⟨hd, _⟩
   · exact h3 (by rw [← hd, e])
   · rw [e] at hd
     injection hd with hd
     injection hd with hd
     omega⟩, h3⟩
 have h1 : AllR R (fun k => Off base A6 k ∧ A ≠ some ⟨k, 0, none⟩) w xs vs := hall.mono G fun k hk hkw => key k hk.1 hkw hk.2
 have h2 : R (fun k => Off base A6 k ∧ A ≠ some ⟨k, 0, none⟩) x w cs := G.mono hx fun k hk hkw => key k (by omega) hkw fun e => by have := hr k e; omega
 exact ((h1.append (AllR.one h2)).keep G (Kp.chg hc fun k hk => hk.2)).mono G fun k hk _ => hk.1
/-- a row of the call's own lies outside a variable of another type -/
theorem own_off {w : World} {base : Nat} {e t : TypeId} {size n c g : Nat} {A : Option Addr} {xs : List Value} {cs : Array Value} (h : w.ownsRow base e size (.slice A n c) n xs) (hk : Blk w g t cs) (hne : e ≠ t) : RdP (fun k => base ≤ k ∧ k ≠ g) w A xs :=
 (own_rdP h).mono fun k hkk _ => ⟨hkk.1, fun he => by
   subst he
   rcases h.2 with ⟨hv, _⟩ | ⟨q, cap, cur, hv, _, hh, _⟩
   · injection hv with hv; rw [hkk.2] at hv; cases hv
   · injection hv with hv; rw [hkk.2] at hv; injection hv with hv; injection hv with hv; subst hv; rw [show w.heap[k]? = _ from hk] at hh; injection hh with hh; injection hh with _ h3 _; exact hne h3.symm⟩
theorem ne_eng : (79 : TypeId) ≠ 96 ∧ (56 : TypeId) ≠ 96 ∧ (166 : TypeId) ≠ 96 ∧ (141 : TypeId) ≠ 96 := by decide
theorem info_eng4 : (Tryz.prog.info? 96).map (·.size) = some 4 := by kernel_rfl
theorem sl4_one (A B C D : Option Addr) (n m k l c d e f : Nat) : (#[Value.slice A n c, .slice B m d, .slice C k e, .slice D l f]).all (·.oneCell') = true := by
 rw [Array.all_eq_true_iff_forall_mem]
 intro x hx
 simp at hx
 rcases hx with rfl | rfl | rfl | rfl <;> rfl
theorem sltV_one (s : Slt) (P0 : Option Addr) (d0 : Nat) (P1 : Option Addr) (d1 : Nat) (P2 : Option Addr) (d2 : Nat) : ∀ u ∈ sltV s P0 d0 P1 d1 P2 d2, u.oneCell' = true := by
 intro u hu
 simp [sltV] at hu
 rcases hu with rfl | rfl | rfl | rfl | rfl | rfl <;> rfl
set_option maxRecDepth 100000 in
set_option maxHeartbeats 8000000 in
theorem eclone_impl (e : Eng) (A1 : Option Addr) (c1 : Nat) (A2 : Option Addr) (c2 : Nat) (A3 : Option Addr) (c3 : Nat) (A4 : Option Addr) (c4 : Nat) (w : World) (h : EngRd w e A1 A2 A3 A4) (hok : EngOk e) :
   Calls Tryz.prog 125 #[.agg (engA e A1 c1 A2 c2 A3 c3 A4 c4)] w fun x w' => ∃ B1 d1 B2 d2 B3 d3 B4 d4, x = .returned (.agg (engA e B1 d1 B2 d2 B3 d3 B4 d4)) ∧ EngOwn (fun k => w.heap.size ≤ k ∧ B4 ≠ some ⟨k, 0, none⟩) w.heap.size w' e B1 B2 B3 B4 d4 ∧ Below w.heap.size w w' := by
 have hbl := hok.base_len
 have hvl := hok.vlen
 have hn10 := hok.len10
 have hll : e.list.length ≤ 10 := by rw [← hok.len]; exact hn10
 have HSL := hide (fun (n : Nat) (hn : n < e.slots.length) => slot_len (hok.slot n hn))
 obtain ⟨W, hW⟩ : ∃ W : World, W = (w.alloc (.cells (engA e A1 c1 A2 c2 A3 c3 A4 c4) 96)).alloc (.cells #[.slice none 0 0, .slice none 0 0, .slice none 0 0, .slice none 0 0] 96) := ⟨_, rfl⟩
 have hb0 : Below w.heap.size w W := by rw [hW]; exact ((Below.refl _ _).alloc (Nat.le_refl _) _).alloc (by simp) _
 have K0 : Blk W w.heap.size 96 (engA e A1 c1 A2 c2 A3 c3 A4 c4) := by rw [hW]; exact (Blk.new _ _ _).alloc _
 have K1 : Blk W (w.heap.size + 1) 96 #[.slice none 0 0, .slice none 0 0, .slice none 0 0, .slice none 0 0] := by
   rw [hW]
   have := Blk.new (w.alloc (.cells (engA e A1 c1 A2 c2 A3 c3 A4 c4) 96)) 96 #[.slice none 0 0, .slice none 0 0, .slice none 0 0, .slice none 0 0]
   simpa using this
 have hW1 := K1.lt
 simp only [engA] at K0 hW ⊢
 have HX := hide (fun (w' : World) (hb : Below W.heap.size W w') => show w'.cell? ⟨w.heap.size, 0, none⟩ = some (.slice A1 e.base.length c1) ∧ w'.cell? ⟨w.heap.size, 1, none⟩ = some (.slice A2 e.list.length c2) ∧ w'.cell? ⟨w.heap.size, 2, none⟩ = some (.slice A3 e.vers.length c3) ∧ w'.cell? ⟨w.heap.size, 3, none⟩ = some (.slice A4 e.slots.length c4) ∧ EngRd w' e A1 A2 A3 A4 from ⟨(K0.new_ hb).cell 0, (K0.new_ hb).cell 1, (K0.new_ hb).cell 2, (K0.new_ hb).cell 3, h.new (bthen hb0 hb)⟩)
 have HK1 := hide (fun (w' : World) (hb : Below W.heap.size W w') => K1.new_ hb)
 clear h K0 K1 hok
 go_enter Tryz.func125, Tryz.ntmps125
 go_wp2
 rw [← hW]
 have hF : StBL [bV (.pointer (some ⟨w.heap.size, 0, none⟩)), bV (.slice A1 e.base.length c1), sOwn W.heap.size e.base, bV (.pointer (some ⟨w.heap.size, 1, none⟩)), bV (.slice A2 e.list.length c2), acOwn W.heap.size e.list, bV (.pointer (some ⟨w.heap.size, 2, none⟩)), bV (.slice A3 e.vers.length c3), vOwn W.heap.size e.vers, engB W.heap.size e, newBox W.heap.size 96 #[.slice none 0 0, .slice none 0 0, .slice none 0 0, .slice none 0 0]] :=
   ⟨sb_V _, sb_V _, sb_Own _ _, sb_V _, sb_V _, sb_acOwn _ _, sb_V _, sb_V _, sb_vOwn _ _, sb_engB _ _, sb_newBox _ _ _, trivial⟩
 go_upto_region 1 with fail
 refine wp_region_loc (by kernel_rfl) [(0, some 6), (1, some 7), (2, some 8), (3, some 9), (4, some 10), (5, some 11), (6, some 12), (7, some 13), (8, some 14), (9, some 15), (10, some 3)] [[], [(0, some 6)], [(1, some 7)], [], [(3, some 9)], [(4, some 10)], [], [(6, some 12)], [(7, some 13)], [(2, some 8), (5, some 11), (8, some 14)], []] (by kernel_rfl)
   (locB _) (fun a b => Below a.heap.size a b) noR [0, 0, 0, 0, 0, 0, 0, 0, 0, 0, 0] 0 (by kernel_rfl) (fun _ => Below.refl _ _) (fun _ _ _ => bthen) (locB_st hF _) trivial ?_ ?_
 · refine steps_cons ?s0 ( steps_cons ?s1 ( steps_cons ?s2 ( steps_cons ?s3 ( steps_cons ?s4 ( steps_cons ?s5 ( steps_cons ?s6 ( steps_cons ?s7 ( steps_cons ?s8 ( steps_cons ?s9 ( steps_cons ?s10 steps_nil))))))))))
   case s0 | s3 | s6 =>
     intro w' m' hE hR
     intro Q hQ
     go_wp2
     exact hQ _ _ _ rfl rfl (Below.refl _ _) trivial
   case s1 | s4 | s7 =>
     intro w' m' hE hR
     rintro _ rfl Q hQ
     obtain ⟨y0, y1, y2, y3, y4⟩ := unhide HX w' (below_undrew hE)
     go_wp2
     exact hQ _ _ _ rfl rfl (Below.refl _ _) trivial
   case s2 =>
     intro w' m' hE hR
     rintro _ rfl Q hQ
     obtain ⟨y0, y1, y2, y3, y4⟩ := unhide HX w' (below_undrew hE)
     have hsz := hE.size
     go_wp2_with fail
     refine (cloneEntries_any A1 c1 e.base w' y4.base (by omega)).mono ?_
     rintro x w2 ⟨A', c', rfl, o2, b2⟩
     go_wp2
     exact hQ _ _ _ rfl ⟨A', c', rfl, own_base o2 hsz⟩ b2 trivial
   case s5 =>
     intro w' m' hE hR
     rintro _ rfl Q hQ
     obtain ⟨y0, y1, y2, y3, y4⟩ := unhide HX w' (below_undrew hE)
     have hsz := hE.size
     refine wpList_app0 rfl (.const (.slice none 0 0)) (.tmp 10) 30 rfl el_actz rfl (own_nil _ W.heap.size _ _) rfl y4.list (len_acts e.list) (one_acts2 e.list) (by simp only [maxLen]; omega) (by omega) hsz ?_
     intro A' c' w2 o2 b2
     go_wp2
     exact hQ _ _ _ rfl ⟨A', c', rfl, o2⟩ b2 trivial
   case s8 =>
     intro w' m' hE hR
     rintro _ rfl Q hQ
     obtain ⟨y0, y1, y2, y3, y4⟩ := unhide HX w' (below_undrew hE)
     have hsz := hE.size
     refine wpList_app0 rfl (.const (.slice none 0 0)) (.tmp 13) 93 rfl el_ver rfl (own_nil _ W.heap.size _ _) rfl y4.vers (length_flat encV 3 (fun _ => rfl) e.vers) (one_vers e.vers) (by simp only [maxLen]; omega) (by omega) hsz ?_
     intro A' c' w2 o2 b2
     go_wp2
     exact hQ _ _ _ rfl ⟨A', c', rfl, o2⟩ b2 trivial
   case s9 =>
     intro w' m' hE hR
     rintro _ ⟨B1, d1, rfl, o1⟩ _ ⟨B2, d2, rfl, o2⟩ _ ⟨B3, d3, rfl, o3⟩ Q hQ
     go_wp2
     exact hQ _ _ _ rfl ⟨B1, d1, B2, d2, B3, d3, rfl, o1, o2, o3⟩ (Below.refl _ _) trivial
   case s10 =>
     intro w' m' hE hR
     intro Q hQ
     have hsz := hE.size
     go_wp2
     exact hQ _ _ _ rfl ⟨w'.heap.size, rfl, hsz, Blk.new _ _ _⟩ ((Below.refl _ _).alloc (Nat.le_refl _) _) trivial
 intro w9 hE _
 rintro v0 - v1 - v2 - v3 - v4 - v5 - v6 - v7 - v8 - v9 ⟨B1, d1, B2, d2, B3, d3, rfl, o1, o2, o3⟩ v10 ⟨g, rfl, hg, kg⟩
 change wpList _ _ _ [_] _ _
 simp only [Act.put, List.setIfInBounds_toArray, List.set_cons_succ, List.set_cons_zero]
 have b9 := below_undrew hE
 have hgl := kg.lt
 have r1 := own_off o1 kg ne_eng.1
 have r2 := own_off o2 kg ne_eng.2.1
 have r3 := own_off o3 kg ne_eng.2.2.1
 clear o1 o2 o3 hE hF
 go_wp2_with (refine wpList_store_row rfl 96 (.tmp 3) (.tmp 15) rfl g #[.slice B1 e.base.length d1, .slice B2 e.list.length d2, .slice B3 e.vers.length d3, .slice none 0 0] rfl rfl 96 #[.slice none 0 0, .slice none 0 0, .slice none 0 0, .slice none 0 0] kg info_eng4 rfl (sl4_one _ _ _ _ _ _ _ _ _ _ _ _) ?_; refine at_world (C := fun W => wpList _ _ _ _ _ W) (F := fun W2 => Blk W2 g 96 #[.slice B1 e.base.length d1, .slice B2 e.list.length d2, .slice B3 e.vers.length d3, .slice none 0 0] ∧ Below W.heap.size W W2 ∧ Chg (fun q => q = g) w9 W2 ∧ g < W2.heap.size) ⟨blk_setRow kg, below_setRow b9 hg _, ⟨rfl, rfl, rfl, by rw [size_setRow]; exact Nat.le_refl _, fun k _ hk => setRow_other w9 g k _ hk⟩, by rw [size_setRow]; exact hgl⟩ ?_; rintro W2 ⟨kg2, b2, ch2, hg2⟩; obtain ⟨y0, y1, y2, y3, -⟩ := unhide HX W2 b2)
 have HB := hide (show RdP (fun k => W.heap.size ≤ k ∧ k < W2.heap.size ∧ k ≠ g) W2 B1 (e.base.flatMap encE) ∧ RdP (fun k => W.heap.size ≤ k ∧ k < W2.heap.size ∧ k ≠ g) W2 B2 (e.list.flatMap encA) ∧ RdP (fun k => W.heap.size ≤ k ∧ k < W2.heap.size ∧ k ≠ g) W2 B3 (e.vers.flatMap encV) from
   ⟨(r1.keep (Kp.chg ch2 fun k hk => hk.2)).mono fun k hk hkw => ⟨hk.1, hkw, hk.2⟩, (r2.keep (Kp.chg ch2 fun k hk => hk.2)).mono fun k hk hkw => ⟨hk.1, hkw, hk.2⟩, (r3.keep (Kp.chg ch2 fun k hk => hk.2)).mono fun k hk hkw => ⟨hk.1, hkw, hk.2⟩⟩)
 have hW2 := b2.size
 have HG := hide hg
 clear kg r1 r2 r3 ch2 b9 hgl hg
 go_loopw [5, 19] (fun _ i wr => ∃ (k : Nat) (A' : Option Addr) (c' : Nat) (vs : List (List Value)), k ≤ e.slots.length ∧ i = .int .i64 k ∧ AllR sltR (Off W2.heap.size A') wr (e.slots.take k) vs ∧ wr.ownsRow W2.heap.size 141 6 (.slice A' k c') k vs.flatten ∧ Blk wr g 96 #[.slice B1 e.base.length d1, .slice B2 e.list.length d2, .slice B3 e.vers.length d3, .slice A' k c'] ∧ Kp (fun q => W.heap.size ≤ q ∧ q < W2.heap.size ∧ q ≠ g) W2 wr ∧ Below W.heap.size W wr) (fun _ i _ => e.slots.length - (intOf i).toNat)
 case atStart => exact ⟨0, none, 0, [], Nat.zero_le _, rfl, trivial, own_nil _ _ _ _, kg2, Kp.refl _ _, b2⟩
 case round =>
   clear kg2 b2 y0 y1 y2 y3
   obtain ⟨k, A', c', vs, hk, rfl, hall, hown, kg, hkp, hB⟩ := hrel
   have hwr := hkp.1
   have hglt := kg.lt
   have q0 : wr.cell? ⟨g, 0, none⟩ = some (.slice B1 e.base.length d1) := kg.cell 0
   have q1 : wr.cell? ⟨g, 1, none⟩ = some (.slice B2 e.list.length d2) := kg.cell 1
   have q2 : wr.cell? ⟨g, 2, none⟩ = some (.slice B3 e.vers.length d3) := kg.cell 2
   have q3 : wr.cell? ⟨g, 3, none⟩ = some (.slice A' k c') := kg.cell 3
   by_cases hlt : k < e.slots.length
   · have i1 : (k : Int) < (e.slots.length : Int) := by omega
     obtain ⟨-, -, -, -, hE0⟩ := unhide HX wr hB
     obtain ⟨b, off, P0, d4, P1, d5, P2, d6, hA4, -, hbb, ⟨u0, u1, u2, u3, u4, u5⟩, s0, s1, s2⟩ := hE0.slots.slt hlt
     have hsl := unhide HSL k hlt
     rw [slAt_get e hlt] at hsl
     have HT := hide (show e.slots.take (k + 1) = e.slots.take k ++ [e.slots[k]] from List.take_succ_eq_append_getElem hlt)
     generalize e.slots[k] = s at *
     have HA4 := hide hA4
     have HRO := hide (own_rng hown)
     clear hA4 hE0
     rw [unhide HA4]
     go_wp2_with (refine wpList_store_row rfl 141 (.tmp 5) (.tmp 22) rfl wr.heap.size (sltV s P0 d4 P1 d5 P2 d6).toArray rfl rfl 141 zS (box_new wr 141 zS (sltV s P0 d4 P1 d5 P2 d6).toArray).1 info_slt6 rfl (slt_one6 _ _ _ _ _ _ _) ?_; refine at_world (C := fun W => wpList _ _ _ _ _ W) (F := fun W => Blk W wr.heap.size 141 (sltV s P0 d4 P1 d5 P2 d6).toArray ∧ Below wr.heap.size wr W) ⟨(box_new wr 141 zS (sltV s P0 d4 P1 d5 P2 d6).toArray).2.1, (box_new wr 141 zS (sltV s P0 d4 P1 d5 P2 d6).toArray).2.2⟩ ?_; rintro w5 ⟨k5, b5⟩)
     have HY := hide (fun (w' : World) (hb : Below w5.heap.size w5 w') => show w'.cell? ⟨g, 3, none⟩ = some (.slice A' k c') ∧ (w'.cell? ⟨wr.heap.size, 0, none⟩ = some (.int .i64 s.stage) ∧ w'.cell? ⟨wr.heap.size, 1, none⟩ = some (.int .i64 s.tries) ∧ w'.cell? ⟨wr.heap.size, 2, none⟩ = some (.slice P0 s.frm.length d4) ∧ w'.cell? ⟨wr.heap.size, 3, none⟩ = some (.bool s.res.done) ∧ w'.cell? ⟨wr.heap.size, 4, none⟩ = some (.slice P1 s.res.reads.length d5) ∧ w'.cell? ⟨wr.heap.size, 5, none⟩ = some (.slice P2 s.res.writes.length d6)) ∧ (Rd w' P0 (s.frm.map (.int .i64)) ∧ Rd w' P1 (s.res.reads.flatMap encE) ∧ Rd w' P2 (s.res.writes.flatMap encE)) from ⟨((kg.new_ b5).new_ hb).cell 3, slt_cells (k5.new_ hb), s0.rd.new (bthen b5 hb), s1.rd.new (bthen b5 hb), s2.rd.new (bthen b5 hb)⟩)
     have hF : StBL [bV (.pointer (some ⟨g, 3, none⟩)), bV (.slice A' k c'), bV (.pointer (some ⟨wr.heap.size, 0, none⟩)), bV (.int .i64 s.stage), bV (.pointer (some ⟨wr.heap.size, 1, none⟩)), bV (.int .i64 s.tries), bV (.pointer (some ⟨wr.heap.size, 2, none⟩)), bV (.slice P0 s.frm.length d4), iRow wr.heap.size s.frm, bV (.pointer (some ⟨wr.heap.size, 3, none⟩)), bV (.agg #[.bool s.res.done, .slice P1 s.res.reads.length d5, .slice P2 s.res.writes.length d6]), effRow wr.heap.size s.res, sltB wr.heap.size s, sltRow1 wr.heap.size s] :=
       ⟨sb_V _, sb_V _, sb_V _, sb_V _, sb_V _, sb_V _, sb_V _, sb_V _, sb_iRow _ _, sb_V _, sb_V _, sb_effRow _ _, sb_sltB _ _, sb_sltRow1 _ _, trivial⟩
     go_upto_region 5 with fail
     refine wp_region_loc (by kernel_rfl) [(0, some 23), (1, some 24), (2, some 25), (3, some 26), (4, some 27), (5, some 28), (6, some 29), (7, some 30), (8, some 31), (9, some 32), (10, some 33), (11, some 34), (12, some 35), (13, some 36)] [[], [(0, some 23)], [], [(2, some 25)], [], [(4, some 27)], [], [(6, some 29)], [(7, some 30)], [], [(9, some 32)], [(10, some 33)], [(3, some 26), (5, some 28), (8, some 31), (11, some 34)], [(12, some 35)]] (by kernel_rfl)
       (locB _) (fun a b => Below a.heap.size a b) noR [0, 0, 0, 0, 0, 0, 0, 0, 0, 0, 0, 0, 0, 0] 0 (by kernel_rfl) (fun _ => Below.refl _ _) (fun _ _ _ => bthen) (locB_st hF _) trivial ?_ ?_
     · refine steps_cons ?s0 ( steps_cons ?s1 ( steps_cons ?s2 ( steps_cons ?s3 ( steps_cons ?s4 ( steps_cons ?s5 ( steps_cons ?s6 ( steps_cons ?s7 ( steps_cons ?s8 ( steps_cons ?s9 ( steps_cons ?s10 ( steps_cons ?s11 ( steps_cons ?s12 ( steps_cons ?s13 steps_nil)))))))))))))
       case s0 | s2 | s4 | s6 | s9 =>
         intro w' m' hE hR
         intro Q hQ
         go_wp2
         exact hQ _ _ _ rfl rfl (Below.refl _ _) trivial
       case s1 | s3 | s5 | s7 | s10 =>
         intro w' m' hE hR
         rintro _ rfl Q hQ
         obtain ⟨q3, ⟨v0, v1, v2, v3, v4, v5⟩, x0, x1, x2⟩ := unhide HY w' (below_undrew hE)
         go_wp2
         exact hQ _ _ _ rfl rfl (Below.refl _ _) trivial
       case s8 =>
         intro w' m' hE hR
         rintro _ rfl Q hQ
         obtain ⟨q3, ⟨v0, v1, v2, v3, v4, v5⟩, x0, x1, x2⟩ := unhide HY w' (below_undrew hE)
         have hsz := hE.size
         have hsz5 := b5.size
         refine wpList_app0 rfl (.const (.slice none 0 0)) (.tmp 30) 26 rfl el_int rfl (own_nil _ wr.heap.size _ _) rfl x0 (by simp) (one_ia s.frm) (by simp only [maxLen]; omega) (by omega) (Nat.le_trans hsz5 hsz) ?_
         intro A9 c9 w2 o2 b2
         go_wp2
         exact hQ _ _ _ rfl ⟨A9, c9, rfl, own_rdB o2 (Nat.le_refl _)⟩ b2 trivial
       case s11 =>
         intro w' m' hE hR
         rintro _ rfl Q hQ
         obtain ⟨q3, ⟨v0, v1, v2, v3, v4, v5⟩, x0, x1, x2⟩ := unhide HY w' (below_undrew hE)
         have hsz := hE.size
         have hsz5 := b5.size
         go_wp2_with fail
         refine (effClone_impl s.res P1 d5 P2 d6 w' x1 x2 (by omega) (by omega)).mono ?_
         rintro x w2 ⟨B7, d7, B8, d8, rfl, o1, o2, -, b2⟩
         go_wp2
         exact hQ _ _ _ rfl ⟨B7, d7, B8, d8, rfl, own_rdB o1 (Nat.le_trans hsz5 hsz), own_rdB o2 (Nat.le_trans hsz5 hsz)⟩ b2 trivial
       case s12 =>
         intro w' m' hE hR
         rintro _ rfl _ rfl _ ⟨A9, c9, rfl, z0⟩ _ ⟨B7, d7, B8, d8, rfl, z1, z2⟩ Q hQ
         go_wp2
         exact hQ _ _ _ rfl ⟨A9, c9, B7, d7, B8, d8, rfl, A9, c9, B7, d7, B8, d8, rfl, z0, z1, z2⟩ (Below.refl _ _) trivial
       case s13 =>
         intro w' m' hE hR
         rintro _ ⟨A9, c9, B7, d7, B8, d8, rfl, z0⟩ Q hQ
         go_wp2
         exact hQ _ _ _ rfl ⟨_, A9, c9, B7, d7, B8, d8, rfl, rd_lit w' (sltV s A9 c9 B7 d7 B8 d8) _, slt_good.keep z0 (Kp.alloc _ _ _)⟩ ((Below.refl _ _).alloc (Nat.le_refl _) _) trivial
     intro w7 hE _
     rintro v0 - v1 hv1 v2 - v3 - v4 - v5 - v6 - v7 - v8 - v9 - v10 - v11 - v12 - v13 ⟨ql, A9, c9, B7, d7, B8, d8, rfl, rl, hx⟩
     obtain rfl : v1 = _ := hv1
     change wpList _ _ _ [_, _, _] _ _
     simp only [Act.put, List.setIfInBounds_toArray, List.set_cons_succ, List.set_cons_zero]
     have b57 := bthen b5 (below_undrew hE)
     clear hE hF
     have hs7 := b57.size
     have oA := own_new hown b57
     have kg7s := kg.new_ b57
     go_wp2_with (at_builtin; refine wpList_app rfl (.tmp 24) (.tmp 36) 94 rfl el_slt rfl oA rfl rl rfl (sltV_one s A9 c9 B7 d7 B8 d8) (by simp only [maxLen]; omega) (by omega) (by omega) ?_; intro A8 c8 w8 o8 ch8 d8' _; have kg8 := kg7s.chg ch8 (fun e => by have := unhide HRO _ e; omega); have h1 : w8.cell? ⟨g, 3, none⟩ = some (.slice A' k c') := kg8.cell 3; have h2 : w8.frozen? ⟨g, 3, none⟩ = false := kg8.frozen 3)
     have hall7 := hall.keep slt_good (Kp.below (P := Off W2.heap.size A') b57)
     have hall8 := deep_app2 slt_good hall7 hx hwr (fun q hq => unhide HRO q hq) ch8 d8'
     have chG : Chg (fun q => q = g) w8 (w8.setCell ⟨g, 3, none⟩ (.slice A8 (k + 1) c8)) := (Chg.refl (fun q => q = g) w8).setCell (p := ⟨g, 3, none⟩) (.inl rfl) _
     have hall9 := hall8.keep slt_good (Kp.chg (P := Off W2.heap.size A8) chG fun q hq e => by have := hq.1; omega)
     have hrg8 := own_rng o8
     have hown9 := own_chg o8 chG (fun q hq e => by have := hrg8 q hq; omega)
     have kg9 : Blk (w8.setCell ⟨g, 3, none⟩ (.slice A8 (k + 1) c8)) g 96 #[.slice B1 e.base.length d1, .slice B2 e.list.length d2, .slice B3 e.vers.length d3, .slice A8 (k + 1) c8] := kg8.set_ 3 _
     have hkp9 := ((hkp.trans (Kp.below (P := fun q => W.heap.size ≤ q ∧ q < W2.heap.size ∧ q ≠ g) b57)).trans (Kp.chg ch8 fun q hq e => by have := unhide HRO q e; omega)).trans (Kp.chg (P := fun q => W.heap.size ≤ q ∧ q < W2.heap.size ∧ q ≠ g) chG fun q hq e => hq.2.2 e)
     have hB9 : Below W.heap.size W (w8.setCell ⟨g, 3, none⟩ (.slice A8 (k + 1) c8)) := ((bthen hB b57).trans (ch8.below (fun q hq e => by have := unhide HRO q e; omega) (by omega))).trans (chG.below (fun q hq e => by have := unhide HG; omega) (by have := ch8.size; omega))
     clear hall hall7 hall8
     go_roundw
     case rel => exact ⟨k + 1, A8, c8, _, by omega, by go_num, by rw [unhide HT]; exact hall9, by rw [List.flatten_append]; simpa using hown9, kg9, hkp9, hB9⟩
     case measure => simp [intOf]; omega
   · obtain rfl : k = e.slots.length := by omega
     rw [List.take_length] at hall
     have kR := unhide HK1 wr hB
     have hwW := hB.size
     obtain ⟨r1, r2, r3⟩ := unhide HB
     have HRO := hide (own_rng hown)
     have HG2 := unhide HG
     have hfin2 : EngOwn (fun k => w.heap.size + 2 ≤ k ∧ A' ≠ some ⟨k, 0, none⟩) w.heap.size wr e B1 B2 B3 A' c' :=
       ⟨(r1.keep hkp).mono fun q hq _ => ⟨by omega, fun he => by have := unhide HRO q he; omega⟩, (r2.keep hkp).mono fun q hq _ => ⟨by omega, fun he => by have := unhide HRO q he; omega⟩, (r3.keep hkp).mono fun q hq _ => ⟨by omega, fun he => by have := unhide HRO q he; omega⟩, vs, hall.mono slt_good fun q hq _ => ⟨by have := hq.1; omega, hq.2⟩, own_base hown (by omega)⟩
     clear hall hown r1 r2 r3 hkp
     go_wp2_with (refine wpList_store_row rfl 96 (.tmp 2) (.tmp 40) rfl (w.heap.size + 1) #[.slice B1 e.base.length d1, .slice B2 e.list.length d2, .slice B3 e.vers.length d3, .slice A' e.slots.length c'] rfl rfl 96 #[.slice none 0 0, .slice none 0 0, .slice none 0 0, .slice none 0 0] kR info_eng4 rfl (sl4_one _ _ _ _ _ _ _ _ _ _ _ _) ?_)
     refine bodyPost_ret (v := .agg #[.slice B1 e.base.length d1, .slice B2 e.list.length d2, .slice B3 e.vers.length d3, .slice A' e.slots.length c']) (results_cell_row (p := 2) (ty := 96) rfl _ _ (w.heap.size + 1) 96 #[.slice B1 e.base.length d1, .slice B2 e.list.length d2, .slice B3 e.vers.length d3, .slice A' e.slots.length c'] (0, 0) _ rfl (blk_setRow kR) Tryz.underlying96 rfl info_eng4) rfl ?_
     refine ⟨B1, d1, B2, d2, B3, d3, A', c', rfl, ?_, below_setRow (bthen' hb0 hB) (by omega) _⟩
     exact (hfin2.keep (w' := wr.setRow (w.heap.size + 1) _) ⟨by rw [size_setRow]; exact Nat.le_refl _, fun q hq _ => setRow_other wr (w.heap.size + 1) q _ (by omega)⟩ (fun q hq _ => setRow_other wr (w.heap.size + 1) q _ (by have := unhide HRO q hq; omega))).mono fun q hq _ => ⟨by omega, hq.2⟩
end Go.Proofs.YtihlhejencninaaGreat
