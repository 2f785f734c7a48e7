/- Engines that run, of the reference (printed by gen_in.py from xengruns.in). -/
import Derived.Test.YtihlhejencninaaGreatStepS
import Derived.Test.YtihlhejencninaaGreatEngRun
import Derived.Test.YtihlhejencninaaGreatEngFin
namespace Go.Proofs.YtihlhejencninaaGreat
open Go.RowKit
set_option linter.unusedVariables false
set_option linter.unusedSimpArgs false

def zRow (B : Nat) (al : List Act) (v : Value) (w : World) : Prop := ∃ q, v = .slice (some ⟨q, 0, none⟩) al.length al.length ∧ RdD sltR (fun k => B ≤ k) w (some ⟨q, 0, none⟩) (al.map fun _ => zSlt)
theorem sb_zRow (B : Nat) (al : List Act) : StB (zRow B al) := fun _ _ _ hb ⟨q, h1, h2⟩ => ⟨q, h1, h2.new slt_good hb⟩
theorem zSlts_rdB {β : Type} (w : World) (al : List β) (t : TypeId) {B : Nat} (hB : B ≤ w.heap.size) : RdD sltR (fun k => B ≤ k) (w.alloc (.cells (List.replicate al.length [Value.int .i64 0, .int .i64 0, .slice none 0 0, .bool false, .slice none 0 0, .slice none 0 0]).flatten.toArray t)) (some ⟨w.heap.size, 0, none⟩) (al.map fun _ => zSlt) :=
  ⟨_, zSlts_all _ _ al, RdP.of_rd (rd_lit w _ t) fun b o h => by injection h with h; injection h with h; omega⟩
/-- an engine in a variable that is only read -/
structure EngSq (B g : Nat) (w : World) (e : Eng) (A1 : Option Addr) (c1 : Nat) (A2 : Option Addr) (c2 : Nat) (A3 : Option Addr) (c3 : Nat) (A4 : Option Addr) (c4 : Nat) : Prop where
  le : B ≤ g
  box : Blk w g 96 (engA e A1 c1 A2 c2 A3 c3 A4 c4)
  own : EngOwn (fun k => B ≤ k ∧ k ≠ g) B w e A1 A2 A3 A4 c4
  ne : A4 ≠ some ⟨g, 0, none⟩
def EngW (B g : Nat) (w : World) (e : Eng) : Prop := ∃ A1 c1 A2 c2 A3 c3 A4 c4, EngSq B g w e A1 c1 A2 c2 A3 c3 A4 c4
section
variable {B g : Nat} {w w' : World} {e : Eng} {A1 A2 A3 A4 : Option Addr} {c1 c2 c3 c4 : Nat}
theorem EngSq.v (h : EngSq B g w e A1 c1 A2 c2 A3 c3 A4 c4) : EngW B g w e := ⟨_, _, _, _, _, _, _, _, h⟩
theorem EngSt.q (h : EngSt B g w e A1 c1 A2 c2 A3 c3 A4 c4) : EngSq B g w e A1 c1 A2 c2 A3 c3 A4 c4 := ⟨h.le, h.box, h.own.mono fun k hk _ => ⟨hk.1, hk.2.1⟩, h.ne⟩
theorem EngSq.new (h : EngSq B g w e A1 c1 A2 c2 A3 c3 A4 c4) (hb : Below w.heap.size w w') : EngSq B g w' e A1 c1 A2 c2 A3 c3 A4 c4 := ⟨h.le, h.box.new_ hb, h.own.new hb, h.ne⟩
theorem EngSq.lt (h : EngSq B g w e A1 c1 A2 c2 A3 c3 A4 c4) : g < w.heap.size := h.box.lt
theorem EngSq.cells (h : EngSq B g w e A1 c1 A2 c2 A3 c3 A4 c4) : w.cell? ⟨g, 0, none⟩ = some (.slice A1 e.base.length c1) ∧ w.cell? ⟨g, 1, none⟩ = some (.slice A2 e.list.length c2) ∧ w.cell? ⟨g, 2, none⟩ = some (.slice A3 e.vers.length c3) ∧ w.cell? ⟨g, 3, none⟩ = some (.slice A4 e.slots.length c4) ∧ ∀ j, w.frozen? ⟨g, j, none⟩ = false := ⟨h.box.cell 0, h.box.cell 1, h.box.cell 2, h.box.cell 3, h.box.frozen⟩
/-- another engine is stored -/
theorem EngSq.put {V : Nat} {old : Array Value} (h : EngOwn (fun k => V ≤ k) V w e A1 A2 A3 A4 c4) (hk : Blk w g 96 old) (hB : B ≤ g) (hg : g < V) : EngSq B g (w.setRow g (engA e A1 c1 A2 c2 A3 c3 A4 c4)) e A1 c1 A2 c2 A3 c3 A4 c4 := by
  have h2 := h.keep (w' := w.setRow g (engA e A1 c1 A2 c2 A3 c3 A4 c4)) ⟨by rw [size_setRow]; exact Nat.le_refl _, fun k hk _ => setRow_other w g k _ (by omega)⟩ (fun k hk _ => setRow_other w g k _ (by have := (h.rng k hk).1; omega))
  exact ⟨hB, blk_setRow hk, (h2.mono fun k hk _ => ⟨by omega, by omega⟩).lower (by omega), fun he => by have := (h.rng g he).1; omega⟩
end
/-- the rows of an engine by value lie outside a variable -/
def RowE (B : Nat) (e : Eng) (f : Array Value → Value) (v u : Value) (w : World) : Prop := ∃ B1 f1 B2 f2 B3 f3 B4 f4, v = f (engA e B1 f1 B2 f2 B3 f3 B4 f4) ∧ EngOwn (fun k => B ≤ k ∧ u ≠ .pointer (some ⟨k, 0, none⟩)) B w e B1 B2 B3 B4 f4 ∧ ∀ k, B4 = some ⟨k, 0, none⟩ → u ≠ .pointer (some ⟨k, 0, none⟩)
theorem RowE.new {B : Nat} {e : Eng} {f : Array Value → Value} {v u : Value} {w w' : World} (h : RowE B e f v u w) (hb : Below w.heap.size w w') : RowE B e f v u w' := by
  obtain ⟨B1, f1, B2, f2, B3, f3, B4, f4, h0, h1, h2⟩ := h
  exact ⟨B1, f1, B2, f2, B3, f3, B4, f4, h0, h1.new hb, h2⟩
theorem RowE.lay {B : Nat} {e : Eng} {f : Array Value → Value} {v u : Value} {w w' : World} (h : RowE B e f v u w) (hb : Below w.heap.size w w') : RowE B e f v (.pointer (some ⟨w.heap.size, 0, none⟩)) w' := by
  obtain ⟨B1, f1, B2, f2, B3, f3, B4, f4, h0, h1, h2⟩ := h
  refine ⟨B1, f1, B2, f2, B3, f3, B4, f4, h0, (h1.mono fun k hk hkl => ⟨hk.1, fun he => ?_⟩).new hb, fun k hk he => ?_⟩
  · have := (h1.rng k hk).2; injection he with he; injection he with he; injection he with he; omega
  · injection he with he; injection he with he; injection he with he; omega
theorem RowE.set {B : Nat} {e : Eng} {f : Array Value → Value} {v : Value} {q : Nat} {w : World} (h : RowE B e f v (.pointer (some ⟨q, 0, none⟩)) w) (cs : Array Value) : RowE B e f v (.pointer (some ⟨q, 0, none⟩)) (w.setRow q cs) := by
  obtain ⟨B1, f1, B2, f2, B3, f3, B4, f4, h0, h1, h2⟩ := h
  exact ⟨B1, f1, B2, f2, B3, f3, B4, f4, h0, h1.keep ⟨by rw [size_setRow]; exact Nat.le_refl _, fun k hk _ => setRow_other w q k _ fun he => hk.2 (by rw [he])⟩ (fun k hk _ => setRow_other w q k _ fun he => h2 k hk (by rw [he])), h2⟩
/-- a region that runs a step (slot a; by value c, d) and lays a variable (slot p) and stores into it (at s) -/
structure RE (a c d p : Nat) (B : Nat) (e : Eng) (ok : Bool) (b : Bool) (vs : Nat → Value) (w : World) : Prop where
  bx : vs p = undef ∨ ∃ q cs, vs p = .pointer (some ⟨q, 0, none⟩) ∧ B ≤ q ∧ Blk w q 96 cs ∧ cs.size = 4 ∧ (b = true → vs d = .agg cs)
  r5 : vs a = undef ∨ RowE B e (fun x => .tuple #[.agg x, .bool ok]) (vs a) (vs p) w
  r6 : vs c = undef ∨ RowE B e (fun x => .tuple #[.agg x, .bool ok]) (vs c) (vs p) w
  r7 : vs d = undef ∨ RowE B e .agg (vs d) (vs p) w
section
variable {a c d p B : Nat} {e : Eng} {ok b : Bool} {vs : Nat → Value} {w w' : World}
theorem RE.zero : RE a c d p B e ok false (fun _ => undef) w := ⟨.inl rfl, .inl rfl, .inl rfl, .inl rfl⟩
theorem RE.other (h : RE a c d p B e ok b vs w) (s i : Nat) (v : Value) (hb : Below w.heap.size w w') (h1 : i ≠ a) (h2 : i ≠ c) (h3 : i ≠ d) (h4 : i ≠ p) (h5 : i ≠ s) : RE a c d p B e ok (i == s || b) (fun j => if j = i then v else vs j) w' := by
  rw [show (i == s || b) = b by simp [h5]]
  refine ⟨?_, ?_, ?_, ?_⟩
  · simp only [if_neg (Ne.symm h4), if_neg (Ne.symm h3)]
    exact h.bx.imp id fun ⟨q, cs, k1, k2, k3, ks, k4⟩ => ⟨q, cs, k1, k2, k3.new_ hb, ks, k4⟩
  · simp only [if_neg (Ne.symm h4), if_neg (Ne.symm h1)]; exact h.r5.imp id fun r => r.new hb
  · simp only [if_neg (Ne.symm h4), if_neg (Ne.symm h2)]; exact h.r6.imp id fun r => r.new hb
  · simp only [if_neg (Ne.symm h4), if_neg (Ne.symm h3)]; exact h.r7.imp id fun r => r.new hb
theorem RE.call {B1 : Option Addr} {f1 : Nat} {B2 : Option Addr} {f2 : Nat} {B3 : Option Addr} {f3 : Nat} {B4 : Option Addr} {f4 : Nat} (h : RE a c d p B e ok false vs w) (hown : EngOwn (fun k => w.heap.size ≤ k) w.heap.size w' e B1 B2 B3 B4 f4) (hb : Below w.heap.size w w') (hB : B ≤ w.heap.size) (s : Nat) (h2 : a ≠ c) (h3 : a ≠ d) (h4 : a ≠ p) (h5 : a ≠ s) : RE a c d p B e ok (a == s || false) (fun j => if j = a then .tuple #[.agg (engA e B1 f1 B2 f2 B3 f3 B4 f4), .bool ok] else vs j) w' := by
  rw [show (a == s || false) = false by simp [h5]]
  refine ⟨?_, ?_, ?_, ?_⟩
  · simp only [if_neg (Ne.symm h4), if_neg (Ne.symm h3)]
    exact h.bx.imp id fun ⟨q, cs, k1, k2, k3, ks, k4⟩ => ⟨q, cs, k1, k2, k3.new_ hb, ks, k4⟩
  · simp only [if_neg (Ne.symm h4), if_pos]
    have key : ∀ k, w.heap.size ≤ k → vs p ≠ .pointer (some ⟨k, 0, none⟩) := fun k hk he => by
      rcases h.bx with hx | ⟨q, cs, k1, -, k3, -, -⟩
      · rw [hx] at he; cases he
      · rw [k1] at he; injection he with he; injection he with he; injection he with he; have := k3.lt; omega
    exact .inr ⟨B1, f1, B2, f2, B3, f3, B4, f4, rfl, (hown.mono fun k hk _ => ⟨by omega, key k hk⟩).lower hB, fun k hk => key k (hown.rng k hk).1⟩
  · simp only [if_neg (Ne.symm h4), if_neg (Ne.symm h2)]; exact h.r6.imp id fun r => r.new hb
  · simp only [if_neg (Ne.symm h4), if_neg (Ne.symm h3)]; exact h.r7.imp id fun r => r.new hb
theorem RE.mv (h : RE a c d p B e ok false vs w) {v : Value} (hv : v = vs a) (hne : v ≠ undef) (s : Nat) (h1 : c ≠ a) (h3 : c ≠ d) (h4 : c ≠ p) (h5 : c ≠ s) : RE a c d p B e ok (c == s || false) (fun j => if j = c then v else vs j) w := by
  rw [show (c == s || false) = false by simp [h5]]
  refine ⟨?_, ?_, ?_, ?_⟩
  · simp only [if_neg (Ne.symm h4), if_neg (Ne.symm h3)]
    exact h.bx
  · simp only [if_neg (Ne.symm h4), if_neg (Ne.symm h1)]; exact h.r5
  · simp only [if_neg (Ne.symm h4), if_pos]; rw [hv]; exact h.r5
  · simp only [if_neg (Ne.symm h4), if_neg (Ne.symm h3)]; exact h.r7
theorem RE.ext (h : RE a c d p B e ok false vs w) {v : Value} (hv : RowE B e .agg v (vs p) w) (s : Nat) (h1 : d ≠ a) (h2 : d ≠ c) (h4 : d ≠ p) (h5 : d ≠ s) : RE a c d p B e ok (d == s || false) (fun j => if j = d then v else vs j) w := by
  rw [show (d == s || false) = false by simp [h5]]
  refine ⟨?_, ?_, ?_, ?_⟩
  · simp only [if_neg (Ne.symm h4), if_pos]
    exact h.bx.imp id fun ⟨q, cs, k1, k2, k3, ks, k4⟩ => ⟨q, cs, k1, k2, k3, ks, fun h => by cases h⟩
  · simp only [if_neg (Ne.symm h4), if_neg (Ne.symm h1)]; exact h.r5
  · simp only [if_neg (Ne.symm h4), if_neg (Ne.symm h2)]; exact h.r6
  · simp only [if_neg (Ne.symm h4), if_pos]; exact .inr hv
theorem RE.lay (h : RE a c d p B e ok false vs w) (cs : Array Value) (hcs : cs.size = 4) (hB : B ≤ w.heap.size) (s : Nat) (h1 : p ≠ a) (h2 : p ≠ c) (h3 : p ≠ d) (h5 : p ≠ s) : RE a c d p B e ok (p == s || false) (fun j => if j = p then .pointer (some ⟨w.heap.size, 0, none⟩) else vs j) (w.alloc (.cells cs 96)) := by
  rw [show (p == s || false) = false by simp [h5]]
  have hb : Below w.heap.size w (w.alloc (.cells cs 96)) := (Below.refl _ _).alloc (Nat.le_refl _) _
  refine ⟨?_, ?_, ?_, ?_⟩
  · simp only [if_pos]
    exact .inr ⟨_, _, rfl, hB, Blk.new _ _ _, hcs, fun h => by cases h⟩
  · simp only [if_pos, if_neg (Ne.symm h1)]; exact h.r5.imp id fun r => r.lay hb
  · simp only [if_pos, if_neg (Ne.symm h2)]; exact h.r6.imp id fun r => r.lay hb
  · simp only [if_pos, if_neg (Ne.symm h3)]; exact h.r7.imp id fun r => r.lay hb
theorem RE.sto {q s : Nat} {old cs : Array Value} (h : RE a c d p B e ok b vs w) (hp : vs p = .pointer (some ⟨q, 0, none⟩)) (hq : B ≤ q) (hk : Blk w q 96 old) (hd : vs d = .agg cs) (hcs : cs.size = 4) (v : Value) (h1 : s ≠ a) (h2 : s ≠ c) (h3 : s ≠ d) (h4 : s ≠ p) : RE a c d p B e ok (s == s || b) (fun j => if j = s then v else vs j) (w.setRow q cs) := by
  have g5 := h.r5
  have g6 := h.r6
  have g7 := h.r7
  rw [hp] at g5 g6 g7
  refine ⟨?_, ?_, ?_, ?_⟩
  · simp only [if_neg (Ne.symm h4), if_neg (Ne.symm h3)]
    exact .inr ⟨q, cs, hp, hq, blk_setRow hk, hcs, fun _ => hd⟩
  · simp only [if_neg (Ne.symm h4), if_neg (Ne.symm h1), hp]; exact g5.imp id fun r => r.set cs
  · simp only [if_neg (Ne.symm h4), if_neg (Ne.symm h2), hp]; exact g6.imp id fun r => r.set cs
  · simp only [if_neg (Ne.symm h4), if_neg (Ne.symm h3), hp]; exact g7.imp id fun r => r.set cs
/-- what stands in the variable in the end -/
theorem RE.fin (h : RE a c d p B e ok true vs w) (hp : vs p ≠ undef) (hd : vs d ≠ undef) : ∃ q B1 f1 B2 f2 B3 f3 B4 f4, vs p = .pointer (some ⟨q, 0, none⟩) ∧ B ≤ q ∧ Blk w q 96 (engA e B1 f1 B2 f2 B3 f3 B4 f4) ∧ EngOwn (fun k => B ≤ k ∧ k ≠ q) B w e B1 B2 B3 B4 f4 ∧ B4 ≠ some ⟨q, 0, none⟩ := by
  rcases h.bx with hx | ⟨q, cs, k1, k2, k3, ks, k4⟩
  · exact absurd hx hp
  rcases h.r7 with hx | ⟨B1, f1, B2, f2, B3, f3, B4, f4, j0, j1, j2⟩
  · exact absurd hx hd
  have := k4 rfl
  rw [j0] at this
  injection this with this
  subst this
  rw [k1] at j1 j2
  exact ⟨q, B1, f1, B2, f2, B3, f3, B4, f4, k1, k2, k3, j1.mono fun k hk _ => ⟨hk.1, fun he => hk.2 (by rw [he])⟩, fun he => j2 q he rfl⟩
end
set_option maxRecDepth 100000 in
set_option maxHeartbeats 4000000 in
theorem engineOf_spec (A : Option Addr) (c : Nat) (s : List Ent) (B : Option Addr) (cb : Nat) (al : List Act) (w : World) (ha : Rd w A (s.flatMap encE)) (hb : Rd w B (al.flatMap encA)) (hs : storeB s = true) (hal : actsB al = true) :
    Calls Tryz.prog 67 #[.slice A s.length c, .slice B al.length cb] w fun x w' => ∃ B1 d1 B2 d2 B3 d3 B4 d4, x = .returned (.agg (engA (eng0 s al) B1 d1 B2 d2 B3 d3 B4 d4)) ∧ EngRd w' (eng0 s al) B1 B2 B3 B4 ∧ Below w.heap.size w w' := by
  have hsl := store_len hs
  have hll := (actsB_yes hal).1
  obtain ⟨W, hW⟩ : ∃ W : World, W = w.alloc (.cells #[.slice none 0 0, .slice none 0 0, .slice none 0 0, .slice none 0 0] 96) := ⟨_, rfl⟩
  have hb0 : Below w.heap.size w W := by rw [hW]; exact (Below.refl _ _).alloc (Nat.le_refl _) _
  have K0 : Blk W w.heap.size 96 #[.slice none 0 0, .slice none 0 0, .slice none 0 0, .slice none 0 0] := by rw [hW]; exact Blk.new _ _ _
  have hW1 := K0.lt
  have KS : Calls Tryz.prog 48 #[.slice A s.length c] W fun e w'' => e = .returned (.bool true) ∧ ∃ m, W.drewN m = w'' := hs ▸ storeB_store_spec A c s W (ha.new hb0) (by omega)
  have HKA := hide (fun (w' : World) (hb' : Below w.heap.size w w') => actionsValid_spec B cb al w' (hb.new hb') (by omega))
  have HAL := hide hal
  have HMK := hide (fun w' => make_slt al.length (by omega) w')
  have HK0 := hide (fun (w' : World) (hb' : Below W.heap.size W w') => K0.new_ hb')
  have HA := hide (fun (w' : World) (hb' : Below w.heap.size w w') => ha.new hb')
  have HB := hide (fun (w' : World) (hb' : Below w.heap.size w w') => hb.new hb')
  clear K0 ha hb hs hal
  go_enter Tryz.func67, Tryz.ntmps67
  go_upto_region 1 with fail
  rw [← hW]
  clear hW
  go_wp2_with fail
  refine KS.mono ?_
  rintro x w3 ⟨rfl, m, hm⟩
  have b3 : Below W.heap.size W w3 := by rw [← hm]; exact below_drewN (Below.refl _ _) m
  clear KS hm
  go_wp2_with fail
  refine (unhide HKA w3 (bthen hb0 b3)).mono ?_
  rintro x w4 ⟨rfl, b4⟩
  rw [unhide HAL]
  have b34 := bthen b3 b4
  have hw4 := b34.size
  go_wp2
  have hF : StBL [eOwn 79 2 w4.heap.size, bV (.slice A s.length c), sOwn w4.heap.size s, eOwn 56 4 w4.heap.size, bV (.slice B al.length cb), acOwn w4.heap.size al, bV (.slice B al.length cb), bV (.int .i64 (al.length : Int)), zRow w4.heap.size al] :=
    ⟨sb_eOwn _ _ _, sb_V _, sb_Own _ _, sb_eOwn _ _ _, sb_V _, sb_acOwn _ _, sb_V _, sb_V _, sb_zRow _ _, trivial⟩
  go_upto_region 3 with fail
  refine wp_region_loc (by kernel_rfl) [(0, some 14), (1, some 15), (2, some 16), (3, some 17), (4, some 18), (5, some 19), (6, some 20), (7, some 21), (8, some 22)] [[], [], [(0, some 14), (1, some 15)], [], [], [(3, some 17), (4, some 18)], [], [(6, some 20)], [(7, some 21)]] (by kernel_rfl)
    (locB _) (fun a b => Below a.heap.size a b) noR [0, 0, 0, 0, 0, 0, 0, 0, 0] 0 (by kernel_rfl) (fun _ => Below.refl _ _) (fun _ _ _ => bthen) (locB_st hF _) trivial ?_ ?_
  · refine steps_cons ?s0 ( steps_cons ?s1 ( steps_cons ?s2 ( steps_cons ?s3 ( steps_cons ?s4 ( steps_cons ?s5 ( steps_cons ?s6 ( steps_cons ?s7 ( steps_cons ?s8 steps_nil))))))))
    case s0 =>
      intro w' m' hE hR
      intro Q hQ
      have hsz := hE.size
      go_wp2
      exact hQ _ _ _ rfl ⟨_, rfl, by simpa using own_made (base := w4.heap.size) (e := 79) (size := 2) w' #[] 0 hsz (by simp [maxLen]) rfl⟩ ((Below.refl _ _).alloc (Nat.le_refl _) _) trivial
    case s1 =>
      intro w' m' hE hR
      intro Q hQ
      go_wp2
      exact hQ _ _ _ rfl rfl (Below.refl _ _) trivial
    case s2 =>
      intro w' m' hE hR
      rintro _ ⟨A', rfl, oA⟩ _ rfl Q hQ
      have bb := below_undrew hE
      have hsz := bb.size
      refine wpList_app0 rfl (.tmp 14) (.tmp 15) 34 rfl el_ent rfl oA rfl (unhide HA w' (bthen hb0 (bthen b34 bb))) (length_flat encE 2 encE_len s) (one_ents s) (by simp only [maxLen]; omega) (by omega) hsz ?_
      intro A9 c9 w2 o2 b2
      go_wp2
      exact hQ _ _ _ rfl ⟨A9, c9, rfl, o2⟩ b2 trivial
    case s3 =>
      intro w' m' hE hR
      intro Q hQ
      have hsz := hE.size
      go_wp2
      exact hQ _ _ _ rfl ⟨_, rfl, by simpa using own_made (base := w4.heap.size) (e := 56) (size := 4) w' #[] 0 hsz (by simp [maxLen]) rfl⟩ ((Below.refl _ _).alloc (Nat.le_refl _) _) trivial
    case s4 =>
      intro w' m' hE hR
      intro Q hQ
      go_wp2
      exact hQ _ _ _ rfl rfl (Below.refl _ _) trivial
    case s5 =>
      intro w' m' hE hR
      rintro _ ⟨A', rfl, oA⟩ _ rfl Q hQ
      have bb := below_undrew hE
      have hsz := bb.size
      refine wpList_app0 rfl (.tmp 17) (.tmp 18) 30 rfl el_actz rfl oA rfl (unhide HB w' (bthen hb0 (bthen b34 bb))) (len_acts al) (one_acts2 al) (by simp only [maxLen]; omega) (by omega) hsz ?_
      intro A9 c9 w2 o2 b2
      go_wp2
      exact hQ _ _ _ rfl ⟨A9, c9, rfl, o2⟩ b2 trivial
    case s6 =>
      intro w' m' hE hR
      intro Q hQ
      go_wp2
      exact hQ _ _ _ rfl rfl (Below.refl _ _) trivial
    case s7 =>
      intro w' m' hE hR
      rintro _ rfl Q hQ
      go_wp2
      exact hQ _ _ _ rfl rfl (Below.refl _ _) trivial
    case s8 =>
      intro w' m' hE hR
      rintro _ rfl Q hQ
      have bb := below_undrew hE
      have hsz := bb.size
      have hmk := unhide HMK
      go_wp2
      exact hQ _ _ _ rfl ⟨w'.heap.size, rfl, (zSlts_rdB w' al _ hsz)⟩ ((Below.refl _ _).alloc (Nat.le_refl _) _) trivial
  intro w9 hE _
  rintro v0 - v1 - v2 ⟨B1, d1, rfl, o1⟩ v3 - v4 - v5 ⟨B2, d2, rfl, o2⟩ v6 - v7 - v8 ⟨q, rfl, r3⟩
  change wpList _ _ _ [_, _] _ _
  simp only [Act.put, List.setIfInBounds_toArray, List.set_cons_succ, List.set_cons_zero]
  have r1 := own_rdB o1 (Nat.le_refl _)
  have r2 := own_rdB o2 (Nat.le_refl _)
  clear o1 o2
  have b9 := below_undrew hE
  have b49 := bthen b34 b9
  have k9 := unhide HK0 w9 b49
  clear hE hF
  have hk : Kp (fun k => w4.heap.size ≤ k) w9 (w9.setRow w.heap.size #[.slice B1 s.length d1, .slice B2 al.length d2, .slice none 0 0, .slice (some ⟨q, 0, none⟩) al.length al.length]) := ⟨by rw [size_setRow]; exact Nat.le_refl _, fun q hq _ => setRow_other w9 w.heap.size q _ (by omega)⟩
  have HRD := hide (And.intro (r1.keep hk).rd (And.intro (r2.keep hk).rd (r3.keep slt_good hk)))
  clear r1 r2 r3 hk
  go_wp2_with (refine wpList_store_row rfl 96 (.tmp 4) (.tmp 23) rfl w.heap.size #[.slice B1 s.length d1, .slice B2 al.length d2, .slice none 0 0, .slice (some ⟨q, 0, none⟩) al.length al.length] rfl rfl 96 #[.slice none 0 0, .slice none 0 0, .slice none 0 0, .slice none 0 0] k9 info_eng4 rfl (sl4_one _ _ _ _ _ _ _ _ _ _ _ _) ?_)
  refine bodyPost_ret (v := .agg #[.slice B1 s.length d1, .slice B2 al.length d2, .slice none 0 0, .slice (some ⟨q, 0, none⟩) al.length al.length]) (results_cell_row (p := 4) (ty := 96) rfl _ _ w.heap.size 96 #[.slice B1 s.length d1, .slice B2 al.length d2, .slice none 0 0, .slice (some ⟨q, 0, none⟩) al.length al.length] (0, 0) _ rfl (blk_setRow k9) Tryz.underlying96 rfl info_eng4) rfl ?_
  obtain ⟨s1, s2, s3⟩ := unhide HRD
  exact ⟨B1, d1, B2, d2, none, 0, _, al.length, by simp only [engA, eng0, List.length_map, List.length_nil], ⟨s1, s2, Rd.nil _ _, s3.mono slt_good fun _ _ _ => trivial⟩, below_setRow (bthen hb0 b49) (Nat.le_refl _) _⟩
theorem bgrow {m : Nat} {a b : World} (h : Below a.heap.size a b) (hm : m ≤ a.heap.size) : Below m a b := ⟨h.os, h.tape, h.output, h.size, fun q hq => h.block q (by omega)⟩
set_option maxRecDepth 100000 in
set_option maxHeartbeats 8000000 in
theorem engineRun_spec (e : Eng) (A1 : Option Addr) (c1 : Nat) (A2 : Option Addr) (c2 : Nat) (A3 : Option Addr) (c3 : Nat) (A4 : Option Addr) (c4 : Nat) (M : Option Addr) (cm : Nat) (ms : List Int) (w : World) (h : EngRd w e A1 A2 A3 A4) (hok : EngOk e) (hm : Rd w M (ms.map (.int .i64))) (hl : ms.length ≤ 200) :
    Calls Tryz.prog 66 #[.agg (engA e A1 c1 A2 c2 A3 c3 A4 c4), .slice M ms.length cm] w fun x w' => ∃ B1 d1 B2 d2 B3 d3 B4 d4 z, x = .returned (.tuple #[.agg (engA (runE e ms) B1 d1 B2 d2 B3 d3 B4 d4), .int .i64 z]) ∧ EngRd w' (runE e ms) B1 B2 B3 B4 ∧ Below w.heap.size w w' := by
  have i0 : ¬ (200 : Int) < (ms.length : Int) := by omega
  obtain ⟨W, hW⟩ : ∃ W : World, W = (w.alloc (.cells (engA e A1 c1 A2 c2 A3 c3 A4 c4) 96)).alloc (.cells #[.slice none 0 0, .slice none 0 0, .slice none 0 0, .slice none 0 0] 96) := ⟨_, rfl⟩
  have hb0 : Below w.heap.size w W := by rw [hW]; exact ((Below.refl _ _).alloc (Nat.le_refl _) _).alloc (by simp) _
  have K0 : Blk W w.heap.size 96 (engA e A1 c1 A2 c2 A3 c3 A4 c4) := by rw [hW]; exact (Blk.new _ _ _).alloc _
  have K1 : Blk W (w.heap.size + 1) 96 #[.slice none 0 0, .slice none 0 0, .slice none 0 0, .slice none 0 0] := by
    rw [hW]
    have := Blk.new (w.alloc (.cells (engA e A1 c1 A2 c2 A3 c3 A4 c4) 96)) 96 #[.slice none 0 0, .slice none 0 0, .slice none 0 0, .slice none 0 0]
    simpa using this
  have hW1 := K1.lt
  have KV := engineValid_spec e A1 c1 A2 c2 A3 c3 A4 c4 W (h.new hb0) hok
  have HKC := hide (fun (w' : World) (hb : Below W.heap.size W w') => ecopy_spec e A1 c1 A2 c2 A3 c3 A4 c4 w' (h.new (bthen hb0 hb)) hok)
  have HK0 := hide (fun (w' : World) (hb : Below W.heap.size W w') => K0.new_ hb)
  have HK1 := hide (fun (w' : World) (hb : Below W.heap.size W w') => K1.new_ hb)
  have HM := hide (fun (w' : World) (hb : Below W.heap.size W w') => (Rd.new (Rd.new hm hb0) hb : Rd w' M (ms.map (.int .i64))))
  have HOK := hide hok
  have HLN := hide (run_keep e)
  simp only [engA] at hW KV HKC HK0 ⊢
  obtain ⟨y0, y1, y2, y3⟩ : W.cell? ⟨w.heap.size, 0, none⟩ = some (.slice A1 e.base.length c1) ∧ W.cell? ⟨w.heap.size, 1, none⟩ = some (.slice A2 e.list.length c2) ∧ W.cell? ⟨w.heap.size, 2, none⟩ = some (.slice A3 e.vers.length c3) ∧ W.cell? ⟨w.heap.size, 3, none⟩ = some (.slice A4 e.slots.length c4) := ⟨K0.cell 0, K0.cell 1, K0.cell 2, K0.cell 3⟩
  clear K0 K1 hm h hok
  go_enter Tryz.func66, Tryz.ntmps66
  go_upto_region 1 with fail
  rw [← hW]
  clear hW
  go_wp2_with fail
  refine KV.mono ?_
  rintro x w3 ⟨rfl, b3⟩
  have k3 := unhide HK0 w3 b3
  clear KV y0 y1 y2 y3
  obtain ⟨y0, y1, y2, y3⟩ : w3.cell? ⟨w.heap.size, 0, none⟩ = some (.slice A1 e.base.length c1) ∧ w3.cell? ⟨w.heap.size, 1, none⟩ = some (.slice A2 e.list.length c2) ∧ w3.cell? ⟨w.heap.size, 2, none⟩ = some (.slice A3 e.vers.length c3) ∧ w3.cell? ⟨w.heap.size, 3, none⟩ = some (.slice A4 e.slots.length c4) := ⟨k3.cell 0, k3.cell 1, k3.cell 2, k3.cell 3⟩
  go_wp2_with fail
  refine (unhide HKC w3 b3).mono ?_
  rintro x w4 ⟨B1, d1, B2, d2, B3, d3, B4, d4, rfl, hown, b4⟩
  have b34 := bthen b3 b4
  have hw3 := b3.size
  have hw4 := b34.size
  have hst0 : EngSt W.heap.size w4.heap.size (w4.alloc (.cells (engA e B1 d1 B2 d2 B3 d3 B4 d4) 96)) e B1 d1 B2 d2 B3 d3 B4 d4 :=
    EngSt.mk_ (hown.lower hw3) (fun k hk => ⟨by omega, hk.2⟩) ((Below.refl _ _).alloc (Nat.le_refl _) _) (Nat.le_refl _) hw4 (Blk.new _ _ _)
  have b5 : Below W.heap.size W (w4.alloc (.cells (engA e B1 d1 B2 d2 B3 d3 B4 d4) 96)) := b34.alloc hw4 _
  obtain ⟨g, hg⟩ : ∃ g, g = w4.heap.size := ⟨_, rfl⟩
  rw [← hg] at hst0
  simp only [engA] at hst0 b5
  clear hown y0 y1 y2 y3 k3
  go_wp2
  rw [← hg]
  clear hg
  go_loopw [6, 8, 9, 10] (fun t i _ _ wr => ∃ (k : Nat) (z : Int), k ≤ ms.length ∧ i = .int .i64 k ∧ t = .int .i64 z ∧ (0 ≤ z ∧ z ≤ k) ∧ EngW W.heap.size g wr (runE e (ms.take k)) ∧ Below W.heap.size W wr) (fun _ i _ _ _ => ms.length - (intOf i).toNat)
  case atStart => exact ⟨0, 0, Nat.zero_le _, rfl, rfl, by omega, hst0.q.v, b5⟩
  case round =>
    clear hst0 b5
    obtain ⟨k, z, hk, rfl, rfl, hz, hst, hB⟩ := hrel
    by_cases hlt : k < ms.length
    · have i1 : (k : Int) < (ms.length : Int) := by omega
      obtain ⟨b, off, hM, hbb, m0⟩ := (unhide HM wr hB).int hlt
      have HR := hide (show runE e (ms.take (k + 1)) = (stepE (runE e (ms.take k)) ms[k]).1 by rw [List.take_succ_eq_append_getElem hlt, runE_snoc])
      have HOK2 := hide (ok_run (unhide HOK) (ms.take k))
      have HMI := hide (fun (w' : World) (hb : Below wr.heap.size wr w') => show w'.cell? ⟨b, off + k, none⟩ = some (.int .i64 ms[k]) from by
        obtain ⟨b', off', hM', -, m'⟩ := ((unhide HM wr hB).new hb).int hlt
        rw [hM] at hM'
        injection hM' with hM'
        injection hM' with h1 h2
        subst h1
        subst h2
        exact m')
      generalize ms[k] = m at *
      generalize runE e (ms.take k) = e' at *
      obtain ⟨D1, f1, D2, f2, D3, f3, D4, f4, hst⟩ := hst
      have HRD := hide (fun (w' : World) (hb : Below wr.heap.size wr w') => (hst.new hb).own.rd)
      have HX := hide (fun (w' : World) (hb : Below wr.heap.size wr w') => (hst.new hb).cells)
      have hgl := hst.lt
      have hle := hst.le
      have hbx := hst.box
      have hWR := hB.size
      have HMM := hide hM
      clear hM m0 hst
      rw [unhide HMM]
      have hF : StEL (fun a b => Below wr.heap.size a b) [bV (.agg #[.slice D1 e'.base.length f1, .slice D2 e'.list.length f2, .slice D3 e'.vers.length f3, .slice D4 e'.slots.length f4]), bV (.slice (some ⟨b, off, none⟩) ms.length cm), bV (.int .i64 (k : Int)), bV (.pointer (some ⟨b, off + k, none⟩)), bV (.int .i64 m), (fun v _ => v ≠ undef), (fun v _ => v ≠ undef), (fun v _ => v ≠ undef), bV ((.bool (stepE e' m).2)), (fun v _ => v ≠ undef), (fun _ _ => True)] := ⟨fun _ _ _ _ h => h, fun _ _ _ _ h => h, fun _ _ _ _ h => h, fun _ _ _ _ h => h, fun _ _ _ _ h => h, fun _ _ _ _ h => h, fun _ _ _ _ h => h, fun _ _ _ _ h => h, fun _ _ _ _ h => h, fun _ _ _ _ h => h, fun _ _ _ _ h => h, trivial⟩
      go_upto_region 8 with fail
      refine wp_region_vals (by kernel_rfl) [(0, some 29), (1, some 30), (2, some 31), (3, some 32), (4, some 33), (5, some 34), (6, some 28), (7, some 35), (8, some 36), (9, some 9), (10, none)] [[], [], [], [(1, some 30), (2, some 31)], [(3, some 32)], [(0, some 29), (4, some 33)], [(5, some 34)], [(6, some 28)], [(6, some 28)], [], [(7, some 35), (9, some 9)]] (by kernel_rfl) 10 [0, 1, 2, 3, 4, 5, 6, 7, 9] (by kernel_rfl)
        (locB [bV (.agg #[.slice D1 e'.base.length f1, .slice D2 e'.list.length f2, .slice D3 e'.vers.length f3, .slice D4 e'.slots.length f4]), bV (.slice (some ⟨b, off, none⟩) ms.length cm), bV (.int .i64 (k : Int)), bV (.pointer (some ⟨b, off + k, none⟩)), bV (.int .i64 m), (fun v _ => v ≠ undef), (fun v _ => v ≠ undef), (fun v _ => v ≠ undef), bV ((.bool (stepE e' m).2)), (fun v _ => v ≠ undef), (fun _ _ => True)]) (fun a b => Below wr.heap.size a b) (RE 5 6 7 9 wr.heap.size (stepE e' m).1 (stepE e' m).2) (fun _ => Below.refl _ _) (fun _ _ _ h1 h2 => h1.trans h2) (locE_st hF _) RE.zero ?_ ?_
      · refine steps_cons ?s0 ( steps_cons ?s1 ( steps_cons ?s2 ( steps_cons ?s3 ( steps_cons ?s4 ( steps_cons ?s5 ( steps_cons ?s6 ( steps_cons ?s7 ( steps_cons ?s8 ( steps_cons ?s9 ( steps_cons ?s10 steps_nil))))))))))
        case s0 =>
          intro w' b vs hE hbx hR
          obtain rfl := hbx (by simp)
          intro Q hQ
          have bb := below_undrew' hE
          obtain ⟨x0, x1, x2, x3, -⟩ := unhide HX w' bb
          go_wp2
          exact hQ _ _ _ rfl rfl (Below.refl _ _) (hR.other 10 0 _ (Below.refl _ _) (by omega) (by omega) (by omega) (by omega) (by omega))
        case s1 =>
          intro w' b vs hE hbx hR
          obtain rfl := hbx (by simp)
          intro Q hQ
          go_wp2
          exact hQ _ _ _ rfl rfl (Below.refl _ _) (hR.other 10 1 _ (Below.refl _ _) (by omega) (by omega) (by omega) (by omega) (by omega))
        case s2 =>
          intro w' b vs hE hbx hR
          obtain rfl := hbx (by simp)
          intro Q hQ
          go_wp2
          exact hQ _ _ _ rfl rfl (Below.refl _ _) (hR.other 10 2 _ (Below.refl _ _) (by omega) (by omega) (by omega) (by omega) (by omega))
        case s3 =>
          intro w' b vs hE hbx hR
          obtain rfl := hbx (by simp)
          rintro _ ⟨rfl, -⟩ _ ⟨rfl, -⟩ Q hQ
          go_wp2
          exact hQ _ _ _ rfl rfl (Below.refl _ _) (hR.other 10 3 _ (Below.refl _ _) (by omega) (by omega) (by omega) (by omega) (by omega))
        case s4 =>
          intro w' b vs hE hbx hR
          obtain rfl := hbx (by simp)
          rintro _ ⟨rfl, -⟩ Q hQ
          have bb := below_undrew' hE
          have m0 := unhide HMI w' bb
          go_wp2
          exact hQ _ _ _ rfl rfl (Below.refl _ _) (hR.other 10 4 _ (Below.refl _ _) (by omega) (by omega) (by omega) (by omega) (by omega))
        case s5 =>
          intro w' b vs hE hbx hR
          obtain rfl := hbx (by simp)
          rintro _ ⟨rfl, -⟩ _ ⟨rfl, -⟩ Q hQ
          have bb := below_undrew' hE
          have hsz := bb.size
          go_wp2_with fail
          refine (step_spec e' D1 f1 D2 f2 D3 f3 D4 f4 m w' (unhide HRD w' bb) (unhide HOK2)).mono ?_
          rintro x w2 ⟨B1, z1, B2, z2, B3, z3, B4, z4, rfl, hown, b2⟩
          go_wp2
          exact hQ _ _ _ rfl (fun h => by cases h) (bgrow b2 hsz) (hR.call hown b2 hsz 10 (by omega) (by omega) (by omega) (by omega))
        case s6 =>
          intro w' b vs hE hbx hR
          obtain rfl := hbx (by simp)
          rintro _ ⟨hn, hv⟩ Q hQ
          have HV := hide hv
          clear hv
          go_wp2
          exact hQ _ _ _ rfl hn (Below.refl _ _) (hR.mv (unhide HV) hn 10 (by omega) (by omega) (by omega) (by omega))
        case s7 =>
          intro w' b vs hE hbx hR
          obtain rfl := hbx (by simp)
          rintro _ ⟨hn, hv⟩ Q hQ
          obtain ⟨B1, z1, B2, z2, B3, z3, B4, z4, h0, hown, hne⟩ : RowE wr.heap.size (stepE e' m).1 (fun x => .tuple #[.agg x, .bool (stepE e' m).2]) (vs 6) (vs 9) w' := hR.r6.resolve_left fun h => hn (hv.trans h)
          have hvv := hv.trans h0
          clear hv
          subst hvv
          go_wp2
          exact hQ _ _ _ rfl (fun h => by cases h) (Below.refl _ _) (hR.ext ⟨B1, z1, B2, z2, B3, z3, B4, z4, rfl, hown, hne⟩ 10 (by omega) (by omega) (by omega) (by omega))
        case s8 =>
          intro w' b vs hE hbx hR
          clear hbx
          rintro _ ⟨hn, hv⟩ Q hQ
          obtain ⟨B1, z1, B2, z2, B3, z3, B4, z4, h0, hown, hne⟩ : RowE wr.heap.size (stepE e' m).1 (fun x => .tuple #[.agg x, .bool (stepE e' m).2]) (vs 6) (vs 9) w' := hR.r6.resolve_left fun h => hn (hv.trans h)
          have hvv := hv.trans h0
          clear hv
          subst hvv
          go_wp2
          exact hQ _ _ _ rfl rfl (Below.refl _ _) (hR.other 10 8 _ (Below.refl _ _) (by omega) (by omega) (by omega) (by omega) (by omega))
        case s9 =>
          intro w' b vs hE hbx hR
          obtain rfl := hbx (by simp)
          intro Q hQ
          have hsz := hE.size
          go_wp2
          exact hQ _ _ _ rfl (fun h => by cases h) ((Below.refl _ _).alloc hsz _) (hR.lay _ rfl hsz 10 (by omega) (by omega) (by omega) (by omega))
        case s10 =>
          intro w' b vs hE hbx hR
          obtain rfl := hbx (by simp)
          rintro _ ⟨hn7, hv7⟩ _ ⟨hn9, hv9⟩ Q hQ
          rcases hR.bx with h | ⟨q, old, hq, hBq, hk, hos, -⟩
          · exact absurd (hv9.trans h) hn9
          rcases hR.r7 with h | ⟨B1, z1, B2, z2, B3, z3, B4, z4, h7, hown, hne⟩
          · exact absurd (hv7.trans h) hn7
          have h9 := hv9.trans hq
          have h8 := hv7.trans h7
          clear hv9 hv7
          subst h9
          subst h8
          refine wpList_store_row rfl 96 (.tmp 9) (.tmp 35) rfl q (engA (stepE e' m).1 B1 z1 B2 z2 B3 z3 B4 z4) rfl rfl 96 old hk info_eng4 hos (sl4_one _ _ _ _ _ _ _ _ _ _ _ _) ?_
          go_wp2
          exact hQ undef _ _ rfl trivial (below_setRow (Below.refl _ _) hBq _) (hR.sto hq hBq hk h7 rfl undef (by omega) (by omega) (by omega) (by omega))
      intro w5 vs hE hR
      rintro v0 - v1 - v2 - v3 - v4 - v5 - v6 - v7 ⟨hn7, hv7⟩ v8 ⟨hv8, -⟩ v9 ⟨hn9, hv9⟩ v10 -
      obtain rfl : v8 = _ := hv8
      obtain ⟨q, B1, z1, B2, z2, B3, z3, B4, z4, hq, hBq, kq, hown, hnq⟩ := hR.fin (fun h => hn9 (hv9.trans h)) (fun h => hn7 (hv7.trans h))
      have h9 := hv9.trans hq
      clear hv9 hv7 hR hq hn7
      subst h9
      change wpList _ _ _ [_] _ _
      simp only [Act.put, List.setIfInBounds_toArray, List.set_cons_succ, List.set_cons_zero]
      have b5 := below_undrew' hE
      clear hE hF hn9
      have HOWN := hide hown
      have HNQ := hide hnq
      clear hown hnq
      generalize (stepE e' m).1 = e2 at *
      generalize (stepE e' m).2 = ok at *
      obtain ⟨x0, x1, x2, x3⟩ : w5.cell? ⟨q, 0, none⟩ = some (.slice B1 e2.base.length z1) ∧ w5.cell? ⟨q, 1, none⟩ = some (.slice B2 e2.list.length z2) ∧ w5.cell? ⟨q, 2, none⟩ = some (.slice B3 e2.vers.length z3) ∧ w5.cell? ⟨q, 3, none⟩ = some (.slice B4 e2.slots.length z4) := ⟨kq.cell 0, kq.cell 1, kq.cell 2, kq.cell 3⟩
      have kg := hbx.new_ b5
      have hgq : g < w5.heap.size := by have := b5.size; omega
      cases ok
      · go_wp2_with (refine wpList_store_row rfl 96 (.tmp 7) (.tmp 37) rfl g #[.slice B1 e2.base.length z1, .slice B2 e2.list.length z2, .slice B3 e2.vers.length z3, .slice B4 e2.slots.length z4] rfl rfl 96 _ kg info_eng4 rfl (sl4_one _ _ _ _ _ _ _ _ _ _ _ _) ?_)
        have hst6 : EngSq W.heap.size g (w5.setRow g (engA e2 B1 z1 B2 z2 B3 z3 B4 z4)) e2 B1 z1 B2 z2 B3 z3 B4 z4 := EngSq.put ((unhide HOWN).mono fun k hk _ => hk.1) kg hle (by omega)
        have hB6 : Below W.heap.size W (w5.setRow g (engA e2 B1 z1 B2 z2 B3 z3 B4 z4)) := below_setRow (bthen hB b5) (by omega) _
        simp only [engA] at hst6 hB6
        go_roundw
        case rel => exact ⟨k + 1, z, by omega, by go_num, rfl, by omega, by rw [unhide HR]; exact hst6.v, hB6⟩
        case measure => simp [intOf]; omega
      · go_wp2_with (refine wpList_store_row rfl 96 (.tmp 7) (.tmp 37) rfl g #[.slice B1 e2.base.length z1, .slice B2 e2.list.length z2, .slice B3 e2.vers.length z3, .slice B4 e2.slots.length z4] rfl rfl 96 _ kg info_eng4 rfl (sl4_one _ _ _ _ _ _ _ _ _ _ _ _) ?_)
        have hst6 : EngSq W.heap.size g (w5.setRow g (engA e2 B1 z1 B2 z2 B3 z3 B4 z4)) e2 B1 z1 B2 z2 B3 z3 B4 z4 := EngSq.put ((unhide HOWN).mono fun k hk _ => hk.1) kg hle (by omega)
        have hB6 : Below W.heap.size W (w5.setRow g (engA e2 B1 z1 B2 z2 B3 z3 B4 z4)) := below_setRow (bthen hB b5) (by omega) _
        simp only [engA] at hst6 hB6
        go_roundw
        case rel => exact ⟨k + 1, z + 1, by omega, by go_num, rfl, by omega, by rw [unhide HR]; exact hst6.v, hB6⟩
        case measure => simp [intOf]; omega
    · obtain rfl : k = ms.length := by omega
      rw [List.take_length] at hst
      obtain ⟨D1, f1, D2, f2, D3, f3, D4, f4, hst⟩ := hst
      obtain ⟨y0, y1, y2, y3, -⟩ := hst.cells
      have hlg := hst.lt
      have kR := unhide HK1 wr hB
      have hwW := hB.size
      generalize hre : runE e ms = e' at *
      have HRE := hide hre
      clear hre
      go_wp2_with (refine wpList_store_row rfl 96 (.tmp 4) (.tmp 41) rfl (w.heap.size + 1) #[.slice D1 e'.base.length f1, .slice D2 e'.list.length f2, .slice D3 e'.vers.length f3, .slice D4 e'.slots.length f4] rfl rfl 96 #[.slice none 0 0, .slice none 0 0, .slice none 0 0, .slice none 0 0] kR info_eng4 rfl (sl4_one _ _ _ _ _ _ _ _ _ _ _ _) ?_)
      refine bodyPost_ret (v := .tuple #[.agg #[.slice D1 e'.base.length f1, .slice D2 e'.list.length f2, .slice D3 e'.vers.length f3, .slice D4 e'.slots.length f4], .int .i64 z]) (results_cell_tmp (p := 4) (q := 5) (ty := 96) rfl _ _ (w.heap.size + 1) 96 #[.slice D1 e'.base.length f1, .slice D2 e'.list.length f2, .slice D3 e'.vers.length f3, .slice D4 e'.slots.length f4] (0, 0) _ rfl (blk_setRow kR) Tryz.underlying96 rfl info_eng4) rfl ?_
      have hown2 := hst.own.keep (w' := wr.setRow (w.heap.size + 1) #[.slice D1 e'.base.length f1, .slice D2 e'.list.length f2, .slice D3 e'.vers.length f3, .slice D4 e'.slots.length f4]) ⟨by rw [size_setRow]; exact Nat.le_refl _, fun q hq _ => setRow_other wr (w.heap.size + 1) q _ (by have := hq.1; omega)⟩ (fun q hq _ => setRow_other wr (w.heap.size + 1) q _ (by have := (hst.own.rng q hq).1; omega))
      rw [unhide HRE]
      exact ⟨D1, f1, D2, f2, D3, f3, D4, f4, z, rfl, hown2.rd, below_setRow (bthen' hb0 hB) (by omega) _⟩
end Go.Proofs.YtihlhejencninaaGreat
