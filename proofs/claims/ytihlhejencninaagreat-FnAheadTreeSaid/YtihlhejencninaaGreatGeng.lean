/- Versions: sorted lists, what is put, dropped and read. The plain law: no program is in sight here. Engines, plain: steps, what stays true, how they end. No program is in sight here. Engines, plain: scripts, ends, and what has come of them: a serial run. No program is in sight here. Engines, plain: what a run ahead of the order gives; tries; without conflicts none is wasted. No program is in sight here. Rows of versions, sorted: the kit's words on sorts in this claim's words. No program is in sight here. The kit's contract of slices.SortFunc, laid at the versions of this claim (printed by gen_lay.py). -/
import Derived.Test.YtihlhejencninaaGreatGrun
import Derived.Test.YtihlhejencninaaGreatRunSer
import Derived.Test.YtihlhejencninaaGreatGmem
import Derived.Shelf.SlSortCmp.NoneTotal
import Derived.Test.YtihlhejencninaaGreatProg
namespace Go.Proofs.YtihlhejencninaaGreat
open Go.RowKit
set_option linter.unusedVariables false
set_option linter.unusedSimpArgs false

/-- a version -/
structure Ver where
 k : Int
 n : Int
 v : Int
deriving DecidableEq
def encV (x : Ver) : List Value := [.int .i64 x.k, .int .i64 x.n, .int .i64 x.v]
/-- the order of versions -/
def ltV (a b : Ver) : Prop := a.k < b.k ∨ a.k = b.k ∧ a.n < b.n
instance (a b : Ver) : Decidable (ltV a b) := by unfold ltV; infer_instance
theorem ltV_irr (a : Ver) : ¬ ltV a a := by unfold ltV; omega
theorem ltV_trans {a b c : Ver} (h1 : ltV a b) (h2 : ltV b c) : ltV a c := by unfold ltV at *; omega
theorem ltV_asym {a b : Ver} (h1 : ltV a b) : ¬ ltV b a := by unfold ltV at *; omega
theorem ltV_tri {a b : Ver} (h1 : ¬ ltV a b) (h2 : ¬ (a.k = b.k ∧ a.n = b.n)) : ltV b a := by unfold ltV at *; omega
def srtV (vs : List Ver) : Prop := vs.Pairwise ltV
/-- sorted lists with the same members are the same -/
theorem srtV_ext : ∀ {a b : List Ver}, srtV a → srtV b → (∀ x, x ∈ a ↔ x ∈ b) → a = b
 | [], [], _, _, _ => rfl
 | [], y :: b, _, _, h => by have := (h y).2 (by simp); cases this
 | x :: a, [], _, _, h => by have := (h x).1 (by simp); cases this
 | x :: a, y :: b, ha, hb, h => by
   obtain ⟨h1, h2⟩ := List.pairwise_cons.1 ha
   obtain ⟨h3, h4⟩ := List.pairwise_cons.1 hb
   have hxy : x = y := by
     rcases List.mem_cons.1 ((h x).1 (by simp)) with e | e
     · exact e
     · rcases List.mem_cons.1 ((h y).2 (by simp)) with e2 | e2
       · exact e2.symm
       · exact absurd (h3 x e) (ltV_asym (h1 y e2))
   subst hxy
   congr 1
   refine srtV_ext h2 h4 fun z => ⟨fun hz => ?_, fun hz => ?_⟩
   · rcases List.mem_cons.1 ((h z).1 (List.mem_cons_of_mem _ hz)) with e | e
     · subst e; exact absurd (h1 z hz) (ltV_irr z)
     · exact e
   · rcases List.mem_cons.1 ((h z).2 (List.mem_cons_of_mem _ hz)) with e | e
     · subst e; exact absurd (h3 z hz) (ltV_irr z)
     · exact e
/-- without the versions of an action -/
def dropV (vs : List Ver) (n : Int) : List Ver := vs.filter fun x => x.n != n
theorem dropV_mem {vs : List Ver} {n : Int} {x : Ver} : x ∈ dropV vs n ↔ x ∈ vs ∧ x.n ≠ n := by simp [dropV]
theorem dropV_srt {vs : List Ver} (h : srtV vs) (n : Int) : srtV (dropV vs n) := List.Pairwise.filter _ h
theorem dropV_len (vs : List Ver) (n : Int) : (dropV vs n).length ≤ vs.length := List.length_filter_le _ _
/-- one version put at its place -/
def insV (x : Ver) : List Ver → List Ver
 | [] => [x]
 | y :: ys => if ltV y x then y :: insV x ys else x :: y :: ys
theorem insV_mem {x z : Ver} : ∀ {vs : List Ver}, z ∈ insV x vs ↔ z = x ∨ z ∈ vs
 | [] => by simp [insV]
 | y :: ys => by
   rw [insV]
   split
   · rw [List.mem_cons, insV_mem (vs := ys), List.mem_cons]
     constructor
     · rintro (h | h | h)
       · exact .inr (.inl h)
       · exact .inl h
       · exact .inr (.inr h)
     · rintro (h | h | h)
       · exact .inr (.inl h)
       · exact .inl h
       · exact .inr (.inr h)
   · simp
theorem insV_len (x : Ver) : ∀ (vs : List Ver), (insV x vs).length = vs.length + 1
 | [] => rfl
 | y :: ys => by
   rw [insV]
   split
   · rw [List.length_cons, insV_len x ys, List.length_cons]
   · rfl
theorem insV_srt {x : Ver} : ∀ {vs : List Ver}, srtV vs → (∀ y ∈ vs, ¬ (y.k = x.k ∧ y.n = x.n)) → srtV (insV x vs)
 | [], _, _ => by simp [insV, srtV]
 | y :: ys, h, hn => by
   obtain ⟨h1, h2⟩ := List.pairwise_cons.1 h
   rw [insV]
   split
   · rename_i hy
     refine List.pairwise_cons.2 ⟨fun z hz => ?_, insV_srt h2 fun z hz => hn z (by simp [hz])⟩
     rcases insV_mem.1 hz with e | e
     · rw [e]; exact hy
     · exact h1 z e
   · rename_i hy
     have hxy : ltV x y := ltV_tri hy (hn y (by simp))
     refine List.pairwise_cons.2 ⟨fun z hz => ?_, h⟩
     rcases List.mem_cons.1 hz with e | e
     · rw [e]; exact hxy
     · exact ltV_trans hxy (h1 z e)
/-- with the writes of an action -/
def insAll (n : Int) (vs : List Ver) (ws : List Ent) : List Ver := ws.foldl (fun vs e => insV ⟨e.k, n, e.v⟩ vs) vs
def putW (vs : List Ver) (n : Int) (ws : List Ent) : List Ver := insAll n (dropV vs n) ws
theorem insAll_len (n : Int) (ws : List Ent) : ∀ (vs : List Ver), (insAll n vs ws).length = vs.length + ws.length := by
 induction ws with
 | nil => intro vs; rfl
 | cons e ws ih => intro vs; rw [insAll, List.foldl_cons, ← insAll, ih, insV_len, List.length_cons]; omega
theorem insAll_mem {n : Int} {ws : List Ent} {x : Ver} : ∀ {vs : List Ver}, x ∈ insAll n vs ws ↔ x ∈ vs ∨ ∃ e ∈ ws, x = ⟨e.k, n, e.v⟩ := by
 induction ws with
 | nil => intro vs; simp [insAll]
 | cons e ws ih =>
   intro vs
   rw [insAll, List.foldl_cons, ← insAll, ih, insV_mem]
   simp only [List.mem_cons, exists_eq_or_imp]
   constructor
   · rintro ((h | h) | h)
     · exact .inr (.inl h)
     · exact .inl h
     · exact .inr (.inr h)
   · rintro (h | h | h)
     · exact .inl (.inr h)
     · exact .inl (.inl h)
     · exact .inr h
theorem insAll_srt {n : Int} {ws : List Ent} {l z : Int} : ∀ {vs : List Ver}, srtV vs → evOk l z ws = true → (∀ x ∈ vs, x.n = n → x.k ≤ z) → srtV (insAll n vs ws) := by
 induction ws generalizing z with
 | nil => intro vs h _ _; exact h
 | cons e ws ih =>
   intro vs h hw hz
   obtain ⟨a1, a2, a3, a4, a5⟩ := evOk_cons hw
   rw [insAll, List.foldl_cons, ← insAll]
   refine ih (insV_srt h fun y hy hyn => by have := hz y hy hyn.2; have := hyn.1; simp only at this; omega) a5 fun x hx hxn => ?_
   rcases insV_mem.1 hx with rfl | hx
   · exact Int.le_refl _
   · have := hz x hx hxn
     omega
theorem putW_mem {vs : List Ver} {n : Int} {ws : List Ent} {x : Ver} : x ∈ putW vs n ws ↔ (x ∈ vs ∧ x.n ≠ n) ∨ ∃ e ∈ ws, x = ⟨e.k, n, e.v⟩ := by rw [putW, insAll_mem, dropV_mem]
theorem putW_srt {vs : List Ver} {n : Int} {ws : List Ent} (h : srtV vs) (hw : evOk 0 (-1) ws = true) : srtV (putW vs n ws) :=
 insAll_srt (dropV_srt h n) hw fun x hx hn => absurd hn (dropV_mem.1 hx).2
theorem putW_len (vs : List Ver) (n : Int) (ws : List Ent) : (putW vs n ws).length ≤ vs.length + ws.length := by
 rw [putW, insAll_len]
 have := dropV_len vs n
 omega
/-- what an action reads, and who wrote it -/
def rdStep (k n : Int) (acc : Int × Int) (x : Ver) : Int × Int := if x.k = k ∧ x.n < n then (x.v, x.n) else acc
def readV (s : List Ent) (vs : List Ver) (k n : Int) : Int × Int := vs.foldl (rdStep k n) (atL s k, -1)
/-- the reading of a sorted list: the version with the greatest number below, or none -/
theorem fold_char {k n : Int} : ∀ {vs : List Ver} {a : Int × Int}, srtV vs →
   ((∀ x ∈ vs, ¬ (x.k = k ∧ x.n < n)) ∧ vs.foldl (rdStep k n) a = a) ∨ ∃ x ∈ vs, x.k = k ∧ x.n < n ∧ (∀ y ∈ vs, y.k = k → y.n < n → y.n ≤ x.n) ∧ vs.foldl (rdStep k n) a = (x.v, x.n)
 | [], a, _ => .inl ⟨by simp, rfl⟩
 | x :: vs, a, h => by
   obtain ⟨h1, h2⟩ := List.pairwise_cons.1 h
   rw [List.foldl_cons]
   rcases fold_char (k := k) (n := n) (a := rdStep k n a x) h2 with ⟨g1, g2⟩ | ⟨z, hz, g1, g2, g3, g4⟩
   · by_cases hx : x.k = k ∧ x.n < n
     · refine .inr ⟨x, by simp, hx.1, hx.2, fun y hy hk hn => ?_, ?_⟩
       · rcases List.mem_cons.1 hy with e | e
         · rw [e]; exact Int.le_refl _
         · exact absurd ⟨hk, hn⟩ (g1 y e)
       · rw [g2, rdStep, if_pos hx]
     · refine .inl ⟨fun y hy => ?_, ?_⟩
       · rcases List.mem_cons.1 hy with e | e
         · rw [e]; exact hx
         · exact g1 y e
       · rw [g2, rdStep, if_neg hx]
   · refine .inr ⟨z, by simp [hz], g1, g2, fun y hy hk hn => ?_, g4⟩
     rcases List.mem_cons.1 hy with e | e
     · subst e
       have := h1 z hz
       unfold ltV at this
       omega
     · exact g3 y e hk hn
theorem readV_char {s : List Ent} {vs : List Ver} (h : srtV vs) (k n : Int) : ((∀ x ∈ vs, ¬ (x.k = k ∧ x.n < n)) ∧ readV s vs k n = (atL s k, -1)) ∨
   ∃ x ∈ vs, x.k = k ∧ x.n < n ∧ (∀ y ∈ vs, y.k = k → y.n < n → y.n ≤ x.n) ∧ readV s vs k n = (x.v, x.n) := fold_char h
/-- versions at or above a number do not matter to it -/
theorem readV_low {s : List Ent} {vs us : List Ver} {k n : Int} (hv : srtV vs) (hu : srtV us) (h : ∀ x, x.n < n → (x ∈ vs ↔ x ∈ us)) : readV s vs k n = readV s us k n := by
 have key : ∀ (l : List Ver) (a : Int × Int), l.foldl (rdStep k n) a = (l.filter fun x => decide (x.n < n)).foldl (rdStep k n) a := by
   intro l
   induction l with
   | nil => intro a; rfl
   | cons x l ih =>
     intro a
     by_cases hx : x.n < n
     · rw [List.filter_cons_of_pos (by simpa using hx), List.foldl_cons, List.foldl_cons, ih]
     · rw [List.filter_cons_of_neg (by simpa using hx), List.foldl_cons, show rdStep k n a x = a by rw [rdStep, if_neg (fun h => hx h.2)], ih]
 unfold readV
 rw [key vs, key us]
 congr 1
 refine srtV_ext (List.Pairwise.filter _ hv) (List.Pairwise.filter _ hu) fun x => ?_
 simp only [List.mem_filter, decide_eq_true_eq]
 constructor
 · rintro ⟨h1, h2⟩; exact ⟨(h x h2).1 h1, h2⟩
 · rintro ⟨h1, h2⟩; exact ⟨(h x h2).2 h1, h2⟩
end Go.Proofs.YtihlhejencninaaGreat
namespace Go.Proofs.YtihlhejencninaaGreat
open Go.RowKit
set_option linter.unusedVariables false
set_option linter.unusedSimpArgs false

theorem runV_congr {a : Act} {v u : List Int} (ha : actB a = true) (h : ∀ k ∈ actReads a, atV v k = atV u k) : runV v a = runV u a := by
 obtain ⟨_, _, _, hk⟩ := actB_bd ha
 by_cases hsd : a.dst = a.src
 · rcases actK_kind hk with e | e | e | e | e | e
   · simp [runV, actEff, actDone, actReads, actWrites, wAt, e]
   all_goals
     have h0 : atV v a.src = atV u a.src := h a.src (by simp [actReads, e, hsd])
     unfold runV
     rw [hsd, h0]
 · have hds : ¬ a.src = a.dst := fun e => hsd e.symm
   rcases actK_kind hk with e | e | e | e | e | e
   · simp [runV, actEff, actDone, actReads, actWrites, wAt, e]
   · have h0 : atV v a.src = atV u a.src := h a.src (by simp [actReads, e])
     simp [runV, actEff, actDone, actReads, actWrites, wAt, e, h0]
   · have h0 : atV v a.src = atV u a.src := h a.src (by simp [actReads, e])
     simp [runV, actEff, actDone, actReads, actWrites, wAt, e, h0]
   all_goals
     have h0 : atV v a.src = atV u a.src := h a.src (by simp [actReads, e, hds])
     have h1 : atV v a.dst = atV u a.dst := h a.dst (by simp [actReads, e, hds])
     unfold runV
     rw [h0, h1]
theorem reads_bd {a : Act} (ha : actB a = true) {k : Int} (h : k ∈ actReads a) : 0 ≤ k ∧ k ≤ 31 := by
 obtain ⟨h1, h2, _⟩ := actB_bd ha
 rcases actReads_mem h with rfl | rfl
 · exact h1
 · exact h2
/-- what an engine knows of an action -/
structure Slt where
 stage : Int
 tries : Int
 frm : List Int
 res : Eff
deriving DecidableEq
def zEff : Eff := ⟨false, [], []⟩
def zSlt : Slt := ⟨0, 0, [], zEff⟩
structure Eng where
 base : List Ent
 list : List Act
 vers : List Ver
 slots : List Slt
def slAt (e : Eng) (n : Nat) : Slt := e.slots.getD n zSlt
def acAt (e : Eng) (n : Nat) : Act := e.list.getD n ⟨0, 0, 0, 0⟩
/-- the values that an action reads now, and who wrote them -/
def nowV (s : List Ent) (vs : List Ver) (n : Int) : List Int := (List.range 32).map fun k : Nat => (readV s vs (k : Int) n).1
def whoL (s : List Ent) (vs : List Ver) (n : Int) (a : Act) : List Int := (actReads a).map fun k => (readV s vs k n).2
theorem nowV_len (s : List Ent) (vs : List Ver) (n : Int) : (nowV s vs n).length = 32 := by simp [nowV]
theorem nowV_get (s : List Ent) (vs : List Ver) (n : Int) (k : Nat) (hk : k < 32) : (nowV s vs n).getD k 0 = (readV s vs (k : Int) n).1 := by
 simp [nowV, List.getD_eq_getElem?_getD, hk]
theorem nowV_at (s : List Ent) (vs : List Ver) (n : Int) {k : Int} (hk : 0 ≤ k ∧ k ≤ 31) : atV (nowV s vs n) k = (readV s vs k n).1 := by
 obtain ⟨q, rfl⟩ := Int.eq_ofNat_of_zero_le hk.1
 rw [atV_nat, nowV_get _ _ _ _ (by omega)]
/-- the effect of an action tried now -/
def effN (e : Eng) (n : Nat) : Eff := runV (nowV e.base e.vers n) (acAt e n)
/-- does an action read what it read? -/
def curE (e : Eng) (n : Nat) : Bool := decide ((slAt e n).res.reads = (effN e n).reads) && decide ((slAt e n).frm = whoL e.base e.vers n (acAt e n))
def tryN (e : Eng) (n : Nat) : Eng := { e with vers := putW e.vers n (effN e n).writes, slots := e.slots.set n ⟨1, (slAt e n).tries + 1, whoL e.base e.vers n (acAt e n), effN e n⟩ }
def chkN (e : Eng) (n : Nat) : Eng := { e with slots := e.slots.set n { slAt e n with stage := 2 } }
def newN (e : Eng) (n : Nat) : Eng := { e with vers := dropV e.vers n, slots := e.slots.set n ⟨0, (slAt e n).tries, [], zEff⟩ }
/-- a step with the action n, and whether it is possible -/
def stepN (e : Eng) (n : Nat) : Eng × Bool :=
 if (slAt e n).stage = 0 then (if (slAt e n).tries = 1000 then (e, false) else (tryN e n, true))
 else if (slAt e n).stage = 1 then (if 0 < n ∧ (slAt e (n - 1)).stage ≠ 2 then (e, false) else if curE e n = true then (chkN e n, true) else (newN e n, true))
 else (e, false)
def stepE (e : Eng) (m : Int) : Eng × Bool := if inB m 0 ((e.slots.length : Int) - 1) = true then stepN e m.toNat else (e, false)
/-- can a slot be that of an action? -/
def sltOk (a : Act) (n : Nat) (s : Slt) : Prop :=
 (s.stage = 0 ∧ (0 ≤ s.tries ∧ s.tries ≤ 1000) ∧ s.frm = [] ∧ s.res = zEff) ∨
 ((s.stage = 1 ∨ s.stage = 2) ∧ (1 ≤ s.tries ∧ s.tries ≤ 1000) ∧ (∃ v, valOk v ∧ s.res = runV v a) ∧ s.frm.length = (actReads a).length ∧ ∀ x ∈ s.frm, -1 ≤ x ∧ x < n)
/-- an engine that can come to be -/
structure EngOk (e : Eng) : Prop where
 base : storeB e.base = true
 acts : actsB e.list = true
 len : e.slots.length = e.list.length
 srt : srtV e.vers
 mem : ∀ x, x ∈ e.vers ↔ ∃ n : Nat, n < e.slots.length ∧ x.n = n ∧ (⟨x.k, x.v⟩ : Ent) ∈ (slAt e n).res.writes
 slot : ∀ n, n < e.slots.length → sltOk (acAt e n) n (slAt e n)
 chk : ∀ n, n < e.slots.length → (slAt e n).stage = 2 → (∀ m, m < n → (slAt e m).stage = 2) ∧ curE e n = true
theorem slAt_set (e : Eng) (n m : Nat) (s : Slt) (vs : List Ver) (hn : n < e.slots.length) : slAt { e with vers := vs, slots := e.slots.set n s } m = if m = n then s else slAt e m := by
 unfold slAt
 simp only [List.getD_eq_getElem?_getD, List.getElem?_set]
 by_cases h : m = n
 · subst h; simp [hn]
 · rw [if_neg (fun e => h e.symm), if_neg h]
theorem EngOk.act {e : Eng} (h : EngOk e) {n : Nat} (hn : n < e.slots.length) : actB (acAt e n) = true := by
 have := (actsB_yes h.acts).2 n (by rw [← h.len]; exact hn)
 unfold acAt
 rwa [List.getD_eq_getElem?_getD, List.getElem?_eq_getElem (by rw [← h.len]; exact hn), Option.getD_some]
theorem EngOk.len10 {e : Eng} (h : EngOk e) : e.slots.length ≤ 10 := by rw [h.len]; exact (actsB_yes h.acts).1
theorem slot_writes {a : Act} {n : Nat} {s : Slt} (h : sltOk a n s) (ha : actB a = true) : ∀ w ∈ s.res.writes, (0 ≤ w.k ∧ w.k ≤ 31) ∧ 0 ≤ w.v ∧ w.v ≤ 1000000 := by
 rcases h with ⟨_, _, _, h⟩ | ⟨_, _, ⟨v, hv, h⟩, _⟩
 · rw [h]; intro w hw; cases hw
 · rw [h]; exact runV_writes hv ha
theorem slot_evOk {a : Act} {n : Nat} {s : Slt} (h : sltOk a n s) (ha : actB a = true) : evOk 0 (-1) s.res.writes = true := by
 rcases h with ⟨_, _, _, h⟩ | ⟨_, _, ⟨v, hv, h⟩, _⟩
 · rw [h]; rfl
 · rw [h]; exact runV_diffB hv ha
theorem EngOk.bd {e : Eng} (h : EngOk e) {x : Ver} (hx : x ∈ e.vers) : (0 ≤ x.k ∧ x.k ≤ 31) ∧ (0 ≤ x.n ∧ x.n < e.slots.length) ∧ 0 ≤ x.v ∧ x.v ≤ 1000000 := by
 obtain ⟨n, hn, h1, h2⟩ := (h.mem x).1 hx
 have := slot_writes (h.slot n hn) (h.act hn) _ h2
 exact ⟨this.1, by omega, this.2⟩
theorem atL_bd {s : List Ent} (h : storeB s = true) {k : Int} (hk : 0 ≤ k ∧ k ≤ 31) : 0 ≤ atL s k ∧ atL s k ≤ 1000000 := by
 obtain ⟨q, rfl⟩ := Int.eq_ofNat_of_zero_le hk.1
 have hv : valOk (valsL s) := valOk_vals (storeB_def _ ▸ h) (by omega)
 rw [← vals_get (storeB_def _ ▸ h) (by omega) q (by omega)]
 exact hv.2 q
theorem EngOk.read {e : Eng} (h : EngOk e) {k : Int} (hk : 0 ≤ k ∧ k ≤ 31) (n : Int) : (0 ≤ (readV e.base e.vers k n).1 ∧ (readV e.base e.vers k n).1 ≤ 1000000) ∧ -1 ≤ (readV e.base e.vers k n).2 ∧ ((readV e.base e.vers k n).2 < n ∨ (readV e.base e.vers k n).2 = -1) := by
 rcases readV_char (s := e.base) h.srt k n with ⟨_, h2⟩ | ⟨x, hx, h1, h2, _, h3⟩
 · rw [h2]
   exact ⟨atL_bd h.base hk, by simp, .inr rfl⟩
 · have := h.bd hx
   rw [h3]
   exact ⟨this.2.2, by simp; omega, .inl h2⟩
theorem EngOk.now {e : Eng} (h : EngOk e) (n : Int) : valOk (nowV e.base e.vers n) := by
 refine ⟨nowV_len _ _ _, fun k => ?_⟩
 by_cases hk : k < 32
 · rw [nowV_get _ _ _ _ hk]
   exact (h.read (by omega) n).1
 · rw [List.getD_eq_getElem?_getD, List.getElem?_eq_none (by rw [nowV_len]; omega)]
   simp
theorem zSlt_ok (a : Act) (n : Nat) (t : Int) (h0 : 0 ≤ t ∧ t ≤ 1000) : sltOk a n ⟨0, t, [], zEff⟩ := .inl ⟨rfl, h0, rfl, rfl⟩
/-- an engine whose versions below a number are those of another one reads the same there -/
theorem cur_low {e f : Eng} {n : Nat} (hb : e.base = f.base) (hl : e.list = f.list) (hs : slAt e n = slAt f n) (he : srtV e.vers) (hf : srtV f.vers) (h : ∀ x, x.n < (n : Int) → (x ∈ e.vers ↔ x ∈ f.vers)) : nowV e.base e.vers n = nowV f.base f.vers n ∧ effN e n = effN f n ∧ curE e n = curE f n := by
 have hr : ∀ k, readV e.base e.vers k n = readV f.base f.vers k n := fun k => by rw [hb]; exact readV_low he hf h
 have h1 : nowV e.base e.vers n = nowV f.base f.vers n := by unfold nowV; exact List.map_congr_left fun k _ => by rw [hr]
 have ha : acAt e n = acAt f n := by unfold acAt; rw [hl]
 have h2 : effN e n = effN f n := by unfold effN; rw [h1, ha]
 have h3 : whoL e.base e.vers n (acAt e n) = whoL f.base f.vers n (acAt f n) := by unfold whoL; rw [ha]; exact List.map_congr_left fun k _ => by rw [hr]
 exact ⟨h1, h2, by unfold curE; rw [hs, h2, h3]⟩
theorem EngOk.eff {e : Eng} (h : EngOk e) {n : Nat} (hn : n < e.slots.length) : evOk 0 (-1) (effN e n).writes = true := runV_diffB (h.now n) (h.act hn)
theorem who_ok {e : Eng} (h : EngOk e) {n : Nat} (hn : n < e.slots.length) : (whoL e.base e.vers n (acAt e n)).length = (actReads (acAt e n)).length ∧ ∀ x ∈ whoL e.base e.vers n (acAt e n), -1 ≤ x ∧ x < (n : Int) := by
 refine ⟨by simp [whoL], fun x hx => ?_⟩
 obtain ⟨k, hk, rfl⟩ := List.mem_map.1 hx
 have := h.read (reads_bd (h.act hn) hk) n
 omega
/-- what a change of one slot and of its versions keeps -/
theorem ok_set {e : Eng} (h : EngOk e) {n : Nat} (hn : n < e.slots.length) (s : Slt) (vs : List Ver) (hs : sltOk (acAt e n) n s) (hst : s.stage ≠ 2 ∨ (s.stage = 2 ∧ (∀ m, m < n → (slAt e m).stage = 2) ∧ s.res = (slAt e n).res ∧ s.frm = (slAt e n).frm ∧ vs = e.vers ∧ curE e n = true))
   (hno : (slAt e n).stage ≠ 2) (hsrt : srtV vs) (hmem : ∀ x, x ∈ vs ↔ (x ∈ e.vers ∧ x.n ≠ n) ∨ (x.n = n ∧ (⟨x.k, x.v⟩ : Ent) ∈ s.res.writes)) : EngOk { e with vers := vs, slots := e.slots.set n s } := by
 have hlow : ∀ m : Nat, m ≤ n → ∀ x : Ver, x.n < (m : Int) → (x ∈ vs ↔ x ∈ e.vers) := fun m hm x hx => by
   rw [hmem]
   constructor
   · rintro (h1 | h1)
     · exact h1.1
     · have := h1.1; omega
   · intro h1
     exact .inl ⟨h1, by omega⟩
 have hsl : ∀ m, slAt { e with vers := vs, slots := e.slots.set n s } m = if m = n then s else slAt e m := fun m => slAt_set e n m s vs hn
 refine ⟨h.base, h.acts, by simpa using h.len, hsrt, fun x => ?_, fun m hm => ?_, fun m hm h2 => ?_⟩
 · rw [hmem]
   simp only [List.length_set]
   constructor
   · rintro (⟨h1, h2⟩ | ⟨h1, h2⟩)
     · obtain ⟨m, hm, e1, e2⟩ := (h.mem x).1 h1
       refine ⟨m, hm, e1, ?_⟩
       rw [hsl, if_neg (fun e => by subst e; exact h2 e1)]
       exact e2
     · exact ⟨n, hn, h1, by rw [hsl, if_pos rfl]; exact h2⟩
   · rintro ⟨m, hm, e1, e2⟩
     rw [hsl] at e2
     by_cases hmn : m = n
     · subst hmn
       rw [if_pos rfl] at e2
       exact .inr ⟨e1, e2⟩
     · rw [if_neg hmn] at e2
       exact .inl ⟨(h.mem x).2 ⟨m, hm, e1, e2⟩, by omega⟩
 · simp only [List.length_set] at hm
   rw [hsl]
   by_cases hmn : m = n
   · subst hmn
     rw [if_pos rfl]
     exact hs
   · rw [if_neg hmn]
     exact h.slot m hm
 · simp only [List.length_set] at hm
   rw [hsl] at h2
   by_cases hmn : m = n
   · subst hmn
     rw [if_pos rfl] at h2
     rcases hst with hst | ⟨_, g1, g2, g3, g4, g5⟩
     · exact absurd h2 hst
     · refine ⟨fun j hj => ?_, ?_⟩
       · rw [hsl, if_neg (by omega)]
         exact g1 j hj
       · subst g4
         have : curE { e with slots := e.slots.set m s } m = curE e m := by
           unfold curE
           have e1 : effN { e with slots := e.slots.set m s } m = effN e m := rfl
           have e2 : acAt { e with slots := e.slots.set m s } m = acAt e m := rfl
           have e3 := hsl m
           rw [if_pos rfl] at e3
           rw [e1, e2, show slAt { e with slots := e.slots.set m s } m = s from e3, g2, g3]
         exact this.trans g5
   · rw [if_neg hmn] at h2
     obtain ⟨k1, k2⟩ := h.chk m hm h2
     have hlt : m < n := by
       rcases Nat.lt_or_ge n m with g | g
       · exact absurd (k1 n g) hno
       · omega
     refine ⟨fun j hj => ?_, ?_⟩
     · rw [hsl, if_neg (by omega)]
       exact k1 j hj
     · rw [(cur_low (e := { e with vers := vs, slots := e.slots.set n s }) (f := e) (n := m) rfl rfl (by rw [hsl, if_neg hmn]) hsrt h.srt (hlow m (by omega))).2.2]
       exact k2
theorem ok_try {e : Eng} (h : EngOk e) {n : Nat} (hn : n < e.slots.length) (h0 : (slAt e n).stage = 0) (ht : (slAt e n).tries ≠ 1000) : EngOk (tryN e n) := by
 have hs := h.slot n hn
 have htr : 0 ≤ (slAt e n).tries ∧ (slAt e n).tries ≤ 1000 := by
   rcases hs with hs | hs
   · exact hs.2.1
   · have := hs.1; omega
 have hw := who_ok h hn
 refine ok_set h hn _ _ (.inr ⟨.inl rfl, by simp only; omega, ⟨_, h.now n, rfl⟩, hw.1, hw.2⟩) (.inl (by simp)) (by omega) (putW_srt h.srt (h.eff hn)) fun x => ?_
 rw [putW_mem]
 simp only
 constructor
 · rintro (g | ⟨w, hw, rfl⟩)
   · exact .inl g
   · exact .inr ⟨rfl, hw⟩
 · rintro (g | ⟨g1, g2⟩)
   · exact .inl g
   · exact .inr ⟨_, g2, by cases x; simp_all⟩
theorem ok_chk {e : Eng} (h : EngOk e) {n : Nat} (hn : n < e.slots.length) (h1 : (slAt e n).stage = 1) (hb : ¬ (0 < n ∧ (slAt e (n - 1)).stage ≠ 2)) (hc : curE e n = true) : EngOk (chkN e n) := by
 have hs := h.slot n hn
 have hall : ∀ m, m < n → (slAt e m).stage = 2 := by
   intro m hm
   have h2 : (slAt e (n - 1)).stage = 2 := by
     by_cases g : (slAt e (n - 1)).stage = 2
     · exact g
     · exact absurd ⟨by omega, g⟩ hb
   by_cases hmn : m = n - 1
   · rw [hmn]; exact h2
   · exact (h.chk (n - 1) (by omega) h2).1 m (by omega)
 refine ok_set h hn { slAt e n with stage := 2 } e.vers ?_ (.inr ⟨rfl, hall, rfl, rfl, rfl, hc⟩) (by omega) h.srt fun x => ?_
 · rcases hs with hs | ⟨_, hs⟩
   · have := hs.1; omega
   · exact .inr ⟨.inr rfl, hs⟩
 · simp only
   constructor
   · intro hx
     by_cases hxn : x.n = n
     · refine .inr ⟨hxn, ?_⟩
       obtain ⟨m, hm, e1, e2⟩ := (h.mem x).1 hx
       have : m = n := by omega
       subst this
       exact e2
     · exact .inl ⟨hx, hxn⟩
   · rintro (g | ⟨g1, g2⟩)
     · exact g.1
     · exact (h.mem x).2 ⟨n, hn, g1, g2⟩
theorem ok_new {e : Eng} (h : EngOk e) {n : Nat} (hn : n < e.slots.length) (h1 : (slAt e n).stage = 1) : EngOk (newN e n) := by
 have hs := h.slot n hn
 have htr : 0 ≤ (slAt e n).tries ∧ (slAt e n).tries ≤ 1000 := by
   rcases hs with hs | hs
   · exact hs.2.1
   · have := hs.2.1; omega
 refine ok_set h hn ⟨0, (slAt e n).tries, [], zEff⟩ _ (zSlt_ok _ _ _ htr) (.inl (by simp)) (by omega) (dropV_srt h.srt n) fun x => ?_
 rw [dropV_mem]
 simp [zEff]
theorem ok_stepN {e : Eng} (h : EngOk e) {n : Nat} (hn : n < e.slots.length) : EngOk (stepN e n).1 := by
 unfold stepN
 split
 · split
   · exact h
   · exact ok_try h hn ‹_› ‹_›
 · split
   · split
     · exact h
     · split
       · exact ok_chk h hn ‹_› ‹_› ‹_›
       · exact ok_new h hn ‹_›
   · exact h
theorem ok_step {e : Eng} (h : EngOk e) (m : Int) : EngOk (stepE e m).1 := by
 unfold stepE
 split
 · rename_i hm
   have := inB_true.1 hm
   exact ok_stepN h (by omega)
 · exact h
end Go.Proofs.YtihlhejencninaaGreat
namespace Go.Proofs.YtihlhejencninaaGreat
open Go.RowKit
set_option linter.unusedVariables false
set_option linter.unusedSimpArgs false

theorem find_mem : ∀ {es : List Ent} {k y : Int}, findL es k = some y → (⟨k, y⟩ : Ent) ∈ es
 | [], _, _, h => by cases h
 | e :: es, k, y, h => by
   rw [findL] at h
   split at h
   · rename_i hk
     injection h with h
     have : e = ⟨k, y⟩ := by cases e; simp_all
     rw [this]
     exact List.mem_cons_self ..
   · exact List.mem_cons_of_mem _ (find_mem h)
theorem find_of_mem : ∀ {es : List Ent} {l z k y : Int}, evOk l z es = true → (⟨k, y⟩ : Ent) ∈ es → findL es k = some y
 | [], _, _, _, _, _, h => by cases h
 | e :: es, l, z, k, y, hv, h => by
   obtain ⟨a1, a2, a3, a4, a5⟩ := evOk_cons hv
   rw [findL]
   rcases List.mem_cons.1 h with h | h
   · rw [← h]; simp
   · have := (evOk_all a5 _ h).1
     rw [if_neg (by simp only at this; omega)]
     exact find_of_mem a5 h
/-- the engine in which nothing has been tried -/
def eng0 (s : List Ent) (al : List Act) : Eng := ⟨s, al, [], al.map fun _ => zSlt⟩
theorem eng0_at (s : List Ent) (al : List Act) (n : Nat) : slAt (eng0 s al) n = zSlt := by
 unfold slAt eng0
 rw [List.getD_eq_getElem?_getD, List.getElem?_map]
 cases al[n]? <;> rfl
theorem ok_eng0 {s : List Ent} {al : List Act} (hs : storeB s = true) (ha : actsB al = true) : EngOk (eng0 s al) := by
 refine ⟨hs, ha, by simp [eng0], List.Pairwise.nil, fun x => ?_, fun n hn => ?_, fun n hn h2 => ?_⟩
 · constructor
   · intro h; cases h
   · rintro ⟨n, hn, _, h⟩
     rw [eng0_at] at h
     cases h
 · rw [eng0_at]
   exact zSlt_ok _ _ 0 (by omega)
 · rw [eng0_at] at h2
   simp [zSlt] at h2
theorem step_keep (e : Eng) (n : Nat) : (stepN e n).1.base = e.base ∧ (stepN e n).1.list = e.list ∧ (stepN e n).1.slots.length = e.slots.length := by
 unfold stepN
 split
 · split
   · exact ⟨rfl, rfl, rfl⟩
   · exact ⟨rfl, rfl, by simp [tryN]⟩
 · split
   · split
     · exact ⟨rfl, rfl, rfl⟩
     · split
       · exact ⟨rfl, rfl, by simp [chkN]⟩
       · exact ⟨rfl, rfl, by simp [newN]⟩
   · exact ⟨rfl, rfl, rfl⟩
theorem step_keepE (e : Eng) (m : Int) : (stepE e m).1.base = e.base ∧ (stepE e m).1.list = e.list ∧ (stepE e m).1.slots.length = e.slots.length := by
 unfold stepE
 split
 · exact step_keep e _
 · exact ⟨rfl, rfl, rfl⟩
/-- another slot stays; a slot's tries grow by at most 1 -/
theorem step_other {e : Eng} {n : Nat} (hn : n < e.slots.length) (m : Nat) (hm : m ≠ n) : slAt (stepN e n).1 m = slAt e m := by
 unfold stepN
 split
 · split
   · rfl
   · exact (slAt_set e n m _ _ hn).trans (if_neg hm)
 · split
   · split
     · rfl
     · split
       · exact (slAt_set e n m _ _ hn).trans (if_neg hm)
       · exact (slAt_set e n m _ _ hn).trans (if_neg hm)
   · rfl
theorem step_tries {e : Eng} {n : Nat} (hn : n < e.slots.length) (m : Nat) : (slAt (stepN e n).1 m).tries ≤ (slAt e m).tries + 1 := by
 by_cases hm : m = n
 · subst hm
   unfold stepN
   split
   · split
     · simp only; omega
     · rw [show slAt (tryN e m) m = _ from (slAt_set e m m _ _ hn).trans (if_pos rfl)]
       simp only; omega
   · split
     · split
       · simp only; omega
       · split
         · rw [show slAt (chkN e m) m = _ from (slAt_set e m m _ e.vers hn).trans (if_pos rfl)]
           simp only; omega
         · rw [show slAt (newN e m) m = _ from (slAt_set e m m _ _ hn).trans (if_pos rfl)]
           simp only; omega
     · simp only; omega
 · rw [step_other hn m hm]; omega
theorem step_triesE (e : Eng) (m : Int) (k : Nat) : (slAt (stepE e m).1 k).tries ≤ (slAt e k).tries + 1 := by
 unfold stepE
 split
 · rename_i h
   have := inB_true.1 h
   exact step_tries (by omega) k
 · simp only; omega
/-- steps with the actions of a script -/
def runE (e : Eng) (script : List Int) : Eng := script.foldl (fun e m => (stepE e m).1) e
theorem runE_snoc (e : Eng) (ms : List Int) (m : Int) : runE e (ms ++ [m]) = (stepE (runE e ms) m).1 := by simp [runE]
theorem ok_run {e : Eng} (h : EngOk e) (ms : List Int) : EngOk (runE e ms) := by
 induction ms generalizing e with
 | nil => exact h
 | cons m ms ih => exact ih (ok_step h m)
theorem run_keep (e : Eng) (ms : List Int) : (runE e ms).base = e.base ∧ (runE e ms).list = e.list ∧ (runE e ms).slots.length = e.slots.length := by
 induction ms generalizing e with
 | nil => exact ⟨rfl, rfl, rfl⟩
 | cons m ms ih =>
   have h1 := ih (stepE e m).1
   have h2 := step_keepE e m
   exact ⟨h1.1.trans h2.1, h1.2.1.trans h2.2.1, h1.2.2.trans h2.2.2⟩
theorem run_tries (e : Eng) (ms : List Int) (k : Nat) : (slAt (runE e ms) k).tries ≤ (slAt e k).tries + ms.length := by
 induction ms generalizing e with
 | nil => simp [runE]
 | cons m ms ih =>
   have h1 := ih (stepE e m).1
   have h2 := step_triesE e m k
   show (slAt (runE (stepE e m).1 ms) k).tries ≤ _
   simp only [List.length_cons]
   omega
/-- how many steps are left for an action -/
def left (e : Eng) (n : Nat) : Nat := if (slAt e n).stage = 2 then 0 else if (slAt e n).stage = 1 then (if curE e n = true then 1 else 3) else 2
theorem left_le (e : Eng) (n : Nat) : left e n ≤ 3 := by unfold left; split; omega; split; split <;> omega; omega
/-- all before an action are checked -/
def befE (e : Eng) (n : Nat) : Prop := ∀ m, m < n → (slAt e m).stage = 2
theorem left_zero {e : Eng} (h : EngOk e) {n : Nat} (hn : n < e.slots.length) : left e n = 0 ↔ (slAt e n).stage = 2 := by
 unfold left
 constructor
 · intro h0
   split at h0
   · assumption
   · split at h0
     · split at h0 <;> omega
     · omega
 · intro h2
   rw [if_pos h2]
theorem left_step {e : Eng} (h : EngOk e) {n : Nat} (hn : n < e.slots.length) (hb : befE e n) (ht : (slAt e n).tries < 1000) (h2 : (slAt e n).stage ≠ 2) :
   left (stepN e n).1 n + 1 = left e n ∧ (stepN e n).2 = true ∧ befE (stepN e n).1 n := by
 have hbef : befE (stepN e n).1 n := fun m hm => by rw [step_other hn m (by omega)]; exact hb m hm
 refine ⟨?_, ?_, hbef⟩
 · rcases h.slot n hn with hs | ⟨hs, _⟩
   · have h0 := hs.1
     have e1 : (stepN e n).1 = tryN e n := by
       unfold stepN
       rw [if_pos h0, if_neg (by omega)]
     rw [e1]
     have hat : slAt (tryN e n) n = ⟨1, (slAt e n).tries + 1, whoL e.base e.vers n (acAt e n), effN e n⟩ := (slAt_set e n n _ _ hn).trans (if_pos rfl)
     have hc : curE (tryN e n) n = true := by
       have hsrt := (ok_try h hn h0 (by omega)).srt
       have hr : ∀ k, readV e.base (tryN e n).vers k n = readV e.base e.vers k n := fun k => readV_low hsrt h.srt fun x hx => by
         show x ∈ putW _ _ _ ↔ _
         rw [putW_mem]
         constructor
         · rintro (g | ⟨w, _, rfl⟩)
           · exact g.1
           · simp at hx
         · intro g; exact .inl ⟨g, by omega⟩
       have h1 : nowV e.base (tryN e n).vers n = nowV e.base e.vers n := by unfold nowV; exact List.map_congr_left fun k _ => by rw [hr]
       have h3 : effN (tryN e n) n = effN e n := by unfold effN; exact congrArg (fun v => runV v (acAt e n)) h1
       unfold curE
       rw [hat, h3]
       have h4 : whoL (tryN e n).base (tryN e n).vers n (acAt (tryN e n) n) = whoL e.base e.vers n (acAt e n) := by unfold whoL; exact List.map_congr_left fun k _ => by rw [show (tryN e n).base = e.base from rfl, hr]
       rw [h4]
       simp
     unfold left
     rw [hat, hc, if_neg h2]
     simp [h0]
   · have h1 : (slAt e n).stage = 1 := by omega
     by_cases hc : curE e n = true
     · have e1 : (stepN e n).1 = chkN e n := by
         unfold stepN
         rw [if_neg (by omega), if_pos h1, if_neg (fun g => g.2 (hb _ (by omega))), if_pos hc]
       rw [e1]
       have hat : slAt (chkN e n) n = { slAt e n with stage := 2 } := (slAt_set e n n _ e.vers hn).trans (if_pos rfl)
       unfold left
       rw [hat, if_neg h2, if_pos h1, if_pos hc]
       simp
     · have e1 : (stepN e n).1 = newN e n := by
         unfold stepN
         rw [if_neg (by omega), if_pos h1, if_neg (fun g => g.2 (hb _ (by omega))), if_neg hc]
       rw [e1]
       have hat : slAt (newN e n) n = ⟨0, (slAt e n).tries, [], zEff⟩ := (slAt_set e n n _ _ hn).trans (if_pos rfl)
       unfold left
       rw [hat, if_neg h2, if_pos h1, if_neg hc]
       simp
 · unfold stepN
   rcases h.slot n hn with hs | ⟨hs, _⟩
   · rw [if_pos hs.1, if_neg (by omega)]
   · have h1 : (slAt e n).stage = 1 := by omega
     rw [if_neg (by omega), if_pos h1, if_neg (fun g => g.2 (hb _ (by omega)))]
     split <;> rfl
/-- one step more with an action that is not checked -/
def go1 (e : Eng) (n : Nat) : Eng := if (slAt e n).stage = 2 then e else (stepN e n).1
def goK (n : Nat) : Nat → Eng → Eng
 | 0, e => e
 | j + 1, e => go1 (goK n j e) n
/-- steps until an action is checked -/
def finN (e : Eng) (n : Nat) : Eng := goK n 3 e
def finE (e : Eng) : Nat → Eng
 | 0 => e
 | n + 1 => finN (finE e n) n
theorem goK_add (n : Nat) (e : Eng) (j : Nat) : goK n (j + 1) e = goK n j (go1 e n) := by
 induction j with
 | zero => rfl
 | succ j ih => rw [goK, ih]; rfl
/-- what is known of an engine on the way to its end, n actions being checked -/
structure FinOk (e : Eng) (n : Nat) (B : Int) : Prop where
 ok : EngOk e
 bef : befE e n
 tries : ∀ k, (slAt e k).tries ≤ B
theorem go1_ok {e : Eng} {n : Nat} {B : Int} (h : FinOk e n B) (hn : n < e.slots.length) (hB : B < 1000) : FinOk (go1 e n) n (B + 1) ∧ (go1 e n).slots.length = e.slots.length ∧ left (go1 e n) n = left e n - 1 := by
 unfold go1
 split
 · rename_i h2
   exact ⟨⟨h.ok, h.bef, fun k => by have := h.tries k; omega⟩, rfl, by rw [(left_zero h.ok hn).2 h2]⟩
 · rename_i h2
   have ht := h.tries n
   obtain ⟨g1, g2, g3⟩ := left_step h.ok hn h.bef (by omega) h2
   exact ⟨⟨ok_stepN h.ok hn, g3, fun k => by have := step_tries hn k; have := h.tries k; omega⟩, (step_keep e n).2.2, by omega⟩
theorem goK_ok {n : Nat} : ∀ (j : Nat) {e : Eng} {B : Int}, FinOk e n B → n < e.slots.length → B + j ≤ 1000 → FinOk (goK n j e) n (B + j) ∧ (goK n j e).slots.length = e.slots.length ∧ left (goK n j e) n = left e n - j
 | 0, e, B, h, hn, hB => by
   refine ⟨?_, rfl, rfl⟩
   have : B + (0 : Nat) = B := by simp
   rw [this]
   exact h
 | j + 1, e, B, h, hn, hB => by
   obtain ⟨h1, h2, h3⟩ := go1_ok h hn (by omega)
   obtain ⟨g1, g2, g3⟩ := goK_ok j h1 (by omega) (by omega)
   rw [goK_add]
   refine ⟨?_, by omega, by omega⟩
   have : B + ((j + 1 : Nat) : Int) = B + 1 + (j : Int) := by omega
   rw [this]
   exact g1
theorem finN_ok {e : Eng} {n : Nat} {B : Int} (h : FinOk e n B) (hn : n < e.slots.length) (hB : B + 3 ≤ 1000) : FinOk (finN e n) (n + 1) (B + 3) ∧ (finN e n).slots.length = e.slots.length := by
 obtain ⟨h1, h2, h3⟩ := goK_ok 3 h hn hB
 have h4 : (slAt (finN e n) n).stage = 2 := (left_zero h1.ok (by show n < (goK n 3 e).slots.length; omega)).1 (by have := left_le e n; omega)
 refine ⟨⟨h1.ok, fun m hm => ?_, h1.tries⟩, h2⟩
 by_cases hmn : m = n
 · rw [hmn]; exact h4
 · exact h1.bef m (by omega)
theorem finE_ok {e : Eng} {B : Int} (h : FinOk e 0 B) (hB : B + 30 ≤ 1000) : ∀ n, n ≤ e.slots.length → FinOk (finE e n) n (B + 3 * n) ∧ (finE e n).slots.length = e.slots.length
 | 0, _ => by
   refine ⟨?_, rfl⟩
   have : B + 3 * ((0 : Nat) : Int) = B := by simp
   rw [this]
   exact h
 | n + 1, hn => by
   have h10 := h.ok.len10
   obtain ⟨h1, h2⟩ := finE_ok h hB n (by omega)
   obtain ⟨g1, g2⟩ := finN_ok h1 (by omega) (by omega)
   refine ⟨?_, g2.trans h2⟩
   have : B + 3 * ((n + 1 : Nat) : Int) = B + 3 * (n : Int) + 3 := by omega
   rw [this]
   exact g1
theorem go1_keep (e : Eng) (n : Nat) : (go1 e n).base = e.base ∧ (go1 e n).list = e.list ∧ (go1 e n).slots.length = e.slots.length := by
 unfold go1
 split
 · exact ⟨rfl, rfl, rfl⟩
 · exact step_keep e n
theorem goK_keep (n : Nat) (j : Nat) (e : Eng) : (goK n j e).base = e.base ∧ (goK n j e).list = e.list ∧ (goK n j e).slots.length = e.slots.length := by
 induction j with
 | zero => exact ⟨rfl, rfl, rfl⟩
 | succ j ih =>
   have := go1_keep (goK n j e) n
   exact ⟨this.1.trans ih.1, this.2.1.trans ih.2.1, this.2.2.trans ih.2.2⟩
theorem finE_keep (e : Eng) (n : Nat) : (finE e n).base = e.base ∧ (finE e n).list = e.list ∧ (finE e n).slots.length = e.slots.length := by
 induction n with
 | zero => exact ⟨rfl, rfl, rfl⟩
 | succ n ih =>
   have := goK_keep n 3 (finE e n)
   exact ⟨this.1.trans ih.1, this.2.1.trans ih.2.1, this.2.2.trans ih.2.2⟩
/-- an engine that is done has run its actions in order -/
theorem done_now {e : Eng} (h : EngOk e) (hd : befE e e.slots.length) : ∀ n, n ≤ e.slots.length → nowV e.base e.vers n = runAllV (valsL e.base) (e.list.take n) ∧ ∀ m, m < n → (slAt e m).res = runV (runAllV (valsL e.base) (e.list.take m)) (acAt e m)
 | 0, _ => by
   refine ⟨?_, fun m hm => by omega⟩
   have hv : valOk (valsL e.base) := valOk_vals (storeB_def _ ▸ h.base) (by omega)
   refine vals_ext (h.now 0) hv fun k hk => ?_
   rw [show ((0 : Nat) : Int) = 0 from rfl, nowV_get _ _ _ _ hk]
   rcases readV_char (s := e.base) h.srt (k : Int) 0 with ⟨_, g⟩ | ⟨x, hx, _, g, _⟩
   · rw [g]
     exact (vals_get (storeB_def _ ▸ h.base) (by omega) k hk).symm
   · have := (h.bd hx).2.1; omega
 | n + 1, hn => by
   obtain ⟨ih1, ih2⟩ := done_now h hd n (by omega)
   have hn' : n < e.slots.length := by omega
   have hact := h.act hn'
   have hcur := (h.chk n hn' (hd n hn')).2
   have hres : (slAt e n).res = runV (nowV e.base e.vers n) (acAt e n) := by
     rcases h.slot n hn' with hs | ⟨_, _, ⟨v, hv, hr⟩, _⟩
     · have := hd n hn'; have := hs.1; omega
     · rw [hr]
       refine runV_congr hact fun k hk => ?_
       unfold curE at hcur
       simp only [Bool.and_eq_true, decide_eq_true_eq] at hcur
       have h1 := hcur.1
       rw [hr, effN, runV_reads, runV_reads] at h1
       have := List.map_inj_left.1 h1 k hk
       injection this
   have hres2 : (slAt e n).res = runV (runAllV (valsL e.base) (e.list.take n)) (acAt e n) := by rw [hres, ih1]
   have hlt : n < e.list.length := by rw [← h.len]; exact hn'
   have hal : e.list.take (n + 1) = e.list.take n ++ [acAt e n] := by
     rw [List.take_succ_eq_append_getElem hlt]
     unfold acAt
     rw [List.getD_eq_getElem?_getD, List.getElem?_eq_getElem hlt, Option.getD_some]
   refine ⟨?_, fun m hm => ?_⟩
   · rw [hal, runAllV_snoc, ← hres2]
     have hV : valOk (runAllV (valsL e.base) (e.list.take n)) := ih1 ▸ h.now n
     have hev := slot_evOk (h.slot n hn') hact
     refine vals_ext (h.now _) (valOk_all hV hev (by omega) (by omega)) fun k hk => ?_
     rw [nowV_get _ _ _ _ hk, setAll_get hev (by omega) _ k (by rw [hV.1]; exact hk), ← ih1, nowV_get _ _ _ _ hk]
     have hmem : ∀ x ∈ e.vers, x.k = (k : Int) → x.n = (n : Int) → (⟨(k : Int), x.v⟩ : Ent) ∈ (slAt e n).res.writes := fun x hx hxk hxn => by
       obtain ⟨m, hm, e1, e2⟩ := (h.mem x).1 hx
       have : m = n := by omega
       subst this
       rw [← hxk]
       exact e2
     cases hf : findL (slAt e n).res.writes (k : Int) with
     | some y =>
       have hin : (⟨(k : Int), y⟩ : Ent) ∈ (slAt e n).res.writes := find_mem hf
       have hver : (⟨(k : Int), (n : Int), y⟩ : Ver) ∈ e.vers := (h.mem _).2 ⟨n, hn', rfl, hin⟩
       rcases readV_char (s := e.base) h.srt (k : Int) ((n + 1 : Nat) : Int) with ⟨g, _⟩ | ⟨x, hx, g1, g2, g3, g4⟩
       · exact absurd ⟨rfl, by simp only; omega⟩ (g _ hver)
       · have h5 := g3 _ hver rfl (by simp only; omega)
         simp only at h5
         have h6 : x.n = (n : Int) := by omega
         have h7 := hmem x hx g1 h6
         have h8 := find_of_mem hev h7
         rw [hf] at h8
         injection h8 with h8
         rw [g4]
         simp [h8]
     | none =>
       simp only [Option.getD_none]
       have hno : ∀ x ∈ e.vers, x.k = (k : Int) → x.n ≠ (n : Int) := fun x hx hxk hxn => by
         have h7 := hmem x hx hxk hxn
         rw [find_of_mem hev h7] at hf
         cases hf
       rcases readV_char (s := e.base) h.srt (k : Int) ((n + 1 : Nat) : Int) with ⟨g1, g2⟩ | ⟨x, hx, g1, g2, g3, g4⟩
       · rcases readV_char (s := e.base) h.srt (k : Int) (n : Int) with ⟨f1, f2⟩ | ⟨z, hz, f1, f2, f3, f4⟩
         · rw [g2, f2]
         · exact absurd ⟨f1, by omega⟩ (g1 z hz)
       · have hxn := hno x hx g1
         rcases readV_char (s := e.base) h.srt (k : Int) (n : Int) with ⟨f1, f2⟩ | ⟨z, hz, f1, f2, f3, f4⟩
         · exact absurd ⟨g1, by omega⟩ (f1 x hx)
         · have a1 := f3 x hx g1 (by omega)
           have a2 := g3 z hz f1 (by omega)
           have : z.n = x.n := by omega
           have : z = x := by
             rcases List.pairwise_iff_getElem.1 h.srt with hp
             obtain ⟨i, hi, ei⟩ := List.getElem_of_mem hz
             obtain ⟨j, hj, ej⟩ := List.getElem_of_mem hx
             rcases Nat.lt_trichotomy i j with hij | hij | hij
             · have := hp i j hi hj hij
               rw [ei, ej] at this
               unfold ltV at this
               omega
             · subst hij
               rw [← ei, ← ej]
             · have := hp j i hj hi hij
               rw [ei, ej] at this
               unfold ltV at this
               omega
           rw [g4, f4, this]
   · by_cases hmn : m = n
     · subst hmn; exact hres2
     · exact ih2 m (by omega)
end Go.Proofs.YtihlhejencninaaGreat
namespace Go.Proofs.YtihlhejencninaaGreat
open Go.RowKit
set_option linter.unusedVariables false
set_option linter.unusedSimpArgs false

/-- the engine behind a script and its end -/
def engF (s : List Ent) (al : List Act) (ms : List Int) : Eng := finE (runE (eng0 s al) ms) al.length
theorem eng0_len (s : List Ent) (al : List Act) : (eng0 s al).slots.length = al.length := by simp [eng0]
theorem run_fin {s : List Ent} {al : List Act} {ms : List Int} (hs : storeB s = true) (ha : actsB al = true) (hm : ms.length ≤ 200) : FinOk (runE (eng0 s al) ms) 0 200 := by
 refine ⟨ok_run (ok_eng0 hs ha) ms, fun m hm => by omega, fun k => ?_⟩
 have := run_tries (eng0 s al) ms k
 rw [eng0_at] at this
 simp only [zSlt] at this
 omega
theorem engF_keep (s : List Ent) (al : List Act) (ms : List Int) : (engF s al ms).base = s ∧ (engF s al ms).list = al ∧ (engF s al ms).slots.length = al.length := by
 have h1 := finE_keep (runE (eng0 s al) ms) al.length
 have h2 := run_keep (eng0 s al) ms
 exact ⟨h1.1.trans h2.1, h1.2.1.trans h2.2.1, (h1.2.2.trans h2.2.2).trans (eng0_len s al)⟩
theorem run_len (s : List Ent) (al : List Act) (ms : List Int) : (runE (eng0 s al) ms).slots.length = al.length := (run_keep _ _).2.2.trans (eng0_len s al)
theorem engF_ok {s : List Ent} {al : List Act} {ms : List Int} (hs : storeB s = true) (ha : actsB al = true) (hm : ms.length ≤ 200) : FinOk (engF s al ms) al.length 230 := by
 have h10 := (actsB_yes ha).1
 obtain ⟨h1, h2⟩ := finE_ok (run_fin hs ha hm) (by omega) al.length (by rw [run_len]; exact Nat.le_refl _)
 exact ⟨h1.ok, h1.bef, fun k => by have := h1.tries k; unfold engF; omega⟩
theorem read_all {s : List Ent} {vs : List Ver} {k n m : Int} (h : ∀ x ∈ vs, x.n < n ∧ x.n < m) : readV s vs k n = readV s vs k m := by
 unfold readV
 generalize (atL s k, (-1 : Int)) = a
 induction vs generalizing a with
 | nil => rfl
 | cons x vs ih =>
   have hx := h x (by simp)
   rw [List.foldl_cons, List.foldl_cons, ih fun y hy => h y (by simp [hy])]
   congr 1
   unfold rdStep
   by_cases hk : x.k = k
   · rw [if_pos ⟨hk, hx.1⟩, if_pos ⟨hk, hx.2⟩]
   · rw [if_neg (fun h => hk h.1), if_neg (fun h => hk h.1)]
theorem runAllE_get : ∀ (al : List Act) (v : List Int) (n : Nat) (h1 : n < al.length) (h2 : n < (runAllE v al).length), (runAllE v al)[n] = runV (runAllV v (al.take n)) al[n]
 | [], _, n, h, _ => by simp at h
 | a :: al, v, 0, _, _ => rfl
 | a :: al, v, n + 1, h1, h2 => by
   have := runAllE_get al (setAll v (runV v a).writes) n (by simpa using h1) (by rw [runAllE_len]; simpa using h1)
   simpa [runAllE, runAllV] using this
/-- what a run ahead of the order gives: what a serial run gives -/
theorem ahead_serial {s : List Ent} {al : List Act} {ms : List Int} (hs : storeB s = true) (ha : actsB al = true) (hm : ms.length ≤ 200) :
   (engF s al ms).slots.map (·.res) = serialE s al ∧ storeL (nowV s (engF s al ms).vers 10) = serialS s al := by
 have h := engF_ok hs ha hm
 obtain ⟨k1, k2, k3⟩ := engF_keep s al ms
 have h10 := (actsB_yes ha).1
 obtain ⟨d1, d2⟩ := done_now h.ok (by rw [k3]; exact h.bef) al.length (by omega)
 rw [k1, k2] at d1
 rw [List.take_length] at d1
 refine ⟨?_, ?_⟩
 · unfold serialE
   rw [if_pos ⟨hs, ha⟩]
   refine List.ext_getElem (by rw [List.length_map, k3, runAllE_len]) fun n h1 h2 => ?_
   rw [List.length_map, k3] at h1
   rw [List.getElem_map]
   have hsl : (engF s al ms).slots[n]'(by omega) = slAt (engF s al ms) n := by
     unfold slAt
     rw [List.getD_eq_getElem?_getD, List.getElem?_eq_getElem (by omega), Option.getD_some]
   rw [hsl, d2 n h1, k1, k2]
   have hac : acAt (engF s al ms) n = al[n] := by
     unfold acAt
     rw [k2, List.getD_eq_getElem?_getD, List.getElem?_eq_getElem h1, Option.getD_some]
   rw [hac]
   exact (runAllE_get al (valsL s) n h1 h2).symm
 · unfold serialS
   rw [if_pos ⟨hs, ha⟩, ← d1]
   congr 1
   unfold nowV
   refine List.map_congr_left fun k _ => ?_
   rw [read_all (m := (al.length : Int)) fun x hx => ?_]
   have := (h.ok.bd hx).2.1
   rw [k3] at this
   omega
/-- how often all actions were tried -/
def trsF (e : Eng) : Int := (e.slots.map (·.tries)).sum
theorem sum_ge : ∀ {l : List Int} {c : Int}, (∀ x ∈ l, c ≤ x) → c * l.length ≤ l.sum
 | [], c, _ => by simp
 | x :: l, c, h => by
   have h1 := h x (by simp)
   have h2 := sum_ge (l := l) (c := c) fun y hy => h y (by simp [hy])
   rw [List.sum_cons, List.length_cons]
   have : c * ((l.length + 1 : Nat) : Int) = c * (l.length : Int) + c := by rw [Int.natCast_add, Int.mul_add]; simp
   omega
theorem slot_at {e : Eng} {x : Slt} (hx : x ∈ e.slots) : ∃ n, n < e.slots.length ∧ slAt e n = x := by
 obtain ⟨n, hn, rfl⟩ := List.getElem_of_mem hx
 exact ⟨n, hn, by unfold slAt; rw [List.getD_eq_getElem?_getD, List.getElem?_eq_getElem hn, Option.getD_some]⟩
theorem trs_ge {s : List Ent} {al : List Act} {ms : List Int} (hs : storeB s = true) (ha : actsB al = true) (hm : ms.length ≤ 200) : (al.length : Int) ≤ trsF (engF s al ms) := by
 have h := engF_ok hs ha hm
 obtain ⟨k1, k2, k3⟩ := engF_keep s al ms
 have := sum_ge (l := (engF s al ms).slots.map (·.tries)) (c := 1) fun x hx => by
   obtain ⟨y, hy, rfl⟩ := List.mem_map.1 hx
   obtain ⟨n, hn, rfl⟩ := slot_at hy
   have h2 := h.bef n (by omega)
   rcases h.ok.slot n hn with hs | hs
   · have := hs.1; omega
   · exact hs.2.1.1
 rw [List.length_map, k3] at this
 unfold trsF
 omega
theorem trs_le {s : List Ent} {al : List Act} {ms : List Int} (hs : storeB s = true) (ha : actsB al = true) (hm : ms.length ≤ 200) : 0 ≤ trsF (engF s al ms) ∧ trsF (engF s al ms) ≤ 100000 := by
 have h := engF_ok hs ha hm
 have h1 := trs_ge hs ha hm
 have h10 := h.ok.len10
 refine ⟨by omega, ?_⟩
 have key : ∀ (l : List Int), (∀ x ∈ l, x ≤ 230) → l.sum ≤ 230 * (l.length : Int) := by
   intro l
   induction l with
   | nil => intro _; simp
   | cons x l ih =>
     intro hl
     have a1 := hl x (by simp)
     have a2 := ih fun y hy => hl y (by simp [hy])
     rw [List.sum_cons, List.length_cons]
     omega
 have := key ((engF s al ms).slots.map (·.tries)) fun x hx => by
   obtain ⟨y, hy, rfl⟩ := List.mem_map.1 hx
   obtain ⟨n, hn, rfl⟩ := slot_at hy
   exact h.tries n
 rw [List.length_map] at this
 unfold trsF
 omega
/-- what RunAhead gives -/
def aheadOk (s : List Ent) (al : List Act) (ms : List Int) : Bool := storeB s && (actsB al && decide (ms.length ≤ 200))
def aheadS (s : List Ent) (al : List Act) (ms : List Int) : List Ent := if aheadOk s al ms = true then serialS s al else []
def aheadE (s : List Ent) (al : List Act) (ms : List Int) : List Eff := if aheadOk s al ms = true then serialE s al else []
def aheadT (s : List Ent) (al : List Act) (ms : List Int) : Int := if aheadOk s al ms = true then trsF (engF s al ms) else -1
/-- a slot of an engine in which nothing is in the way -/
structure Clean (e : Eng) : Prop where
 ok : EngOk e
 base : ∀ n, n < e.slots.length → (slAt e n).stage ≠ 0 → curE e n = true
 one : ∀ n, n < e.slots.length → (slAt e n).tries = if (slAt e n).stage = 0 then 0 else 1
end Go.Proofs.YtihlhejencninaaGreat
namespace Go.Proofs.YtihlhejencninaaGreat
open Go.RowKit
set_option linter.unusedVariables false
set_option linter.unusedSimpArgs false

instance : Inhabited Ver := ⟨⟨0, 0, 0⟩⟩
/-- versions whose numbers can be subtracted -/
abbrev VerB := { x : Ver // (0 ≤ x.k ∧ x.k ≤ 31) ∧ 0 ≤ x.n ∧ x.n ≤ 1000 }
instance : Inhabited VerB := ⟨⟨⟨0, 0, 0⟩, by simp⟩⟩
def encB (x : VerB) : List Value := encV x.1
/-- as bounded versions -/
def toB (ds : List Ver) (h : ∀ x ∈ ds, (0 ≤ x.k ∧ x.k ≤ 31) ∧ 0 ≤ x.n ∧ x.n ≤ 1000) : List VerB := ds.attach.map fun x => ⟨x.1, h x.1 x.2⟩
theorem toB_val (ds : List Ver) (h : ∀ x ∈ ds, (0 ≤ x.k ∧ x.k ≤ 31) ∧ 0 ≤ x.n ∧ x.n ≤ 1000) : (toB ds h).map (·.1) = ds := by simp [toB]
theorem encB_flat (ds : List VerB) : ds.flatMap encB = (ds.map (·.1)).flatMap encV := by rw [List.flatMap_map]; rfl
theorem flat3 : ∀ (ds : List VerB) (t : Nat), t < ds.length * 3 → (ds.flatMap encB)[t]! = (encB (ds[t / 3]!))[t % 3]!
 | [], t, h => by simp at h
 | x :: ds, t, h => by
   rw [List.flatMap_cons]
   by_cases ht : t < 3
   · have h1 : t / 3 = 0 := by omega
     have h2 : t % 3 = t := by omega
     rw [h1, h2]
     simp only [List.getElem!_eq_getElem?_getD, List.getElem?_append_left (show t < (encB x).length from ht), List.getElem?_cons_zero, Option.getD_some]
   · have h1 : t / 3 = (t - 3) / 3 + 1 := by omega
     have h2 : t % 3 = (t - 3) % 3 := by omega
     have ih := flat3 ds (t - 3) (by simp at h; omega)
     rw [h1, h2]
     simp only [List.getElem!_eq_getElem?_getD, List.getElem?_cons_succ] at ih ⊢
     rw [List.getElem?_append_right (by show 3 ≤ t; omega)]
     exact ih
theorem len3 (ds : List VerB) : (ds.flatMap encB).length = ds.length * 3 := length_flat encB 3 (fun _ => rfl) ds
theorem flatK_eq (ds : List VerB) : Go.Sort.flatK encB 3 ds.toArray = (ds.flatMap encB).toArray := by
 refine Go.Sort.ext_get! (by rw [Go.Sort.size_flatK, List.size_toArray, List.size_toArray, len3]) fun t ht => ?_
 rw [Go.Sort.size_flatK, List.size_toArray] at ht
 rw [Go.Sort.get_flatK _ _ _ _ (by simpa using ht)]
 have := flat3 ds t ht
 simp only [List.getElem!_toArray]
 exact this.symm
theorem holds_own {w : World} {base : Nat} {e : TypeId} {g c : Nat} {ds : List VerB} (h : w.ownsRow base e 3 (.slice (some ⟨g, 0, none⟩) ds.length c) ds.length (ds.flatMap encB)) : Go.Sort.HoldsK encB 3 w g 0 ds.toArray := by
 intro j hj
 rw [flatK_eq] at hj ⊢
 rw [List.size_toArray] at hj
 rw [Nat.zero_add]
 refine ⟨?_, own_frozen h j⟩
 rw [own_cell h j hj]
 refine congrArg some ?_
 rw [getElem!_pos _ j (by simpa using hj)]
 simp
/-- a row of the call's own behind a sort -/
theorem own_sorted {w : World} {base : Nat} {e : TypeId} {g c m : Nat} {ds : List VerB} {os : Array Obj} (h : w.ownsRow base e 3 (.slice (some ⟨g, 0, none⟩) ds.length c) ds.length (ds.flatMap encB)) (es : List VerB) (hl : es.length = ds.length) :
   (Go.Proofs.sortWorldK encB 3 w g 0 m es.toArray os).ownsRow base e 3 (.slice (some ⟨g, 0, none⟩) ds.length c) ds.length (es.flatMap encB) ∧ Chg (fun q => q = g) w (Go.Proofs.sortWorldK encB 3 w g 0 m es.toArray os) := by
 rcases h.2 with ⟨hv, _⟩ | ⟨g', cap, cur, hv, hb, hh, hn, hm, hsz, htk⟩
 · cases hv
 injection hv with e1 _ e3
 injection e1 with e1
 injection e1 with e1
 subst e1
 subst e3
 have hgl : g < w.heap.size := (Array.getElem?_eq_some_iff.1 hh).1
 have heap : ∀ q, q < w.heap.size → (Go.Proofs.sortWorldK encB 3 w g 0 m es.toArray os).heap[q]? = if q = g then some (.cells (Go.Sort.putCells id 0 (es.flatMap encB).toArray cur) e (0, 0)) else w.heap[q]? := by
   intro q hq
   unfold Go.Proofs.sortWorldK Go.Sort.putRowK Go.Sort.putRow
   rw [flatK_eq]
   show ((w.heap.modify g _) ++ os)[q]? = _
   rw [Array.getElem?_append_left (by simpa using hq), Array.getElem?_modify]
   by_cases hqg : q = g
   · subst hqg
     rw [if_pos rfl, if_pos rfl, hh]
     rfl
   · rw [if_neg (fun e => hqg e.symm), if_neg hqg]
 have hsize : (Go.Proofs.sortWorldK encB 3 w g 0 m es.toArray os).heap.size = w.heap.size + os.size := by
   unfold Go.Proofs.sortWorldK Go.Sort.putRowK Go.Sort.putRow
   show ((w.heap.modify g _) ++ os).size = _
   simp
 refine ⟨⟨by rw [len3, hl], .inr ⟨g, c, _, rfl, hb, by rw [heap g hgl, if_pos rfl], hn, hm, by simp [Go.Sort.putCells]; exact hsz, ?_⟩⟩, ⟨rfl, rfl, rfl, by rw [hsize]; omega, fun q hq hne => by rw [heap q hq, if_neg hne]⟩⟩
 have hle : es.length * 3 ≤ cur.size := by rw [hsz, hl]; exact Nat.mul_le_mul_right _ hn
 refine List.ext_getElem (by rw [List.length_take, Array.length_toList, len3]; simp [Go.Sort.putCells]; omega) fun j h1 h2 => ?_
 rw [List.length_take] at h1
 rw [len3] at h2
 rw [List.getElem_take, Array.getElem_toList]
 simp only [Go.Sort.putCells, Array.getElem_mapIdx, Nat.zero_le, true_and, Nat.zero_add, List.size_toArray, len3]
 rw [if_pos h2]
 have : j < (es.flatMap encB).length := by rw [len3]; exact h2
 simp only [Nat.sub_zero, List.getElem!_toArray]
 rw [getElem!_pos _ j this]
 rfl
/-- what a sort by the order of versions leaves of versions, no two in one place -/
theorem sort_is {cf : VerB → VerB → Int} (hcf : ∀ x y, Go.Proofs.ltOf cf x y = decide (ltV x.1 y.1)) {ds es : List VerB} {us : List Ver} (hp : Go.Sort.PermIn 0 ds.toArray.size ds.toArray es.toArray) (hs : Go.Sort.SortedIn (Go.Proofs.ltOf cf) 0 ds.toArray.size es.toArray) (hu : srtV us) (hmem : ∀ x, x ∈ us ↔ x ∈ ds.map (·.1)) (hnd : (ds.map (·.1)).Pairwise fun a b => ¬ (a.k = b.k ∧ a.n = b.n)) : es.map (·.1) = us := by
 obtain ⟨h1, _, h3⟩ := hp
 have hlen : es.length = ds.length := by simpa using h1
 have hperm : es.Perm ds := by
   have : ds.toArray.extract 0 ds.toArray.size = ds.toArray := by simp
   rw [this] at h3
   have e2 : es.toArray.extract 0 ds.toArray.size = es.toArray := by
     have : ds.toArray.size = es.toArray.size := by simp [hlen]
     rw [this]
     simp
   rw [e2] at h3
   simpa using h3
 have hperm2 := hperm.map (·.1)
 have hnd2 : (es.map (·.1)).Pairwise fun a b => ¬ (a.k = b.k ∧ a.n = b.n) := (hperm2.pairwise_iff (fun {a b} h hh => h ⟨hh.1.symm, hh.2.symm⟩)).2 hnd
 refine srtV_ext ?_ hu fun x => by rw [hmem, hperm2.mem_iff]
 refine List.pairwise_iff_getElem.2 fun i j hi hj hij => ?_
 have hi2 : i < es.length := by simpa using hi
 have hj2 : j < es.length := by simpa using hj
 have a1 := hs i j (Nat.zero_le _) hij (by simp; omega)
 rw [hcf] at a1
 have a2 := List.pairwise_iff_getElem.1 hnd2 i j hi hj hij
 have e1 : es.toArray[i]! = es[i] := by simp [hi2]
 have e2 : es.toArray[j]! = es[j] := by simp [hj2]
 rw [e1, e2] at a1
 have a3 : ¬ ltV es[j].1 es[i].1 := by simpa using a1
 rw [List.getElem_map, List.getElem_map] at a2 ⊢
 exact ltV_tri a3 fun h => a2 ⟨h.1.symm, h.2.symm⟩
theorem swo_ltV {cf : VerB → VerB → Int} (hcf : ∀ x y, Go.Proofs.ltOf cf x y = decide (ltV x.1 y.1)) : Go.Sort.SWO (Go.Proofs.ltOf cf) where
 irrefl x := by rw [hcf]; simp [ltV]
 trans x y z h1 h2 := by
   rw [hcf] at h1 h2 ⊢
   exact decide_eq_true (ltV_trans (of_decide_eq_true h1) (of_decide_eq_true h2))
 ntrans x y z h1 h2 := by
   rw [hcf] at h1 h2 ⊢
   have h1 := of_decide_eq_false h1
   have h2 := of_decide_eq_false h2
   exact decide_eq_false (fun h3 => by unfold ltV at h1 h2 h3; omega)
/-- the order of versions, as it is reckoned -/
def cmpV (x y : Ver) : Int := if x.k - y.k = 0 then x.n - y.n else x.k - y.k
theorem lt_cmpV (x y : VerB) : Go.Proofs.ltOf (fun a b : VerB => cmpV a.1 b.1) x y = decide (ltV x.1 y.1) := by
 show decide (cmpV x.1 y.1 < 0) = _
 rw [decide_eq_decide]
 unfold ltV cmpV
 split <;> omega
end Go.Proofs.YtihlhejencninaaGreat
namespace Go.Proofs.YtihlhejencninaaGreat
open Go.RowKit Go.Shelf
set_option linter.unusedVariables false

def sortV_ren : Go.Shelf.Ren := ⟨fun | 6 => 186 | 15 => 195 | 14 => 194 | 28 => 206 | 29 => 207 | 20 => 198 | 21 => 199 | 22 => 200 | 23 => 201 | 24 => 202 | 25 => 203 | 26 => 204 | 27 => 205 | 46 => 208 | 47 => 209 | 48 => 210 | 49 => 211 | 50 => 212 | 57 => 213 | n => n, fun | 22 => 93 | 24 => 166 | 25 => 195 | 3 => 3 | 39 => 200 | 0 => 0 | 53 => 212 | 55 => 214 | 4 => 4 | 46 => 205 | 45 => 204 | 50 => 209 | 5 => 5 | 9 => 9 | 66 => 215 | 70 => 219 | 76 => 221 | 77 => 171 | n => n, fun | n => n⟩
theorem sortV : Go.Proofs.SlLaysF0.n6 Tryz.prog sortV_ren := {
 mixed := by kernel_rfl
 f6 := ⟨Tryz.f186.name, by decide, Tryz.func186.trans (congrArg some (by kernel_rfl))⟩
 f14 := ⟨Tryz.f194.name, by decide, Tryz.func194.trans (congrArg some (by kernel_rfl))⟩
 f15 := Tryz.func195.trans (congrArg some (by kernel_rfl))
 f20 := ⟨Tryz.f198.name, by decide, Tryz.func198.trans (congrArg some (by kernel_rfl))⟩
 f21 := ⟨Tryz.f199.name, by decide, Tryz.func199.trans (congrArg some (by kernel_rfl))⟩
 f22 := ⟨Tryz.f200.name, by decide, Tryz.func200.trans (congrArg some (by kernel_rfl))⟩
 f23 := ⟨Tryz.f201.name, by decide, Tryz.func201.trans (congrArg some (by kernel_rfl))⟩
 f24 := ⟨Tryz.f202.name, by decide, Tryz.func202.trans (congrArg some (by kernel_rfl))⟩
 f25 := ⟨Tryz.f203.name, by decide, Tryz.func203.trans (congrArg some (by kernel_rfl))⟩
 f26 := ⟨Tryz.f204.name, by decide, Tryz.func204.trans (congrArg some (by kernel_rfl))⟩
 f27 := ⟨Tryz.f205.name, by decide, Tryz.func205.trans (congrArg some (by kernel_rfl))⟩
 f28 := Tryz.func206.trans (congrArg some (by kernel_rfl))
 f29 := Tryz.func207.trans (congrArg some (by kernel_rfl))
 f46 := ⟨Tryz.f208.name, by decide, Tryz.func208.trans (congrArg some (by kernel_rfl))⟩
 f47 := Tryz.func209.trans (congrArg some (by kernel_rfl))
 f48 := Tryz.func210.trans (congrArg some (by kernel_rfl))
 f49 := ⟨Tryz.f211.name, by decide, Tryz.func211.trans (congrArg some (by kernel_rfl))⟩
 f50 := ⟨Tryz.f212.name, by decide, Tryz.func212.trans (congrArg some (by kernel_rfl))⟩
 f57 := ⟨Tryz.f213.name, by decide, Tryz.func213.trans (congrArg some (by kernel_rfl))⟩
 t0 := Tryz.underlying0
 a0 := Tryz.isAgg0
 z0 := Tryz.sizeOf0
 v0 := Tryz.zeroValue0
 t3 := Tryz.underlying3
 a3 := Tryz.isAgg3
 z3 := Tryz.sizeOf3
 v3 := Tryz.zeroValue3
 t4 := Tryz.underlying4
 a4 := Tryz.isAgg4
 z4 := Tryz.sizeOf4
 v4 := Tryz.zeroValue4
 t5 := Tryz.underlying5
 a5 := Tryz.isAgg5
 z5 := Tryz.sizeOf5
 v5 := Tryz.zeroValue5
 t9 := Tryz.underlying9
 a9 := Tryz.isAgg9
 z9 := Tryz.sizeOf9
 v9 := Tryz.zeroValue9
 t22 := Tryz.underlying93
 a22 := Tryz.isAgg93
 z22 := Tryz.sizeOf93
 v22 := Tryz.zeroValue93
 t25 := Tryz.underlying195
 a25 := Tryz.isAgg195
 z25 := Tryz.sizeOf195
 v25 := Tryz.zeroValue195
 t39 := Tryz.underlying200
 a39 := Tryz.isAgg200
 z39 := Tryz.sizeOf200
 v39 := Tryz.zeroValue200
 t45 := Tryz.underlying204
 a45 := Tryz.isAgg204
 z45 := Tryz.sizeOf204
 v45 := Tryz.zeroValue204
 t46 := Tryz.underlying205
 a46 := Tryz.isAgg205
 z46 := Tryz.sizeOf205
 v46 := Tryz.zeroValue205
 t50 := Tryz.underlying209
 a50 := Tryz.isAgg209
 z50 := Tryz.sizeOf209
 v50 := Tryz.zeroValue209
 t53 := Tryz.underlying212
 a53 := Tryz.isAgg212
 z53 := Tryz.sizeOf212
 v53 := Tryz.zeroValue212
 t55 := Tryz.underlying214
 a55 := Tryz.isAgg214
 z55 := Tryz.sizeOf214
 v55 := Tryz.zeroValue214
 t66 := Tryz.underlying215
 a66 := Tryz.isAgg215
 z66 := Tryz.sizeOf215
 v66 := Tryz.zeroValue215
 t70 := Tryz.underlying219
 a70 := Tryz.isAgg219
 z70 := Tryz.sizeOf219
 v70 := Tryz.zeroValue219
 t76 := Tryz.underlying221
 a76 := Tryz.isAgg221
 z76 := Tryz.sizeOf221
 v76 := Tryz.zeroValue221
 t77 := Tryz.underlying171
 a77 := Tryz.isAgg171
 z77 := Tryz.sizeOf171
 v77 := Tryz.zeroValue171 }
end Go.Proofs.YtihlhejencninaaGreat
