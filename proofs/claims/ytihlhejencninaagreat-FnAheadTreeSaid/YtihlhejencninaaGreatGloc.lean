/- A region that draws its order: one proof per operation, whatever the order (written by mk_locn.py out of Loc, LocW, LocX, LocC and LocZ). No program is in sight here. Regions that draw and hold calls that only make memory: facts that are stable under new memory. Facts of the value alone (written by mk_locn.py out of LocW). No program is in sight here. What the operations of a region that draws from a reader are good for. -/
import Derived.Test.YtihlhejencninaaGreatGmem
import Derived.Test.YtihlhejencninaaGreatGint
import Derived.Laws.Rows
namespace Go.Proofs.YtihlhejencninaaGreat
open Go.RowKit
set_option linter.unusedVariables false
set_option linter.unusedSimpArgs false

def dstOf (l : List Oper) (j : Nat) : Option Tmp := (l[j]?).bind (·.dst)
/-- what an operation waits for, directly or not, as the bits of a number -/
def clRow (cl : List Nat) (es : List Edge) : Nat := es.foldl (fun m e => if Region.binds .any e then m ||| ((1 <<< e.on) ||| cl.getD e.on 0) else m) 0
def clGo (cl : List Nat) : List Oper → List Nat
 | [] => cl
 | o :: l => clGo (cl ++ [clRow cl o.after.toList]) l
def clOf (l : List Oper) : List Nat := clGo [] l
def has (cl : List Nat) (i j : Nat) : Bool := (cl.getD i 0).testBit j
theorem clRow_from {cl : List Nat} {j : Nat} (es : List Edge) : ∀ (m : Nat), (es.foldl (fun m e => if Region.binds .any e then m ||| ((1 <<< e.on) ||| cl.getD e.on 0) else m) m).testBit j = true → m.testBit j = true ∨ ∃ e ∈ es, Region.binds .any e = true ∧ (e.on = j ∨ has cl e.on j = true) := by
 induction es with
 | nil => intro m h; exact .inl h
 | cons e es ih =>
   intro m h
   rw [List.foldl_cons] at h
   rcases ih _ h with h | ⟨e', he', h⟩
   · split at h
     · rename_i hb
       rw [Nat.testBit_or, Nat.testBit_or, Bool.or_eq_true, Bool.or_eq_true] at h
       rcases h with h | h | h
       · exact .inl h
       · rw [Nat.testBit_shiftLeft, Bool.and_eq_true, decide_eq_true_eq, Nat.testBit_one_eq_true_iff_self_eq_zero] at h
         exact .inr ⟨e, by simp, hb, .inl (by omega)⟩
       · exact .inr ⟨e, by simp, hb, .inr h⟩
     · exact .inl h
   · exact .inr ⟨e', by simp [he'], h⟩
/-- the direct edges lead back to the list -/
def okCl (l : List Oper) (cl : List Nat) : Bool :=
 ((List.range l.length).all fun i => (l[i]?.map fun o => o.after.all fun e => !Region.binds .any e || decide (e.on < i)).getD true) && (List.range l.length).all fun i => (l[i]?.map fun o => cl.getD i 0 == clRow cl o.after.toList).getD false
/-- each operation's facts are those of operations that it waits for, and what it looks at is known -/
def okDeps (l : List Oper) (cl : List Nat) (deps : List (List Nat)) (nh : Nat) : Bool :=
 (List.range nh).all fun i => (deps.getD i []).all fun j => decide (j < nh) && has cl i j
def okLook (l : List Oper) (cl : List Nat) (deps : List (List Nat)) (nh : Nat) : Bool :=
 (List.range nh).all fun i => (l[i]?.map fun o => (o.looksAt l.toArray).all fun t => (List.range nh).all fun j => dstOf l j != some t || (deps.getD i []).contains j || has cl j i || j == i).getD true
def okDst (l : List Oper) (nh : Nat) : Bool :=
 (List.range nh).all fun i => (List.range nh).all fun j => i == j || (dstOf l i).isNone || dstOf l i != dstOf l j
def okTail (l : List Oper) (cl : List Nat) (nh : Nat) : Bool :=
 (List.range l.length).all fun i => decide (i < nh) || (List.range i).all fun j => has cl i j
def okPairs (l : List Oper) (deps : List (List (Nat × Option Tmp))) (nh : Nat) : Bool :=
 (List.range nh).all fun i => (deps.getD i []).all fun p => dstOf l p.1 == p.2
def okHead (l : List Oper) (head : List (Nat × Option Tmp)) (nh : Nat) : Bool :=
 (head.map Prod.fst == List.range nh) && head.all fun p => dstOf l p.1 == p.2
def fsts (deps : List (List (Nat × Option Tmp))) : List (List Nat) := deps.map (·.map Prod.fst)
def okAll (l : List Oper) (head : List (Nat × Option Tmp)) (deps : List (List (Nat × Option Tmp))) : Bool :=
 decide (head.length ≤ l.length) && okCl l (clOf l) && okDeps l (clOf l) (fsts deps) head.length && okLook l (clOf l) (fsts deps) head.length && okDst l head.length && okTail l (clOf l) head.length && Region.noSelect l.toArray && okPairs l deps head.length && okHead l head head.length

/-- the frame in which some operations have come up -/
def fillA (l : List Oper) (vs : Nat → Value) (a : Act) (js : List Nat) : Act := js.foldl (fun a j => a.put (dstOf l j) (vs j)) a
/-- some operations have come up, each with what it is good for -/
def tele (F : Nat → Value → World → Prop) (w : World) (body : Act → Prop) : List (Nat × Option Tmp) → Act → Prop
 | [], c => body c
 | (j, d) :: js, c => ∀ v, F j v w → tele F w body js (c.put d v)
theorem tele_fill {F : Nat → Value → World → Prop} {l : List Oper} {w : World} {body : Act → Prop} (vs : Nat → Value) (ps : List (Nat × Option Tmp)) (hp : ∀ p ∈ ps, dstOf l p.1 = p.2) (c : Act) (h : tele F w body ps c) (hF : ∀ j ∈ ps.map Prod.fst, F j (vs j) w) :
   body (fillA l vs c (ps.map Prod.fst)) := by
 induction ps generalizing c with
 | nil => exact h
 | cons p ps ih =>
   have h1 : dstOf l p.1 = p.2 := hp p (by simp)
   show body (fillA l vs (c.put (dstOf l p.1) (vs p.1)) (ps.map Prod.fst))
   rw [h1]
   exact ih (fun q hq => hp q (by simp [hq])) _ (h (vs p.1) (hF p.1 (by simp))) (fun k hk => hF k (by simp at hk ⊢; exact .inr hk))
/-- the end of one operation -/
def LPost (p : Act → World → Prop) : Exit → Act → World → Prop
 | .normal, a, w => p a w
 | _, _, _ => False
theorem lpost {p : Act → World → Prop} {a : Act} {w : World} (h : p a w) : LPost p .normal a w := h
def steps (p : Nat → Oper → Prop) : Nat → List Oper → Prop
 | _, [] => True
 | k, o :: l => p k o ∧ steps p (k + 1) l
theorem steps_nil {p : Nat → Oper → Prop} {k : Nat} : steps p k [] := trivial
theorem steps_cons {p : Nat → Oper → Prop} {k : Nat} {o : Oper} {l : List Oper} (h : p k o) (t : steps p (k + 1) l) : steps p k (o :: l) := ⟨h, t⟩
theorem steps_get {p : Nat → Oper → Prop} {l : List Oper} : ∀ {k i : Nat} {o : Oper}, steps p k l → l[i]? = some o → p (k + i) o := by
 induction l with
 | nil => intro k i o _ h; simp at h
 | cons x l ih =>
   intro k i o hs h
   cases i with
   | zero => simp at h; subst h; exact hs.1
   | succ i =>
     have := ih hs.2 (show l[i]? = some o by simpa using h)
     rwa [show k + 1 + i = k + (i + 1) by omega] at this

theorem fill_other {l : List Oper} (vs : Nat → Value) {t : Tmp} (js : List Nat) (c : Act) (h : ∀ j ∈ js, dstOf l j ≠ some t) : (fillA l vs c js).tmps[t]? = c.tmps[t]? := by
 induction js generalizing c with
 | nil => rfl
 | cons j js ih =>
   show (fillA l vs (c.put (dstOf l j) (vs j)) js).tmps[t]? = _
   rw [ih _ (fun k hk => h k (by simp [hk]))]
   have := h j (by simp)
   cases hd : dstOf l j with
   | none => rfl
   | some d => rw [hd] at this; simp [Act.put]; rw [Array.getElem?_setIfInBounds_ne (fun e => this (by rw [e]))]
theorem put_size (c : Act) (d : Option Tmp) (v : Value) : (c.put d v).tmps.size = c.tmps.size := by
 cases d <;> simp [Act.put]
theorem put_defers (c : Act) (d : Option Tmp) (v : Value) : (c.put d v).defers = c.defers := by
 cases d <;> simp [Act.put]
theorem fill_size {l : List Oper} (vs : Nat → Value) (js : List Nat) (c : Act) : (fillA l vs c js).tmps.size = c.tmps.size := by
 induction js generalizing c with
 | nil => rfl
 | cons j js ih => exact (ih _).trans (put_size _ _ _)
theorem fill_defers {l : List Oper} (vs : Nat → Value) (js : List Nat) (c : Act) : (fillA l vs c js).defers = c.defers := by
 induction js generalizing c with
 | nil => rfl
 | cons j js ih => exact (ih _).trans (put_defers _ _ _)
theorem put_get (c : Act) (t : Tmp) (v : Value) : (c.put (some t) v).tmps[t]? = (c.tmps[t]?).map fun _ => v := by
 simp only [Act.put]
 by_cases h : t < c.tmps.size
 · simp [h]
 · simp [Nat.not_lt.1 h]
theorem fill_get {l : List Oper} (vs : Nat → Value) {t : Tmp} (js : List Nat) (c : Act) {i : Nat} (hi : i ∈ js) (hd : dstOf l i = some t) (hu : ∀ j ∈ js, dstOf l j = some t → j = i) : (fillA l vs c js).tmps[t]? = (c.tmps[t]?).map fun _ => vs i := by
 induction js generalizing c with
 | nil => cases hi
 | cons j js ih =>
   show (fillA l vs (c.put (dstOf l j) (vs j)) js).tmps[t]? = _
   by_cases hij : i ∈ js
   · rw [ih _ hij (fun k hk => hu k (by simp [hk]))]
     cases hx : dstOf l j with
     | none => rfl
     | some d =>
       by_cases hdt : d = t
       · subst hdt; rw [put_get]; cases c.tmps[d]? <;> rfl
       · simp [Act.put]; rw [Array.getElem?_setIfInBounds_ne hdt]
   · have : j = i := by
       rcases List.mem_cons.1 hi with h | h
       · exact h.symm
       · exact absurd h hij
     subst this
     rw [fill_other vs js _ (fun k hk hk2 => hij (by have := hu k (by simp [hk]) hk2; rwa [this] at hk)), hd, put_get]

/-- the frame a has what has come up, and is otherwise the frame a0 -/
structure Agree (l : List Oper) (nh : Nat) (a0 : Act) (listed : Array Bool) (vs : Nat → Value) (a : Act) : Prop where
 size : a.tmps.size = a0.tmps.size
 defers : a.defers = a0.defers
 old : ∀ t : Tmp, (∀ j, j < nh → listed.getD j true = true → dstOf l j ≠ some t) → a.tmps[t]? = a0.tmps[t]?
 new : ∀ (t : Tmp) j, j < nh → listed.getD j true = true → dstOf l j = some t → a.tmps[t]? = (a0.tmps[t]?).map fun _ => vs j

theorem eval_of_get {a c : Act} {x : Operand} (h : ∀ t, x = .tmp t → a.tmps[t]? = c.tmps[t]?) : a.eval x = c.eval x := by
 cases x with
 | tmp t => simp only [Act.eval, Array.getD_eq_getD_getElem?, h t rfl]
 | const v => rfl
 | global g => rfl
 | func f => rfl

theorem put_same {a c : Act} {d : Option Tmp} {v v' : Value} (hs : a.tmps.size = c.tmps.size) (h : c.put d v = c.put d v') : a.put d v = a.put d v' := by
 cases d with
 | none => rfl
 | some t =>
   by_cases ht : t < c.tmps.size
   · have h1 : (c.put (some t) v).tmps[t]? = (c.put (some t) v').tmps[t]? := by rw [h]
     rw [put_get, put_get] at h1
     simp [ht] at h1
     rw [h1]
   · simp only [Act.put]
     have h1 : a.tmps.size ≤ t := by rw [hs]; exact Nat.not_lt.1 ht
     rw [Array.setIfInBounds_eq_of_size_le h1, Array.setIfInBounds_eq_of_size_le h1]

/-- an operation in the frame c is the same in the frame a -/
theorem wp_move {P : Program} {o : Oper} {a c : Act} {w : World} {G : Value → World → Prop} {Q : Exit → Act → World → Prop} (hs : ∀ cs b, o.op ≠ .select cs b) (hz : a.tmps.size = c.tmps.size)
   (he : ∀ x ∈ o.op.operands, a.eval x = c.eval x) (h : o.wp P c w (wpList P #[] (LPost fun a' w' => ∃ v, a' = c.put o.dst v ∧ G v w') []) (LPost fun a' w' => ∃ v, a' = c.put o.dst v ∧ G v w')) :
   o.wp P a w (fun a' w' => ∃ v, a' = a.put o.dst v ∧ G v w') Q := by
 unfold Oper.wp at *
 rw [execOp_congr o hs he]
 generalize (execOp c.eval o).run P w = r at *
 have key : ∀ v w', (∃ v', c.put o.dst v = c.put o.dst v' ∧ G v' w') → ∃ v', a.put o.dst v = a.put o.dst v' ∧ G v' w' := fun v w' ⟨v', h1, h2⟩ => ⟨v', put_same hz h1, h2⟩
 cases r with
 | ok n w' =>
   cases n with
   | value v => exact key v w' h
   | skip => exact key _ w' h
   | defer d =>
     obtain ⟨v, h1, _⟩ : ∃ v, _ = c.put o.dst v ∧ G v w' := h
     have := congrArg Act.defers h1
     rw [put_defers, put_defers] at this
     exact absurd (congrArg List.length this) (by simp)
   | enter f args =>
     refine Calls.mono h fun e w'' he => ?_
     cases e with
     | returned v => exact key v w'' he
     | panicked chain => exact absurd he (by simp [LPost])
     | outgrown => obtain ⟨_, _, h⟩ := he; exact absurd h (by simp [LPost])
   | row row args => exact Rows.mono h fun v w'' he => key v w'' he
   | _ => exact h
 | halt x w' =>
   cases x <;> simp only [Oper.upon] at h ⊢ <;> first | exact h | exact absurd h (by simp [LPost])

def sumTo (f : Nat → Nat) : Nat → Nat
 | 0 => 0
 | n + 1 => sumTo f n + f n
theorem sumTo_congr {f g : Nat → Nat} : ∀ (n : Nat), (∀ i, i < n → f i = g i) → sumTo f n = sumTo g n
 | 0, _ => rfl
 | n + 1, h => by rw [sumTo, sumTo, sumTo_congr n (fun i hi => h i (by omega)), h n (by omega)]
theorem sumTo_upd {f g : Nat → Nat} {i : Nat} : ∀ (n : Nat), i < n → g i = 0 → (∀ j, j < n → j ≠ i → f j = g j) → sumTo f n = sumTo g n + f i
 | 0, h, _, _ => absurd h (by omega)
 | n + 1, h, h0, hj => by
   rw [sumTo, sumTo]
   by_cases hin : i = n
   · subst hin
     rw [sumTo_congr i (fun j hj' => hj j (by omega) (by omega)), h0]
     omega
   · rw [sumTo_upd n (by omega) h0 (fun j hj' hne => hj j (by omega) hne), hj n (by omega) (fun e => hin e.symm)]
     omega
theorem sumTo_zero {f : Nat → Nat} : ∀ (n : Nat), (∀ i, i < n → f i = 0) → sumTo f n = 0
 | 0, _ => rfl
 | n + 1, h => by rw [sumTo, sumTo_zero n (fun i hi => h i (by omega)), h n (by omega)]
def leftOf (cost : List Nat) (listed : Array Bool) (nh : Nat) : Nat := sumTo (fun i => if listed.getD i false = true then 0 else cost.getD i 0) nh

theorem set_get {listed : Array Bool} {i j : Nat} (h : listed[i]? = some false) : (listed.setIfInBounds i true).getD j false = true ↔ (j = i ∨ listed.getD j false = true) := by
 by_cases hij : i = j
 · subst hij
   have hlt := (Array.getElem?_eq_some_iff.1 h).1
   simp [hlt]
 · rw [getD_set_ne false hij]
   constructor
   · exact .inr
   · rintro (h1 | h1)
     · exact absurd h1.symm hij
     · exact h1
theorem steps_imp {p q : Nat → Oper → Prop} {l : List Oper} : ∀ {k : Nat}, steps p k l → (∀ i o, k ≤ i → p i o → q i o) → steps q k l := by
 induction l with
 | nil => intro k _ _; trivial
 | cons x l ih => exact fun h hi => ⟨hi _ _ (Nat.le_refl _) h.1, ih h.2 fun i o hk => hi i o (by omega)⟩
theorem tele_imp {F : Nat → Value → World → Prop} {w : World} (ps : List (Nat × Option Tmp)) : ∀ (b1 b2 : Go.Act → Prop), (∀ c, b1 c → b2 c) → ∀ c, tele F w b1 ps c → tele F w b2 ps c := by
 induction ps with
 | nil => exact fun b1 b2 h c => h c
 | cons p ps ih => exact fun b1 b2 h c hc v hv => ih b1 b2 h _ (hc v hv)
theorem tele_weak {F G : Nat → Value → World → Prop} {w : World} (h : ∀ j v, G j v w → F j v w) {body : Go.Act → Prop} (ps : List (Nat × Option Tmp)) : ∀ c, tele F w body ps c → tele G w body ps c := by
 induction ps with
 | nil => exact fun c h => h
 | cons p ps ih => exact fun c hc v hv => ih _ (hc v (h _ _ hv))
/-- the operations of the head have come up in part; then those of the tail, in order -/
def LInvZ (P : Program) (l : List Oper) (nh : Nat) (a0 : Go.Act) (w0 : World) (F : Nat → Value → World → Prop) (E : World → World → Prop) (R : Array Bool → (Nat → Value) → World → Prop)
   (Q : Exit → Go.Act → World → Prop) (listed : Array Bool) (a : Go.Act) (w : World) : Prop :=
 listed.size = l.length ∧ (∀ i j, listed.getD i false = true → has (clOf l) i j = true → listed.getD j false = true) ∧
 ((∃ i, i < nh ∧ listed.getD i false = false ∧ ∃ vs, Agree l nh a0 listed vs a ∧ (∀ j, j < nh → listed.getD j false = true → F j (vs j) w) ∧ E w0 w ∧ R listed vs w) ∨
  (∃ k, nh + k ≤ l.length ∧ (∀ i, listed.getD i false = true ↔ i < nh + k) ∧ wpList P l.toArray Q (l.drop (nh + k)) a w))

theorem wp_region_setZ {P : Program} {id : Nat} {l : List Oper} {Q : Exit → Go.Act → World → Prop} {a0 : Go.Act} {w : World} (hm : P.follows .mixedOrders = true)
   (head : List (Nat × Option Tmp)) (deps : List (List (Nat × Option Tmp))) (hok : okAll l head deps = true)
   (F : Nat → Value → World → Prop) (E : World → World → Prop) (R : Array Bool → (Nat → Value) → World → Prop)
   (hEr : ∀ w, E w w) (hEt : ∀ a b c, E a b → E b c → E a c) (hFE : ∀ i v a b, i < head.length → F i v a → E a b → F i v b)
   (hR0 : R (Array.replicate l.toArray.size false) (fun _ => undef) w.drew)
   (hstep : steps (fun i o => ∀ w' (L : Array Bool) (vs : Nat → Value), E w.drew w' → L.size = l.length → L.getD i false = false → (∀ i' j, L.getD i' false = true → has (clOf l) i' j = true → L.getD j false = true) → R L vs w' → tele (fun j v w => F j v w ∧ v = vs j) w' (fun c => ∀ Q' : Exit → Go.Act → World → Prop, (∀ v a'' w'', a'' = c.put o.dst v → F i v w'' → E w' w'' → R (L.setIfInBounds i true) (fun j => if j = i then v else vs j) w'' → Q' .normal a'' w'') → wpList P l.toArray Q' [o] c w') (deps.getD i []) a0) 0 (l.take head.length))
   (hdone : ∀ w' (L : Array Bool) (vs : Nat → Value), E w.drew w' → (∀ j, j < head.length → L.getD j false = true) → R L vs w' → tele (fun j v w => F j v w ∧ v = vs j) w' (fun c => wpList P l.toArray Q (l.drop head.length) c w') head a0) :
   (Code.region id l.toArray true).wp P Q a0 w := by
 simp only [okAll, Bool.and_eq_true, decide_eq_true_eq] at hok
 obtain ⟨⟨⟨⟨⟨⟨⟨⟨hnh, hCl0⟩, hDeps⟩, hLook⟩, hDst⟩, hTail⟩, hSel⟩, hPairs⟩, hHead⟩ := hok
 simp only [okHead, Bool.and_eq_true, beq_iff_eq, List.all_eq_true] at hHead
 obtain ⟨hHead1, hHead2⟩ := hHead
 have pair1 : ∀ i, i < head.length → ∀ p ∈ deps.getD i [], dstOf l p.1 = p.2 := by
   intro i hi p hp
   simp only [okPairs, List.all_eq_true, List.mem_range] at hPairs
   simpa using hPairs i hi p hp
 have fst1 : ∀ i, (fsts deps).getD i [] = (deps.getD i []).map Prod.fst := by
   intro i
   unfold fsts
   rw [List.getD_eq_getElem?_getD, List.getD_eq_getElem?_getD, List.getElem?_map]
   cases deps[i]? <;> rfl
 generalize hnhe : head.length = nh at *
 simp only [okCl, Bool.and_eq_true] at hCl0
 obtain ⟨hBack, hCl⟩ := hCl0
 -- the checks, as facts
 have cl1 : ∀ i j, i < l.length → has (clOf l) i j = true → ∃ o, l[i]? = some o ∧ ∃ e ∈ o.after, Region.binds .any e = true ∧ (e.on = j ∨ has (clOf l) e.on j = true) := by
   intro i j hi hj
   simp only [List.all_eq_true, List.mem_range] at hCl
   have h1 := hCl i hi
   rw [List.getElem?_eq_getElem hi] at h1
   simp only [Option.map_some, Option.getD_some, beq_iff_eq] at h1
   unfold has at hj
   rw [h1] at hj
   rcases clRow_from _ _ hj with h | ⟨e, he, hb, h⟩
   · simp at h
   · exact ⟨l[i], List.getElem?_eq_getElem hi, e, by simpa using he, hb, h⟩
 have back1 : ∀ i (hi : i < l.length), ∀ e ∈ (l[i]).after, Region.binds .any e = true → e.on < i := by
   intro i hi e he hb
   simp only [List.all_eq_true, List.mem_range] at hBack
   have h1 := hBack i hi
   rw [List.getElem?_eq_getElem hi] at h1
   simp only [Option.map_some, Option.getD_some] at h1
   have h2 := Array.all_eq_true_iff_forall_mem.1 h1 e he
   simpa [hb] using h2
 have gd : ∀ (L : Array Bool) j, j < L.size → L.getD j true = L.getD j false := by
   intro L j hj
   rw [Array.getD_eq_getD_getElem?, Array.getD_eq_getD_getElem?]
   simp [hj]
 have dep1 : ∀ i j, i < nh → j ∈ (fsts deps).getD i [] → j < nh ∧ has (clOf l) i j = true := by
   intro i j hi hj
   simp only [okDeps, List.all_eq_true, List.mem_range] at hDeps
   have h1 := hDeps i hi j hj
   simpa using h1
 have look1 : ∀ i o t j, i < nh → l[i]? = some o → t ∈ o.looksAt l.toArray → j < nh → dstOf l j = some t → j ∈ (fsts deps).getD i [] ∨ has (clOf l) j i = true ∨ j = i := by
   intro i o t j hi ho ht hj hd
   simp only [okLook, List.all_eq_true, List.mem_range] at hLook
   have h1 := hLook i hi
   rw [ho] at h1
   simp only [Option.map_some, Option.getD_some, List.all_eq_true, List.mem_range] at h1
   have h2 := h1 t ht j hj
   rw [hd] at h2
   simp at h2
   rcases h2 with (h2 | h2) | h2
   · exact .inl (by simpa using h2)
   · exact .inr (.inl (by simpa using h2))
   · exact .inr (.inr h2)
 have dst1 : ∀ i j t, i < nh → j < nh → dstOf l i = some t → dstOf l j = some t → i = j := by
   intro i j t hi hj h1 h2
   simp only [okDst, List.all_eq_true, List.mem_range] at hDst
   have h3 := hDst i hi j hj
   rw [h1, h2] at h3
   simpa using h3
 have tail1 : ∀ i j, i < l.length → nh ≤ i → j < i → has (clOf l) i j = true := by
   intro i j hi hn hj
   simp only [okTail, List.all_eq_true, List.mem_range] at hTail
   have h1 := hTail i hi
   simp only [Bool.or_eq_true, decide_eq_true_eq, List.all_eq_true, List.mem_range] at h1
   exact (h1.resolve_left (by omega)) j hj
 refine wp_region_any hm (wpAny_inv (I := LInvZ P l nh a0 w.drew F E R Q) ?_ ?_ _ _ _ _ ?_ ?_)
 · -- a step
   rintro listed a w' i ⟨hsz, hcl, hI⟩ hr
   obtain ⟨hun, hil⟩ := ready_get hr
   have hil : i < l.length := by simpa using hil
   have ho : l.toArray[i]? = some l[i] := by simp [hil]
   have hol : l[i]? = some l[i] := List.getElem?_eq_getElem hil
   have hall : ∀ j, has (clOf l) i j = true → listed.getD j false = true := by
     intro j hj
     obtain ⟨o, ho', e, he, hb, h2⟩ := cl1 i j hil hj
     rw [hol] at ho'
     injection ho' with ho'
     subst ho'
     have h3 := ready_after hr ho e he hb
     rcases h2 with h2 | h2
     · rwa [h2] at h3
     · exact hcl _ _ h3 h2
   have hcl' : ∀ i' j, (listed.setIfInBounds i true).getD i' false = true → has (clOf l) i' j = true → (listed.setIfInBounds i true).getD j false = true := by
     intro i' j h1 h2
     rw [set_get hun] at h1 ⊢
     rcases h1 with h1 | h1
     · subst h1; exact .inr (hall j h2)
     · exact .inr (hcl _ _ h1 h2)
   have hunl : listed.getD i false = false := by rw [Array.getD_eq_getD_getElem?, hun]; rfl
   rcases hI with ⟨i0, hi0, hi0u, vs, hag, hF, hE, hR⟩ | ⟨k, hk, hlk, hwp⟩
   · have hinh : i < nh := by
       rcases Nat.lt_or_ge i nh with h | h
       · exact h
       · have := hall i0 (tail1 i i0 hil h (by omega))
         rw [hi0u] at this
         cases this
     have hst := steps_get hstep (show (l.take nh)[i]? = some l[i] by rw [List.getElem?_take]; simp [hinh, hil])
     rw [Nat.zero_add] at hst
     have hgo := tele_fill vs _ (pair1 i hinh) _ (hst w' listed vs hE hsz hunl hcl hR) (fun j hj => by rw [← fst1] at hj; exact ⟨hF j (dep1 i j hinh hj).1 (hall j (dep1 i j hinh hj).2), rfl⟩)
     replace hgo := hgo (LPost fun a'' w'' => ∃ v, a'' = (fillA l vs a0 ((deps.getD i []).map Prod.fst)).put (l[i]).dst v ∧ F i v w'' ∧ E w' w'' ∧ R (listed.setIfInBounds i true) (fun j => if j = i then v else vs j) w'') (fun v a'' w'' h1 h2 h3 h4 => ⟨v, h1, h2, h3, h4⟩)
     rw [← fst1] at hgo
     -- the frames agree on what is looked at
     have hlook : ∀ t ∈ (l[i]).looksAt l.toArray, a.tmps[t]? = (fillA l vs a0 ((fsts deps).getD i [])).tmps[t]? := by
       intro t ht
       by_cases hex : ∃ j ∈ (fsts deps).getD i [], dstOf l j = some t
       · obtain ⟨j, hj, hd⟩ := hex
         obtain ⟨hjn, hjc⟩ := dep1 i j hinh hj
         rw [hag.new t j hjn (by rw [gd _ _ (by omega)]; exact hall j hjc) hd]
         exact (fill_get vs _ _ hj hd (fun j' hj' hd' => dst1 _ _ t (dep1 i j' hinh hj').1 hjn hd' hd)).symm
       · rw [fill_other vs _ _ (fun j hj hd => hex ⟨j, hj, hd⟩)]
         refine hag.old t fun j hj hlj hd => ?_
         rcases look1 i _ t j hinh hol ht hj hd with h | h | h
         · exact hex ⟨j, h, hd⟩
         · have hlj' : listed.getD j false = true := by rw [← gd _ _ (by omega)]; exact hlj
           have := hcl _ _ hlj' h
           rw [hunl] at this
           cases this
         · subst h
           rw [gd _ _ (by omega), hunl] at hlj
           cases hlj
     have hop : ∀ x ∈ (l[i]).op.operands, a.eval x = (fillA l vs a0 ((fsts deps).getD i [])).eval x := fun x hx => eval_of_get fun t e => hlook t (by
       subst e
       exact List.mem_append_left _ (List.mem_filterMap.2 ⟨.tmp t, by simpa using hx, rfl⟩))
     have hwant : Region.wanted l[i] (yielded l.toArray a.tmps) = Region.wanted l[i] (yielded l.toArray (fillA l vs a0 ((fsts deps).getD i [])).tmps) := by
       unfold Region.wanted
       cases hg : (l[i]).guard with
       | none => rfl
       | some gw =>
         obtain ⟨g, want⟩ := gw
         have hy : yielded l.toArray a.tmps g = yielded l.toArray (fillA l vs a0 ((fsts deps).getD i [])).tmps g := by
           unfold yielded
           cases ht : (l.toArray[g]?).bind (·.dst) with
           | none => rfl
           | some t =>
             have := hlook t (by simp only [Oper.looksAt, hg]; exact List.mem_append_right _ (by rw [ht]; simp))
             simp only [Option.bind_some, this]
         simp only [hy]
     -- the new state
     have hnew : ∀ v w'', F i v w'' → E w' w'' → R (listed.setIfInBounds i true) (fun j => if j = i then v else vs j) w'' → LInvZ P l nh a0 w.drew F E R Q (listed.setIfInBounds i true) (a.put (l[i]).dst v) w'' := by
       intro v w'' hFv hEv hRv
       have hdi : dstOf l i = (l[i]).dst := by simp [dstOf, hol]
       have hag' : Agree l nh a0 (listed.setIfInBounds i true) (fun j => if j = i then v else vs j) (a.put (l[i]).dst v) := by
         refine ⟨(put_size _ _ _).trans hag.size, (put_defers _ _ _).trans hag.defers, fun t ht => ?_, fun t j hj hlj hd => ?_⟩
         · have h1 : (l[i]).dst ≠ some t := by
             rw [← hdi]
             exact ht i hinh (by rw [Array.getD_eq_getD_getElem?]; simp [show i < listed.size by omega])
           have h2 : (a.put (l[i]).dst v).tmps[t]? = a.tmps[t]? := by
             cases hx : (l[i]).dst with
             | none => rfl
             | some d => rw [hx] at h1; simp only [Go.Act.put]; rw [Array.getElem?_setIfInBounds_ne (fun e => h1 (by rw [e]))]
           rw [h2]
           refine hag.old t fun j hj hlj => ht j hj ?_
           rw [Array.getD_eq_getD_getElem?] at hlj ⊢
           by_cases hji : i = j
           · subst hji; simp [show i < listed.size by omega]
           · rw [Array.getElem?_setIfInBounds_ne hji]; exact hlj
         · by_cases hji : j = i
           · subst hji
             rw [hdi] at hd
             rw [hd, put_get, if_pos rfl]
             by_cases hts : t < a.tmps.size
             · have : t < a0.tmps.size := by rw [← hag.size]; exact hts
               simp [hts, this]
             · have h1 : a.tmps.size ≤ t := Nat.not_lt.1 hts
               have h2 : a0.tmps.size ≤ t := by rw [← hag.size]; exact h1
               rw [Array.getElem?_eq_none h1, Array.getElem?_eq_none h2]
           · have h2 : (a.put (l[i]).dst v).tmps[t]? = a.tmps[t]? := by
               cases hx : (l[i]).dst with
               | none => rfl
               | some d =>
                 simp only [Go.Act.put]
                 rw [Array.getElem?_setIfInBounds_ne]
                 intro e
                 subst e
                 exact hji (dst1 j i d hj hinh hd (hdi.trans hx))
             rw [h2, if_neg hji]
             refine hag.new t j hj ?_ hd
             rw [Array.getD_eq_getD_getElem?] at hlj ⊢
             rwa [Array.getElem?_setIfInBounds_ne (fun e => hji e.symm)] at hlj
       have hF' : ∀ j, j < nh → (listed.setIfInBounds i true).getD j false = true → F j (if j = i then v else vs j) w'' := by
         intro j hj hlj
         by_cases hji : j = i
         · subst hji; rw [if_pos rfl]; exact hFv
         · rw [if_neg hji]
           rw [set_get hun] at hlj
           exact hFE j _ _ _ hj (hF j hj (hlj.resolve_left hji)) hEv
       refine ⟨by simpa using hsz, hcl', ?_⟩
       by_cases hex : ∃ j, j < nh ∧ (listed.setIfInBounds i true).getD j false = false
       · obtain ⟨j, hj, hju⟩ := hex
         exact .inl ⟨j, hj, hju, _, hag', hF', hEt _ _ _ hE hEv, hRv⟩
       · have hfull : ∀ j, j < nh → (listed.setIfInBounds i true).getD j false = true := by
           intro j hj
           cases hq : (listed.setIfInBounds i true).getD j false with
           | false => exact absurd ⟨j, hj, hq⟩ hex
           | true => rfl
         refine .inr ⟨0, by omega, fun j => ⟨fun hlj => ?_, fun hj => hfull j (by omega)⟩, ?_⟩
         · rcases Nat.lt_or_ge j nh with h | h
           · omega
           · rw [set_get hun] at hlj
             rcases hlj with hlj | hlj
             · omega
             · have hjl : j < l.length := by
                 rw [Array.getD_eq_getD_getElem?] at hlj
                 cases hq : listed[j]? with
                 | none => rw [hq] at hlj; cases hlj
                 | some b => have := (Array.getElem?_eq_some_iff.1 hq).1; omega
               have := hcl j i0 hlj (tail1 j i0 hjl h (by omega))
               rw [hi0u] at this
               cases this
         · have hfin := tele_fill (fun j => if j = i then v else vs j) _ (by simpa using hHead2) _ (hdone w'' _ (fun j => if j = i then v else vs j) (hEt _ _ _ hE hEv) hfull hRv) (fun j hj => by rw [hHead1] at hj; exact ⟨hF' j (List.mem_range.1 hj) (hfull j (List.mem_range.1 hj)), rfl⟩)
           rw [hHead1] at hfin
           have hact : a.put (l[i]).dst v = fillA l (fun j => if j = i then v else vs j) a0 (List.range nh) := by
             have h1 : (a.put (l[i]).dst v).defers = (fillA l (fun j => if j = i then v else vs j) a0 (List.range nh)).defers := hag'.defers.trans (fill_defers _ _ _).symm
             have h2 : (a.put (l[i]).dst v).tmps = (fillA l (fun j => if j = i then v else vs j) a0 (List.range nh)).tmps := by
               refine Array.ext_getElem? fun t => ?_
               by_cases hex : ∃ j, j < nh ∧ dstOf l j = some t
               · obtain ⟨j, hj, hd⟩ := hex
                 rw [hag'.new t j hj (by rw [gd _ _ (by simp; omega)]; exact hfull j hj) hd]
                 exact (fill_get (fun j => if j = i then v else vs j) _ _ (List.mem_range.2 hj) hd (fun j' hj' hd' => dst1 _ _ t (List.mem_range.1 hj') hj hd' hd)).symm
               · rw [fill_other _ _ _ (fun j hj hd => hex ⟨j, List.mem_range.1 hj, hd⟩)]
                 exact hag'.old t fun j hj _ hd => hex ⟨j, hj, hd⟩
             cases hA : a.put (l[i]).dst v
             cases hB : fillA l (fun j => if j = i then v else vs j) a0 (List.range nh)
             rw [hA, hB] at h1 h2
             simp only [] at h1 h2
             rw [h1, h2]
           rw [hact]
           exact hfin
     -- the operation itself
     unfold wpOp
     rw [ho]
     simp only []
     unfold wpList at hgo
     rw [← hwant] at hgo
     split
     · rename_i hw
       rw [if_pos hw] at hgo
       rcases hgo with hgo | ⟨_, x, y, hgo⟩
       · refine .inl (Oper.wp_mono ?_ (wp_move (G := fun v w'' => F i v w'' ∧ E w' w'' ∧ R (listed.setIfInBounds i true) (fun j => if j = i then v else vs j) w'') (Region.noSelect_spec hSel i l[i] · · ho) ?_ hop ?_))
         · rintro a'' w'' ⟨v, rfl, h1, h2, h3⟩
           exact hnew v w'' h1 h2 h3
         · rw [fill_size, hag.size]
         · exact hgo
       · exact absurd hgo (by simp [LPost])
     · rename_i hw
       rw [if_neg hw] at hgo
       obtain ⟨v, h0, h1, h2, h3⟩ : ∃ v, _ = (fillA l vs a0 ((fsts deps).getD i [])).put (l[i]).dst v ∧ F i v w' ∧ E w' w' ∧ R _ _ w' := hgo
       have := put_same (a := a) (by rw [fill_size, hag.size]) h0
       rw [this]
       exact hnew v w' h1 h2 h3
   · have hin : i = nh + k := by
       have h1 : ¬ i < nh + k := fun h => by have := (hlk i).2 h; rw [hunl] at this; cases this
       rcases Nat.lt_or_ge (nh + k) i with h | h
       · have := (hlk (nh + k)).1 (hall (nh + k) (tail1 i (nh + k) hil (by omega) h))
         omega
       · omega
     subst hin
     have hdrop : l.drop (nh + k) = l[nh + k] :: l.drop (nh + k + 1) := List.drop_eq_getElem_cons hil
     rw [hdrop] at hwp
     unfold wpList at hwp
     have hgoal : ∀ a' w'', wpList P l.toArray Q (l.drop (nh + k + 1)) a' w'' → LInvZ P l nh a0 w.drew F E R Q (listed.setIfInBounds (nh + k) true) a' w'' := by
       intro a' w'' h
       refine ⟨by simpa using hsz, hcl', .inr ⟨k + 1, by omega, fun j => ?_, h⟩⟩
       rw [set_get hun, hlk]
       omega
     unfold wpOp
     rw [ho]
     simp only []
     split
     · rename_i hw
       rw [if_pos hw] at hwp
       exact hwp.imp (Oper.wp_mono hgoal) (fun h => h)
     · rename_i hw
       rw [if_neg hw] at hwp
       exact hgoal _ _ hwp
 · -- the end
   rintro listed a w' ⟨hsz, hcl, hI⟩ hr
   have hno : ∀ i, i < l.length → listed.getD i false = false → (∀ j, j < i → listed.getD j false = true) → False := by
     intro i hi hu hj
     have : i ∈ Region.ready .any l.toArray listed := by
       rw [mem_ready]
       refine ⟨by rw [Array.getD_eq_getD_getElem?] at hu ⊢; simp [show i < listed.size by omega] at hu ⊢; exact hu, l[i], by simp [hi], fun e he hb => hj _ (back1 i hi e he hb)⟩
     rw [hr] at this
     cases this
   have hmin : ∀ n, n ≤ l.length → (∀ j, j < n → listed.getD j false = true) := by
     intro n
     induction n with
     | zero => intro _ j hj; omega
     | succ n ih =>
       intro hn j hj
       have h1 := ih (by omega)
       by_cases hjn : j = n
       · subst hjn
         cases hq : listed.getD j false with
         | true => rfl
         | false => exact (hno j (by omega) hq h1).elim
       · exact h1 j (by omega)
   rcases hI with ⟨i0, hi0, hi0u, _⟩ | ⟨k, hk, hlk, hwp⟩
   · have := hmin l.length (Nat.le_refl _) i0 (by omega)
     rw [hi0u] at this
     cases this
   · have : nh + k = l.length := by
       rcases Nat.lt_or_ge (nh + k) l.length with h | h
       · have := (hlk (nh + k)).1 (hmin l.length (Nat.le_refl _) _ h)
         omega
       · omega
     rw [this, List.drop_length] at hwp
     exact hwp
 · have : unl (Array.replicate l.toArray.size false) ≤ (Array.replicate l.toArray.size false).toList.length := List.length_filter_le _ _
   simpa using this
 · have hno : ∀ j, (Array.replicate l.toArray.size false).getD j false = false := by
     intro j
     rw [Array.getD_eq_getD_getElem?, Array.getElem?_replicate]
     split <;> rfl
   refine ⟨by simp, fun i j h _ => (by rw [hno] at h; cases h), ?_⟩
   rcases Nat.eq_zero_or_pos nh with h0 | h0
   · subst h0
     refine .inr ⟨0, by omega, fun i => ⟨fun h => (by rw [hno] at h; cases h), fun h => by omega⟩, ?_⟩
     have : head = [] := List.eq_nil_of_length_eq_zero hnhe
     subst this
     exact hdone _ _ (fun _ => undef) (hEr _) (fun j hj => by simp at hj) hR0
   · refine .inl ⟨0, h0, hno 0, fun _ => undef, ⟨rfl, rfl, fun _ _ => rfl, fun t j hj h => ?_⟩, fun j hj h => (by rw [hno] at h; cases h), hEr _, ?_⟩
     · rw [gd _ _ (by simp; omega), hno] at h
       cases h
     · exact hR0
/-- one operation (s) writes: the operations of `bef` come up before it -/
theorem wp_region_vals {P : Program} {id : Nat} {l : List Oper} {Q : Exit → Go.Act → World → Prop} {a0 : Go.Act} {w : World} (hm : P.follows .mixedOrders = true)
   (head : List (Nat × Option Tmp)) (deps : List (List (Nat × Option Tmp))) (hok : okAll l head deps = true) (s : Nat) (bef : List Nat) (hbef : (decide (s < head.length) && bef.all fun j => has (clOf l) s j) = true)
   (F : Nat → Value → World → Prop) (E : World → World → Prop) (R : Bool → (Nat → Value) → World → Prop)
   (hEr : ∀ w, E w w) (hEt : ∀ a b c, E a b → E b c → E a c) (hFE : ∀ i v a b, i < head.length → F i v a → E a b → F i v b)
   (hR0 : R false (fun _ => undef) w.drew)
   (hstep : steps (fun i o => ∀ w' b vs, E w.drew w' → (i = s ∨ i ∈ bef → b = false) → R b vs w' → tele (fun j v w => F j v w ∧ v = vs j) w' (fun c => ∀ Q' : Exit → Go.Act → World → Prop, (∀ v a'' w'', a'' = c.put o.dst v → F i v w'' → E w' w'' → R (i == s || b) (fun j => if j = i then v else vs j) w'' → Q' .normal a'' w'') → wpList P l.toArray Q' [o] c w') (deps.getD i []) a0) 0 (l.take head.length))
   (hdone : ∀ w' vs, E w.drew w' → R true vs w' → tele (fun j v w => F j v w ∧ v = vs j) w' (fun c => wpList P l.toArray Q (l.drop head.length) c w') head a0) :
   (Code.region id l.toArray true).wp P Q a0 w := by
 simp only [Bool.and_eq_true, decide_eq_true_eq, List.all_eq_true] at hbef
 obtain ⟨hs, hbef⟩ := hbef
 have hnh : head.length ≤ l.length := by
   simp only [okAll, Bool.and_eq_true, decide_eq_true_eq] at hok
   exact hok.1.1.1.1.1.1.1.1
 refine wp_region_setZ hm head deps hok F E (fun L v w => R (L.getD s false) v w) hEr hEt hFE ?_ ?_ ?_
 · have : (Array.replicate l.toArray.size false).getD s false = false := by
     rw [Array.getD_eq_getD_getElem?, Array.getElem?_replicate]
     split <;> rfl
   rw [this]
   exact hR0
 · refine steps_imp hstep fun i o hi h w' L vs hE hsz hun hcl hR => ?_
   have hb : i = s ∨ i ∈ bef → L.getD s false = false := by
     rintro (h | h)
     · rw [← h]; exact hun
     · cases hq : L.getD s false with
       | false => rfl
       | true =>
         have := hcl s i hq (hbef i h)
         rw [hun] at this
         cases this
   have h2 := h w' (L.getD s false) vs hE hb hR
   have hset : (L.setIfInBounds i true).getD s false = (i == s || L.getD s false) := by
     by_cases his : i = s
     · subst his
       rw [Array.getD_eq_getD_getElem?]
       simp [show i < L.size by omega]
     · rw [getD_set_ne false his]
       simp [his]
   refine tele_imp (deps.getD i []) _ _ (fun c hc Q' hQ' => hc Q' fun v a'' w'' h1 h3 h4 h5 => hQ' v a'' w'' h1 h3 h4 ?_) _ h2
   show R ((L.setIfInBounds i true).getD s false) _ w''
   rw [hset]
   exact h5
 · intro w' L vs hE hall hR
   rw [hall s hs] at hR
   exact hdone w' vs hE hR
theorem wp_region_set {P : Program} {id : Nat} {l : List Oper} {Q : Exit → Go.Act → World → Prop} {a0 : Go.Act} {w : World} (hm : P.follows .mixedOrders = true)
   (head : List (Nat × Option Tmp)) (deps : List (List (Nat × Option Tmp))) (hok : okAll l head deps = true)
   (F : Nat → Value → World → Prop) (E : World → World → Prop) (R : Array Bool → World → Prop)
   (hEr : ∀ w, E w w) (hEt : ∀ a b c, E a b → E b c → E a c) (hFE : ∀ i v a b, i < head.length → F i v a → E a b → F i v b)
   (hR0 : R (Array.replicate l.toArray.size false) w.drew)
   (hstep : steps (fun i o => ∀ w' (L : Array Bool), E w.drew w' → L.size = l.length → L.getD i false = false → (∀ i' j, L.getD i' false = true → has (clOf l) i' j = true → L.getD j false = true) → R L w' → tele F w' (fun c => ∀ Q' : Exit → Go.Act → World → Prop, (∀ v a'' w'', a'' = c.put o.dst v → F i v w'' → E w' w'' → R (L.setIfInBounds i true) w'' → Q' .normal a'' w'') → wpList P l.toArray Q' [o] c w') (deps.getD i []) a0) 0 (l.take head.length))
   (hdone : ∀ w' (L : Array Bool), E w.drew w' → (∀ j, j < head.length → L.getD j false = true) → R L w' → tele F w' (fun c => wpList P l.toArray Q (l.drop head.length) c w') head a0) :
   (Code.region id l.toArray true).wp P Q a0 w :=
 wp_region_setZ hm head deps hok F E (fun L _ w => R L w) hEr hEt hFE hR0
   (steps_imp hstep fun i o hi h w' L vs hE hsz hun hcl hR => tele_weak (fun _ _ hv => hv.1) _ _ (h w' L hE hsz hun hcl hR))
   (fun w' L vs hE hall hR => tele_weak (fun _ _ hv => hv.1) _ _ (hdone w' L hE hall hR))
theorem wp_region_setX {P : Program} {id : Nat} {l : List Oper} {Q : Exit → Go.Act → World → Prop} {a0 : Go.Act} {w : World} (hm : P.follows .mixedOrders = true)
   (head : List (Nat × Option Tmp)) (deps : List (List (Nat × Option Tmp))) (hok : okAll l head deps = true)
   (F : Nat → Value → World → Prop) (E : World → World → Prop) (p : Nat) (R : Array Bool → Value → World → Prop)
   (hEr : ∀ w, E w w) (hEt : ∀ a b c, E a b → E b c → E a c) (hFE : ∀ i v a b, i < head.length → F i v a → E a b → F i v b)
   (hR0 : R (Array.replicate l.toArray.size false) undef w.drew)
   (hstep : steps (fun i o => ∀ w' (L : Array Bool) (vp : Value), E w.drew w' → L.size = l.length → L.getD i false = false → (∀ i' j, L.getD i' false = true → has (clOf l) i' j = true → L.getD j false = true) → R L vp w' → tele (fun j v w => F j v w ∧ (j = p → v = vp)) w' (fun c => ∀ Q' : Exit → Go.Act → World → Prop, (∀ v a'' w'', a'' = c.put o.dst v → F i v w'' → E w' w'' → R (L.setIfInBounds i true) (if i = p then v else vp) w'' → Q' .normal a'' w'') → wpList P l.toArray Q' [o] c w') (deps.getD i []) a0) 0 (l.take head.length))
   (hdone : ∀ w' (L : Array Bool) (vp : Value), E w.drew w' → (∀ j, j < head.length → L.getD j false = true) → R L vp w' → tele (fun j v w => F j v w ∧ (j = p → v = vp)) w' (fun c => wpList P l.toArray Q (l.drop head.length) c w') head a0) :
   (Code.region id l.toArray true).wp P Q a0 w :=
 wp_region_setZ hm head deps hok F E (fun L vs w => R L (vs p) w) hEr hEt hFE hR0
   (steps_imp hstep fun i o hi h w' L vs hE hsz hun hcl hR => tele_weak (fun j v hv => ⟨hv.1, fun e => by rw [← e]; exact hv.2⟩) _ _
     (tele_imp _ _ _ (fun c hc Q' hQ' => hc Q' fun v a'' w'' h1 h3 h4 h5 => hQ' v a'' w'' h1 h3 h4 (by
       by_cases e : p = i
       · simpa [e] using h5
       · have e2 : ¬ i = p := fun h => e h.symm
         simpa [e, e2] using h5)) _ (h w' L (vs p) hE hsz hun hcl hR)))
   (fun w' L vs hE hall hR => tele_weak (fun j v hv => ⟨hv.1, fun e => by rw [← e]; exact hv.2⟩) _ _ (hdone w' L (vs p) hE hall hR))
theorem wp_region_one {P : Program} {id : Nat} {l : List Oper} {Q : Exit → Go.Act → World → Prop} {a0 : Go.Act} {w : World} (hm : P.follows .mixedOrders = true)
   (head : List (Nat × Option Tmp)) (deps : List (List (Nat × Option Tmp))) (hok : okAll l head deps = true) (s : Nat) (bef : List Nat) (hbef : (decide (s < head.length) && bef.all fun j => has (clOf l) s j) = true)
   (F : Nat → Value → World → Prop) (E : World → World → Prop) (R : Bool → World → Prop)
   (hEr : ∀ w, E w w) (hEt : ∀ a b c, E a b → E b c → E a c) (hFE : ∀ i v a b, i < head.length → F i v a → E a b → F i v b)
   (hR0 : R false w.drew)
   (hstep : steps (fun i o => ∀ w' b, E w.drew w' → (i = s ∨ i ∈ bef → b = false) → R b w' → tele F w' (fun c => ∀ Q' : Exit → Go.Act → World → Prop, (∀ v a'' w'', a'' = c.put o.dst v → F i v w'' → E w' w'' → R (i == s || b) w'' → Q' .normal a'' w'') → wpList P l.toArray Q' [o] c w') (deps.getD i []) a0) 0 (l.take head.length))
   (hdone : ∀ w', E w.drew w' → R true w' → tele F w' (fun c => wpList P l.toArray Q (l.drop head.length) c w') head a0) :
   (Code.region id l.toArray true).wp P Q a0 w := by
 simp only [Bool.and_eq_true, decide_eq_true_eq, List.all_eq_true] at hbef
 obtain ⟨hs, hbef⟩ := hbef
 have hnh : head.length ≤ l.length := by
   simp only [okAll, Bool.and_eq_true, decide_eq_true_eq] at hok
   exact hok.1.1.1.1.1.1.1.1
 refine wp_region_set hm head deps hok F E (fun L w => R (L.getD s false) w) hEr hEt hFE ?_ ?_ ?_
 · have : (Array.replicate l.toArray.size false).getD s false = false := by
     rw [Array.getD_eq_getD_getElem?, Array.getElem?_replicate]
     split <;> rfl
   rw [this]
   exact hR0
 · refine steps_imp hstep fun i o hi h w' L hE hsz hun hcl hR => ?_
   have hb : i = s ∨ i ∈ bef → L.getD s false = false := by
     rintro (h | h)
     · rw [← h]; exact hun
     · cases hq : L.getD s false with
       | false => rfl
       | true =>
         have := hcl s i hq (hbef i h)
         rw [hun] at this
         cases this
   have h2 := h w' (L.getD s false) hE hb hR
   have hset : (L.setIfInBounds i true).getD s false = (i == s || L.getD s false) := by
     by_cases his : i = s
     · subst his
       rw [Array.getD_eq_getD_getElem?]
       simp [show i < L.size by omega]
     · rw [getD_set_ne false his]
       simp [his]
   refine tele_imp (deps.getD i []) _ _ (fun c hc Q' hQ' => hc Q' fun v a'' w'' h1 h3 h4 h5 => hQ' v a'' w'' h1 h3 h4 ?_) _ h2
   show R ((L.setIfInBounds i true).getD s false) w''
   rw [hset]
   exact h5
 · intro w' L hE hall hR
   rw [hall s hs] at hR
   exact hdone w' hE hR
/-- one operation (s) writes into what another one (p) has laid: the operations of `bef` come up before it -/
theorem wp_region_box {P : Program} {id : Nat} {l : List Oper} {Q : Exit → Go.Act → World → Prop} {a0 : Go.Act} {w : World} (hm : P.follows .mixedOrders = true)
   (head : List (Nat × Option Tmp)) (deps : List (List (Nat × Option Tmp))) (hok : okAll l head deps = true) (s : Nat) (bef : List Nat) (hbef : (decide (s < head.length) && bef.all fun j => has (clOf l) s j) = true)
   (p : Nat) (F : Nat → Value → World → Prop) (E : World → World → Prop) (R : Bool → Value → World → Prop)
   (hEr : ∀ w, E w w) (hEt : ∀ a b c, E a b → E b c → E a c) (hFE : ∀ i v a b, i < head.length → F i v a → E a b → F i v b)
   (hR0 : R false undef w.drew)
   (hstep : steps (fun i o => ∀ w' b vp, E w.drew w' → (i = s ∨ i ∈ bef → b = false) → R b vp w' → tele (fun j v w => F j v w ∧ (j = p → v = vp)) w' (fun c => ∀ Q' : Exit → Go.Act → World → Prop, (∀ v a'' w'', a'' = c.put o.dst v → F i v w'' → E w' w'' → R (i == s || b) (if i = p then v else vp) w'' → Q' .normal a'' w'') → wpList P l.toArray Q' [o] c w') (deps.getD i []) a0) 0 (l.take head.length))
   (hdone : ∀ w' vp, E w.drew w' → R true vp w' → tele (fun j v w => F j v w ∧ (j = p → v = vp)) w' (fun c => wpList P l.toArray Q (l.drop head.length) c w') head a0) :
   (Code.region id l.toArray true).wp P Q a0 w := by
 simp only [Bool.and_eq_true, decide_eq_true_eq, List.all_eq_true] at hbef
 obtain ⟨hs, hbef⟩ := hbef
 have hnh : head.length ≤ l.length := by
   simp only [okAll, Bool.and_eq_true, decide_eq_true_eq] at hok
   exact hok.1.1.1.1.1.1.1.1
 refine wp_region_setX hm head deps hok F E p (fun L v w => R (L.getD s false) v w) hEr hEt hFE ?_ ?_ ?_
 · have : (Array.replicate l.toArray.size false).getD s false = false := by
     rw [Array.getD_eq_getD_getElem?, Array.getElem?_replicate]
     split <;> rfl
   rw [this]
   exact hR0
 · refine steps_imp hstep fun i o hi h w' L vp hE hsz hun hcl hR => ?_
   have hb : i = s ∨ i ∈ bef → L.getD s false = false := by
     rintro (h | h)
     · rw [← h]; exact hun
     · cases hq : L.getD s false with
       | false => rfl
       | true =>
         have := hcl s i hq (hbef i h)
         rw [hun] at this
         cases this
   have h2 := h w' (L.getD s false) vp hE hb hR
   have hset : (L.setIfInBounds i true).getD s false = (i == s || L.getD s false) := by
     by_cases his : i = s
     · subst his
       rw [Array.getD_eq_getD_getElem?]
       simp [show i < L.size by omega]
     · rw [getD_set_ne false his]
       simp [his]
   refine tele_imp (deps.getD i []) _ _ (fun c hc Q' hQ' => hc Q' fun v a'' w'' h1 h3 h4 h5 => hQ' v a'' w'' h1 h3 h4 ?_) _ h2
   show R ((L.setIfInBounds i true).getD s false) _ w''
   rw [hset]
   exact h5
 · intro w' L vp hE hall hR
   rw [hall s hs] at hR
   exact hdone w' vp hE hR
theorem rep_bit (n s : Nat) : (Array.replicate n false).getD s false = false := by
 rw [Array.getD_eq_getD_getElem?, Array.getElem?_replicate]
 split <;> rfl
theorem steps_lt {p q : Nat → Oper → Prop} {l : List Oper} (h : steps p 0 l) (hi : ∀ i o, 0 ≤ i → i < l.length → p i o → q i o) : steps q 0 l := by
 have key : ∀ (l : List Oper) (k : Nat), steps p k l → (∀ i o, k ≤ i → i < k + l.length → p i o → q i o) → steps q k l := by
   intro l
   induction l with
   | nil => intro k _ _; trivial
   | cons x l ih => intro k h hi; exact ⟨hi _ _ (Nat.le_refl _) (by simp) h.1, ih (k + 1) h.2 fun i o h1 h2 => hi i o (by omega) (by simp; omega)⟩
 exact key l 0 h fun i o h1 h2 => hi i o h1 (by simpa using h2)
theorem left_set {cost : List Nat} {L : Array Bool} {n i : Nat} (hi : i < n) (hsz : n ≤ L.size) (hun : L.getD i false = false) : leftOf cost L n = leftOf cost (L.setIfInBounds i true) n + cost.getD i 0 := by
 have hset : ∀ k, (L.setIfInBounds i true).getD k false = (i == k && decide (i < L.size) || L.getD k false) := by
   intro k
   by_cases hik : i = k
   · subst hik
     rw [Array.getD_eq_getD_getElem?]
     by_cases h : i < L.size
     · simp [h]
     · omega
   · rw [getD_set_ne false hik]
     simp [hik]
 have h1 := sumTo_upd (f := fun k => if L.getD k false = true then 0 else cost.getD k 0) (g := fun k => if (L.setIfInBounds i true).getD k false = true then 0 else cost.getD k 0) (i := i) n hi
   (by rw [hset]; simp [show i < L.size by omega])
   (fun j hj hne => by rw [hset]; have : (i == j) = false := by simpa using fun e => hne e.symm
                       rw [this]; simp)
 unfold leftOf
 rw [h1]
 simp only [hun]
 simp
theorem left_all {cost : List Nat} {L : Array Bool} {n : Nat} (h : ∀ j, j < n → L.getD j false = true) : leftOf cost L n = 0 := sumTo_zero n fun i hi => by simp only [h i hi]; simp
theorem wp_region_loc {P : Program} {id : Nat} {l : List Oper} {Q : Exit → Act → World → Prop} {a0 : Act} {w : World} (hm : P.follows .mixedOrders = true)
   (head : List (Nat × Option Tmp)) (deps : List (List (Nat × Option Tmp))) (hok : okAll l head deps = true)
   (F : Nat → Value → World → Prop) (E : World → World → Prop) (R : Nat → World → Prop) (cost : List Nat) (total : Nat) (htot : sumTo (fun i => cost.getD i 0) head.length = total)
   (hEr : ∀ w, E w w) (hEt : ∀ a b c, E a b → E b c → E a c) (hFE : ∀ i v a b, i < head.length → F i v a → E a b → F i v b)
   (hR0 : R total w.drew)
   (hstep : steps (fun i o => ∀ w' m, E w.drew w' → R (m + cost.getD i 0) w' → tele F w' (fun c => ∀ Q' : Exit → Act → World → Prop, (∀ v a'' w'', a'' = c.put o.dst v → F i v w'' → E w' w'' → R m w'' → Q' .normal a'' w'') → wpList P l.toArray Q' [o] c w') (deps.getD i []) a0) 0 (l.take head.length))
   (hdone : ∀ w', E w.drew w' → R 0 w' → tele F w' (fun c => wpList P l.toArray Q (l.drop head.length) c w') head a0) :
   (Code.region id l.toArray true).wp P Q a0 w := by
 have hnh : head.length ≤ l.length := by
   simp only [okAll, Bool.and_eq_true, decide_eq_true_eq] at hok
   exact hok.1.1.1.1.1.1.1.1
 refine wp_region_setZ hm head deps hok F E (fun L _ w => R (leftOf cost L head.length) w) hEr hEt hFE ?_ ?_ ?_
 · have h0 : leftOf cost (Array.replicate l.toArray.size false) head.length = total := by
     rw [← htot]
     exact sumTo_congr _ fun i hi => by simp only [rep_bit]; simp
   rw [h0]
   exact hR0
 · refine steps_lt hstep fun i o hi hil h w' L vs hE hsz hun hcl hR => ?_
   have hin : i < head.length := by
     simp only [List.length_take] at hil
     omega
   have hR' : R (leftOf cost (L.setIfInBounds i true) head.length + cost.getD i 0) w' := by
     rw [← left_set hin (by omega) hun]
     exact hR
   exact tele_weak (fun _ _ hv => hv.1) _ _ (h w' _ hE hR')
 · intro w' L vs hE hall hR
   rw [left_all hall] at hR
   exact tele_weak (fun _ _ hv => hv.1) _ _ (hdone w' hE hR)
/-- m: what the operations to come may draw yet; b: has s come up? vp: what p has given -/
theorem wp_region_cost {P : Program} {id : Nat} {l : List Oper} {Q : Exit → Go.Act → World → Prop} {a0 : Go.Act} {w : World} (hm : P.follows .mixedOrders = true)
   (head : List (Nat × Option Tmp)) (deps : List (List (Nat × Option Tmp))) (hok : okAll l head deps = true) (s : Nat) (bef : List Nat) (hbef : (decide (s < head.length) && bef.all fun j => has (clOf l) s j) = true)
   (cost : List Nat) (total : Nat) (htot : sumTo (fun i => cost.getD i 0) head.length = total)
   (p : Nat) (F : Nat → Value → World → Prop) (E : World → World → Prop) (R : Nat → Bool → Value → World → Prop)
   (hEr : ∀ w, E w w) (hEt : ∀ a b c, E a b → E b c → E a c) (hFE : ∀ i v a b, i < head.length → F i v a → E a b → F i v b)
   (hR0 : R total false undef w.drew)
   (hstep : steps (fun i o => ∀ w' m b vp, E w.drew w' → (i = s ∨ i ∈ bef → b = false) → R (m + cost.getD i 0) b vp w' → tele (fun j v w => F j v w ∧ (j = p → v = vp)) w' (fun a => ∀ Q' : Exit → Go.Act → World → Prop, (∀ v a'' w'', a'' = a.put o.dst v → F i v w'' → E w' w'' → R m (i == s || b) (if i = p then v else vp) w'' → Q' .normal a'' w'') → wpList P l.toArray Q' [o] a w') (deps.getD i []) a0) 0 (l.take head.length))
   (hdone : ∀ w' vp, E w.drew w' → R 0 true vp w' → tele (fun j v w => F j v w ∧ (j = p → v = vp)) w' (fun c => wpList P l.toArray Q (l.drop head.length) c w') head a0) :
   (Code.region id l.toArray true).wp P Q a0 w := by
 simp only [Bool.and_eq_true, decide_eq_true_eq, List.all_eq_true] at hbef
 obtain ⟨hs, hbef⟩ := hbef
 have hnh : head.length ≤ l.length := by
   simp only [okAll, Bool.and_eq_true, decide_eq_true_eq] at hok
   exact hok.1.1.1.1.1.1.1.1
 refine wp_region_setX hm head deps hok F E p (fun L v w => R (leftOf cost L head.length) (L.getD s false) v w) hEr hEt hFE ?_ ?_ ?_
 · have h0 : leftOf cost (Array.replicate l.toArray.size false) head.length = total := by
     rw [← htot]
     exact sumTo_congr _ fun i hi => by simp only [rep_bit]; simp
   rw [rep_bit, h0]
   exact hR0
 · refine steps_lt hstep fun i o hi hil h w' L vp hE hsz hun hcl hR => ?_
   have hin : i < head.length := by
     have := hil
     simp only [List.length_take] at this
     omega
   have hb : i = s ∨ i ∈ bef → L.getD s false = false := by
     rintro (h | h)
     · rw [← h]; exact hun
     · cases hq : L.getD s false with
       | false => rfl
       | true =>
         have := hcl s i hq (hbef i h)
         rw [hun] at this
         cases this
   have hR' : R (leftOf cost (L.setIfInBounds i true) head.length + cost.getD i 0) (L.getD s false) vp w' := by
     rw [← left_set hin (by omega) hun]
     exact hR
   have h2 := h w' (leftOf cost (L.setIfInBounds i true) head.length) (L.getD s false) vp hE hb hR'
   refine tele_imp (deps.getD i []) _ _ (fun c hc Q' hQ' => hc Q' fun v a'' w'' h1 h3 h4 h5 => hQ' v a'' w'' h1 h3 h4 ?_) _ h2
   show R _ ((L.setIfInBounds i true).getD s false) _ w''
   have hil : (L.setIfInBounds i true).getD s false = (i == s || L.getD s false) := by
     by_cases hik : i = s
     · subst hik
       rw [Array.getD_eq_getD_getElem?]
       simp [show i < L.size by omega]
     · rw [getD_set_ne false hik]
       simp [hik]
   rw [hil]
   exact h5
 · intro w' L vp hE hall hR
   rw [hall s hs, left_all hall] at hR
   exact hdone w' vp hE hR
end Go.Proofs.YtihlhejencninaaGreat
namespace Go.Proofs.YtihlhejencninaaGreat
open Go.RowKit
set_option linter.unusedVariables false
set_option linter.unusedSimpArgs false

/-- kept by new memory -/
def StB (f : Value → World → Prop) : Prop := ∀ v a b, Below a.heap.size a b → f v a → f v b
def bV (u : Value) (v : Value) (_ : World) : Prop := v = u
theorem sb_V (u : Value) : StB (bV u) := fun _ _ _ _ h => h
theorem sb_True : StB (fun _ _ => True) := fun _ _ _ _ h => h
def StBL : List (Value → World → Prop) → Prop
 | [] => True
 | f :: l => StB f ∧ StBL l
theorem stbl_get : ∀ {l : List (Value → World → Prop)}, StBL l → ∀ i, StB (l.getD i fun _ _ => True)
 | [], _, i => fun _ _ _ _ _ => trivial
 | f :: l, h, 0 => h.1
 | f :: l, h, i + 1 => by simpa using stbl_get h.2 i
/-- the operations' facts, from a list -/
def locB (fs : List (Value → World → Prop)) (i : Nat) (v : Value) (w : World) : Prop := (fs.getD i fun _ _ => True) v w
theorem locB_st {fs : List (Value → World → Prop)} (h : StBL fs) (n : Nat) (i : Nat) (v : Value) (a b : World) (_ : i < n) (hf : locB fs i v a) (hc : Below a.heap.size a b) : locB fs i v b := stbl_get h i v a b hc hf
def noR (_ : Nat) (_ : World) : Prop := True
theorem below_undrew {a b : World} (h : Below a.drew.heap.size a.drew b) : Below a.heap.size a b := ⟨h.os, h.tape, h.output, h.size, h.block⟩
end Go.Proofs.YtihlhejencninaaGreat
namespace Go.Proofs.YtihlhejencninaaGreat
open Go.RowKit
set_option linter.unusedVariables false
set_option linter.unusedSimpArgs false

/-- facts of the value alone -/
def StV (f : Value → World → Prop) : Prop := ∀ v a b, f v a → f v b
def pV (p : Value → Prop) (v : Value) (_ : World) : Prop := p v
def StVL : List (Value → World → Prop) → Prop
 | [] => True
 | f :: l => StV f ∧ StVL l
theorem stvl_get : ∀ {l : List (Value → World → Prop)}, StVL l → ∀ i, StV (l.getD i fun _ _ => True)
 | [], _, i => fun _ _ _ _ => trivial
 | f :: l, h, 0 => h.1
 | f :: l, h, i + 1 => by simpa using stvl_get h.2 i
theorem locV_st {fs : List (Value → World → Prop)} {E : World → World → Prop} (h : StVL fs) (n : Nat) (i : Nat) (v : Value) (a b : World) (_ : i < n) (hf : locB fs i v a) (_ : E a b) : locB fs i v b := stvl_get h i v a b hf
end Go.Proofs.YtihlhejencninaaGreat
namespace Go.Proofs.YtihlhejencninaaGreat
open Go.RowKit
set_option linter.unusedVariables false
set_option linter.unusedSimpArgs false

/-- kept while the block g alone changes -/
def StG (g : Nat) (f : Value → World → Prop) : Prop := ∀ v a b, Chg (fun k => k = g) a b → f v a → f v b
def kV (u : Value) (v : Value) (_ : World) : Prop := v = u
def kInt (lo hi : Int) (v : Value) (_ : World) : Prop := ∃ z : Int, v = .int .i64 z ∧ lo ≤ z ∧ z ≤ hi
def kRow (g : Nat) (t : TypeId) (n : Nat) (lo hi : Int) (v : Value) (w : World) : Prop :=
 ∃ (q : Nat) (zs : List Int), v = .slice (some ⟨q, 0, none⟩) n n ∧ q ≠ g ∧ zs.length = n ∧ Blk w q t (zs.map (Value.int .i64)).toArray ∧ ∀ i (h : i < zs.length), lo ≤ zs[i] ∧ zs[i] ≤ hi
def kPtr (g : Nat) (lo hi : Int) (v : Value) (w : World) : Prop :=
 ∃ (q i : Nat) (z : Int), v = .pointer (some ⟨q, i, none⟩) ∧ q ≠ g ∧ q < w.heap.size ∧ w.cell? ⟨q, i, none⟩ = some (.int .i64 z) ∧ lo ≤ z ∧ z ≤ hi
theorem st_V {g : Nat} (u : Value) : StG g (kV u) := fun _ _ _ _ h => h
theorem st_Int {g : Nat} (lo hi : Int) : StG g (kInt lo hi) := fun _ _ _ _ h => h
theorem st_Row {g : Nat} (t : TypeId) (n : Nat) (lo hi : Int) : StG g (kRow g t n lo hi) := fun _ _ _ hc ⟨q, zs, h1, h2, h3, h4, h5⟩ => ⟨q, zs, h1, h2, h3, h4.chg hc h2, h5⟩
theorem st_Ptr {g : Nat} (lo hi : Int) : StG g (kPtr g lo hi) := fun _ _ _ hc ⟨q, i, z, h1, h2, h3, h4, h5⟩ => ⟨q, i, z, h1, h2, Nat.lt_of_lt_of_le h3 hc.size, hc.cell (p := ⟨q, i, none⟩) h4 h2, h5⟩
theorem st_True {g : Nat} : StG g (fun _ _ => True) := fun _ _ _ _ h => h
def StL (g : Nat) : List (Value → World → Prop) → Prop
 | [] => True
 | f :: l => StG g f ∧ StL g l
theorem stl_nil {g : Nat} : StL g [] := trivial
theorem stl_cons {g : Nat} {f : Value → World → Prop} {l : List (Value → World → Prop)} (h : StG g f) (t : StL g l) : StL g (f :: l) := ⟨h, t⟩
theorem stl_get {g : Nat} : ∀ {l : List (Value → World → Prop)}, StL g l → ∀ i, StG g (l.getD i fun _ _ => True)
 | [], _, i => fun _ _ _ _ _ => trivial
 | f :: l, h, 0 => h.1
 | f :: l, h, i + 1 => by simpa using stl_get h.2 i
/-- the operations' facts, from a list -/
def locF (fs : List (Value → World → Prop)) (i : Nat) (v : Value) (w : World) : Prop := (fs.getD i fun _ _ => True) v w
theorem locF_st {g : Nat} {fs : List (Value → World → Prop)} (h : StL g fs) (i : Nat) (v : Value) (a b : World) (n : Nat) (_ : i < n) (hf : locF fs i v a) (hc : Chg (fun k => k = g) a b) : locF fs i v b := stl_get h i v a b hc hf
/-- a row of numbers that is laid now -/
theorem kRow_new {g : Nat} {w0 w : World} (zs : List Int) (t : TypeId) (lo hi : Int) (hg : g < w0.heap.size) (hE : Chg (fun k => k = g) w0.drew w) (hb : ∀ i (h : i < zs.length), lo ≤ zs[i] ∧ zs[i] ≤ hi) :
   kRow g t zs.length lo hi (.slice (some ⟨w.heap.size, 0, none⟩) zs.length zs.length) (w.alloc (.cells (zs.map (Value.int .i64)).toArray t)) :=
 ⟨w.heap.size, zs, rfl, by have h1 := hE.size; have h2 : w0.heap.size = w0.drew.heap.size := rfl; omega, rfl, Blk.new _ _ _, hb⟩
/-- an address in such a row -/
theorem kRow_cell {g : Nat} {t : TypeId} {n : Nat} {lo hi : Int} {w : World} {q : Nat} {zs : List Int} (h3 : zs.length = n) (h4 : Blk w q t (zs.map (Value.int .i64)).toArray) (h5 : ∀ i (h : i < zs.length), lo ≤ zs[i] ∧ zs[i] ≤ hi) {x : Int} (h0 : 0 ≤ x) (hx : x < n) :
   ∃ (i : Nat) (z : Int), x = i ∧ i < n ∧ q < w.heap.size ∧ w.cell? ⟨q, i, none⟩ = some (.int .i64 z) ∧ lo ≤ z ∧ z ≤ hi := by
 obtain ⟨i, rfl⟩ := Int.eq_ofNat_of_zero_le h0
 have hi : i < zs.length := by omega
 exact ⟨i, zs[i], rfl, by omega, h4.lt, by rw [h4.cell]; simp [hi], h5 i hi⟩
theorem rdrR_alloc {g N0 m : Nat} {w : World} (h : rdrR g N0 m w) (o : Obj) : rdrR g N0 m (w.alloc o) := by
 obtain ⟨N, h1, h2⟩ := h
 exact ⟨N, h1, h2.alloc o⟩
end Go.Proofs.YtihlhejencninaaGreat
