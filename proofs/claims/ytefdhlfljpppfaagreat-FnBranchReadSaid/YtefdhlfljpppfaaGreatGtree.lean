/- An append to a slice without room: only new memory. No program is in sight here. A region that draws its order and writes: as in XLoc, with what is owned told by the operations that have come up. No program is in sight here. Ways to a block, of both sides (printed by gen_in.py from xpath.in). Ways to a block, of the reference. Serial runs of the reference: RunSerial. The values and the store after a block (printed by gen_in.py from xstorei.in). The store after a block, of the reference (printed by gen_in.py from xstores.in). Answer by value, in the laws: to, sz, eq. Printed by gen_val.py. The answer to a question for a key after a block, of both sides (printed by gen_in.py from xask.in). Rows of things that hold memory of their own, grown one by one; changes that touch variables of one type alone. No program is in sight here. A region that draws its order, lays a variable and stores into it: as in XLocW, with the variable's address told. No program is in sight here. Slices of answers, and the answers for all keys, of both sides (printed by gen_in.py from xaskall.in). Copies of trees, of the reference (printed by gen_in.py from xcopy.in). The blocks that are kept, of both sides; the place in a list (printed by gen_in.py from xkept.in). Ways and leaves of trees: the plain law. No program is in sight here. -/
import Derived.Test.YtefdhlfljpppfaaGreatMem
import Derived.Test.YtefdhlfljpppfaaGreatOwn
import Derived.Test.YtefdhlfljpppfaaGreatLocB
import Derived.Test.YtefdhlfljpppfaaGreatBTree
import Derived.Test.YtefdhlfljpppfaaGreatBTreeS
import Derived.Test.YtefdhlfljpppfaaGreatRunSpec
import Derived.Test.YtefdhlfljpppfaaGreatSerial
import Derived.Test.YtefdhlfljpppfaaGreatPut
import Derived.Test.YtefdhlfljpppfaaGreatBlk
import Derived.Test.YtefdhlfljpppfaaGreatRootS
import Derived.Test.YtefdhlfljpppfaaGreatDiffs
import Derived.Test.YtefdhlfljpppfaaGreatEffS
import Derived.Test.YtefdhlfljpppfaaGreatBkM
import Derived.Test.YtefdhlfljpppfaaGreatTr
import Derived.Test.YtefdhlfljpppfaaGreatBSame
namespace Go.Proofs.YtefdhlfljpppfaaGreat
open Go.RowKit
set_option linter.unusedVariables false
set_option linter.unusedSimpArgs false

theorem run_app0 {P : Program} {w : World} {t e ty : TypeId} {size bytes base m c2 : Nat} {A A2 : Option Addr} {news : List Value} (hel : El P t e size bytes)
    (hown : w.ownsRow base e size (.slice A 0 0) 0 []) (hr : Rd w A2 news) (hl : news.length = m * size) (h1 : ∀ u ∈ news, u.oneCell' = true)
    (h63 : m ≤ maxLen) (hbytes : m * bytes ≤ 140737488355328) (hbase : base ≤ w.heap.size) :
    ∃ A' c' w', (Builtin.append_ #[t, t] ty #[.slice A 0 0, .slice A2 m c2]).run P w = .ok (.slice A' m c') w' ∧ w'.ownsRow base e size (.slice A' m c') m news ∧ Below w.heap.size w w' := by
  obtain ⟨ht, i, z, hi, hz, rfl, rfl, hzs, hsz⟩ := hel
  have hcells : ∀ ad, A2 = some ad → ∀ j u, news[j]? = some u → w.cell? (ad.add j) = some u := by
    intro ad hA j u hu
    obtain ⟨b, off, hA', hb, hc⟩ := hr (by have := (List.getElem?_eq_some_iff.1 hu).1; omega)
    rw [hA'] at hA
    injection hA with hA
    subst hA
    rw [plain_add]
    exact hc j u hu
  rcases Nat.eq_zero_or_pos m with h0 | h0
  · subst h0
    have hn : news = [] := List.eq_nil_of_length_eq_zero (by simpa using hl)
    subst hn
    refine ⟨A, 0, w, ?_, hown, Below.refl _ _⟩
    have hload : ∀ (a : Addr), (loadCells a 0).run P w = .ok #[] w := fun a => by simp [loadCells, loadCellsFrom]
    rcases hown.2 with ⟨hv, _⟩ | ⟨g, cap, cur, hv, hb, hg, hnc, hm, hsz2, htk⟩
    · injection hv with e1 e2 e3
      subst e1
      cases A2 <;> simp [Builtin.append_, run_underlying ht, sizeOf, typeInfo, hi, Builtin.lenOf, Builtin.firstCells, hload]
    · injection hv with e1 e2 e3
      subst e1
      subst e3
      cases A2 <;> simp [Builtin.append_, run_underlying ht, sizeOf, typeInfo, hi, Builtin.lenOf, Builtin.firstCells, hload, hnc, storeCells]
  · have hnl : 0 < news.length := by rw [hl]; exact Nat.mul_pos h0 hsz
    obtain ⟨b, off, rfl, hb, hc⟩ := hr hnl
    have hnews := hcells _ rfl
    have hsmall : 0 + m ≤ 9223372036854775807 := by simp only [maxLen] at h63; omega
    rcases hown.2 with ⟨hv, _⟩ | ⟨g, cap, cur, hv, hbg, hg, hnc, hcm, hcs, htake⟩
    · injection hv with e1 e2 e3
      subst e1
      have hrun := run_append_nil (P := P) w t ty e i z ht hi hz ⟨b, off, none⟩ m c2 news hl hnews h0 (by omega) (by omega)
      have hge := grownCap_ge w m 0 e
      have hcm := grownCap_le_maxLen w m 0 e (by omega)
      have hbel : Below w.heap.size w (w.drew.alloc (.cells (news.toArray ++ Builtin.zeroCells z.cells (grownCap w m 0 e - m)) e)) := (Below.refl _ _).drew.alloc (Nat.le_refl _) _
      refine ⟨_, _, _, hrun, ?_, hbel⟩
      have := own_front (w := w) (base := base) (e := e) (rest := Builtin.zeroCells z.cells (grownCap w m 0 e - m)) hbase hl hge hcm (by rw [size_zeroCells, hzs])
      simpa using this
    · injection hv with e1 e2 e3
      subst e1
      subst e3
      have hrun := run_append_grow (P := P) w t ty e i z ht hi hz ⟨g, 0, none⟩ 0 0 [] (by simp) (fun j u hu => by simp at hu) ⟨b, off, none⟩ m c2 news hl hnews (by omega) (by omega) (growslice_fits (by omega) (by rw [Nat.zero_add]; exact hbytes))
      have hge := grownCap_ge w (0 + m) 0 e
      have hcm := grownCap_le_maxLen w (0 + m) 0 e (by omega)
      have hbel : Below w.heap.size w (w.drew.alloc (.cells (([] : List Value).toArray ++ news.toArray ++ Builtin.zeroCells z.cells (grownCap w (0 + m) 0 e - (0 + m))) e)) := (Below.refl _ _).drew.alloc (Nat.le_refl _) _
      rw [Nat.zero_add] at hrun hge hcm hbel
      refine ⟨_, _, _, hrun, ?_, hbel⟩
      have := own_front (w := w) (base := base) (e := e) (rest := Builtin.zeroCells z.cells (grownCap w m 0 e - m)) hbase hl hge hcm (by rw [size_zeroCells, hzs])
      simpa using this
theorem wpList_app0 {P : Program} {w : World} {ops : Array Oper} {rest : List Oper} {o : Oper} {a : Go.Act} {Q : Exit → Go.Act → World → Prop} (hgd : o.guard = none) (s x : Operand) (t : TypeId)
    (ho : o.op = .call { callee := .builtin .append, args := #[s, x], argTypes := #[t, t] })
    {e : TypeId} {size bytes base m c2 : Nat} {A A2 : Option Addr} {news : List Value} (hel : El P t e size bytes) (hs : a.eval s = .slice A 0 0)
    (hown : w.ownsRow base e size (.slice A 0 0) 0 []) (hx : a.eval x = .slice A2 m c2) (hr : Rd w A2 news) (hl : news.length = m * size) (h1 : ∀ u ∈ news, u.oneCell' = true)
    (h63 : m ≤ maxLen) (hbytes : m * bytes ≤ 140737488355328) (hbase : base ≤ w.heap.size)
    (h : ∀ A' c' w', w'.ownsRow base e size (.slice A' m c') m news → Below w.heap.size w w' → wpList P ops Q rest (a.put o.dst (.slice A' m c')) w') : wpList P ops Q (o :: rest) a w :=
  wpList_plain hgd fun _ hK => by
    obtain ⟨A', c', w', hrun, h2, h3⟩ := run_app0 (P := P) (ty := o.type) (c2 := c2) hel hown hr hl h1 h63 hbytes hbase
    unfold Oper.wp execOp
    simp only [ho, resolve, invoke, builtin, Sem.run_bind, Sem.run_pure, Result.andThen_ok, List.map_toArray, List.map_cons, List.map_nil, hs, hx, hrun]
    exact hK _ _ (h A' c' w' h2 h3)
/-- rows of two kinds lie apart -/
theorem own_ne {w : World} {b1 b2 : Nat} {e1 e2 : TypeId} {s1 s2 n1 n2 c1 c2 : Nat} {A1 A2 : Option Addr} {xs ys : List Value} (h1 : w.ownsRow b1 e1 s1 (.slice A1 n1 c1) n1 xs) (h2 : w.ownsRow b2 e2 s2 (.slice A2 n2 c2) n2 ys) (he : e1 ≠ e2) : ∀ q, A1 = some ⟨q, 0, none⟩ → A2 ≠ some ⟨q, 0, none⟩ := by
  intro q hq1 hq2
  rcases h1.2 with ⟨hv, _⟩ | ⟨g, cap, cur, hv, _, hh, _⟩
  · injection hv with hv; rw [hq1] at hv; cases hv
  rcases h2.2 with ⟨hv2, _⟩ | ⟨g2, cap2, cur2, hv2, _, hh2, _⟩
  · injection hv2 with hv2; rw [hq2] at hv2; cases hv2
  injection hv with hv
  injection hv2 with hv2
  rw [hq1] at hv
  rw [hq2] at hv2
  injection hv with hv
  injection hv2 with hv2
  injection hv with hv
  injection hv2 with hv2
  subst hv
  subst hv2
  rw [hh] at hh2
  injection hh2 with hh2
  injection hh2 with _ h3 _
  exact he h3
end Go.Proofs.YtefdhlfljpppfaaGreat
namespace Go.Proofs.YtefdhlfljpppfaaGreat
open Go.RowKit
set_option linter.unusedVariables false
set_option linter.unusedSimpArgs false

/-- the operations of the head have come up in part; then those of the tail, in order -/
def LInvS (P : Program) (l : List Oper) (nh : Nat) (a0 : Go.Act) (w0 : World) (F : Nat → Value → World → Prop) (E : World → World → Prop) (R : Array Bool → World → Prop)
    (Q : Exit → Go.Act → World → Prop) (listed : Array Bool) (a : Go.Act) (w : World) : Prop :=
  listed.size = l.length ∧ (∀ i j, listed.getD i false = true → has (clOf l) i j = true → listed.getD j false = true) ∧
  ((∃ i, i < nh ∧ listed.getD i false = false ∧ ∃ vs, Agree l nh a0 listed vs a ∧ (∀ j, j < nh → listed.getD j false = true → F j (vs j) w) ∧ E w0 w ∧ R listed w) ∨
   (∃ k, nh + k ≤ l.length ∧ (∀ i, listed.getD i false = true ↔ i < nh + k) ∧ wpList P l.toArray Q (l.drop (nh + k)) a w))

theorem wp_region_set {P : Program} {id : Nat} {l : List Oper} {Q : Exit → Go.Act → World → Prop} {a0 : Go.Act} {w : World} (hm : P.follows .mixedOrders = true)
    (head : List (Nat × Option Tmp)) (deps : List (List (Nat × Option Tmp))) (hok : okAll l head deps = true)
    (F : Nat → Value → World → Prop) (E : World → World → Prop) (R : Array Bool → World → Prop)
    (hEr : ∀ w, E w w) (hEt : ∀ a b c, E a b → E b c → E a c) (hFE : ∀ i v a b, i < head.length → F i v a → E a b → F i v b)
    (hR0 : R (Array.replicate l.toArray.size false) w.drew)
    (hstep : steps (fun i o => ∀ w' (L : Array Bool), E w.drew w' → L.size = l.length → L.getD i false = false → (∀ i' j, L.getD i' false = true → has (clOf l) i' j = true → L.getD j false = true) → R L w' → tele F w' (fun c => ∀ Q' : Exit → Go.Act → World → Prop, (∀ v a'' w'', a'' = c.put o.dst v → F i v w'' → E w' w'' → R (L.setIfInBounds i true) w'' → Q' .normal a'' w'') → wpList P l.toArray Q' [o] c w') (deps.getD i []) a0) 0 (l.take head.length))
    (hdone : ∀ w' (L : Array Bool), E w.drew w' → (∀ j, j < head.length → L.getD j false = true) → R L w' → tele F w' (fun c => wpList P l.toArray Q (l.drop head.length) c w') head a0) :
    (Code.region id l.toArray true).wp P Q a0 w := by
  simp only [okAll, Bool.and_eq_true, decide_eq_true_eq] at hok
  obtain ⟨⟨⟨⟨⟨⟨⟨⟨hnh, hCl0⟩, hDeps⟩, hLook⟩, hDst⟩, hTail⟩, hSel⟩, hPairs⟩, hHead⟩ := hok
  simp only [okHead, Bool.and_eq_true, beq_iff_eq, List.all_eq_true] at hHead
  obtain ⟨hHead1, hHead2⟩ := hHead
  have pair1 : ∀ i, i < head.length → ∀ p ∈ deps.getD i [], dstOf l p.1 = p.2 := by
    intro i hi p hp
    simp only [okPairs, List.all_eq_true, List.mem_range] at hPairs
    simpa using hPairs i hi p hp
  have fst1 : ∀ i, (fsts deps).getD i [] = (deps.getD i []).map Prod.fst := by
    intro i
    unfold fsts
    rw [List.getD_eq_getElem?_getD, List.getD_eq_getElem?_getD, List.getElem?_map]
    cases deps[i]? <;> rfl
  generalize hnhe : head.length = nh at *
  simp only [okCl, Bool.and_eq_true] at hCl0
  obtain ⟨hBack, hCl⟩ := hCl0
  -- the checks, as facts
  have cl1 : ∀ i j, i < l.length → has (clOf l) i j = true → ∃ o, l[i]? = some o ∧ ∃ e ∈ o.after, Region.binds .any e = true ∧ (e.on = j ∨ has (clOf l) e.on j = true) := by
    intro i j hi hj
    simp only [List.all_eq_true, List.mem_range] at hCl
    have h1 := hCl i hi
    rw [List.getElem?_eq_getElem hi] at h1
    simp only [Option.map_some, Option.getD_some, beq_iff_eq] at h1
    unfold has at hj
    rw [h1] at hj
    rcases clRow_from _ _ hj with h | ⟨e, he, hb, h⟩
    · simp at h
    · exact ⟨l[i], List.getElem?_eq_getElem hi, e, by simpa using he, hb, h⟩
  have back1 : ∀ i (hi : i < l.length), ∀ e ∈ (l[i]).after, Region.binds .any e = true → e.on < i := by
    intro i hi e he hb
    simp only [List.all_eq_true, List.mem_range] at hBack
    have h1 := hBack i hi
    rw [List.getElem?_eq_getElem hi] at h1
    simp only [Option.map_some, Option.getD_some] at h1
    have h2 := Array.all_eq_true_iff_forall_mem.1 h1 e he
    simpa [hb] using h2
  have gd : ∀ (L : Array Bool) j, j < L.size → L.getD j true = L.getD j false := by
    intro L j hj
    rw [Array.getD_eq_getD_getElem?, Array.getD_eq_getD_getElem?]
    simp [hj]
  have dep1 : ∀ i j, i < nh → j ∈ (fsts deps).getD i [] → j < nh ∧ has (clOf l) i j = true := by
    intro i j hi hj
    simp only [okDeps, List.all_eq_true, List.mem_range] at hDeps
    have h1 := hDeps i hi j hj
    simpa using h1
  have look1 : ∀ i o t j, i < nh → l[i]? = some o → t ∈ o.looksAt l.toArray → j < nh → dstOf l j = some t → j ∈ (fsts deps).getD i [] ∨ has (clOf l) j i = true ∨ j = i := by
    intro i o t j hi ho ht hj hd
    simp only [okLook, List.all_eq_true, List.mem_range] at hLook
    have h1 := hLook i hi
    rw [ho] at h1
    simp only [Option.map_some, Option.getD_some, List.all_eq_true, List.mem_range] at h1
    have h2 := h1 t ht j hj
    rw [hd] at h2
    simp at h2
    rcases h2 with (h2 | h2) | h2
    · exact .inl (by simpa using h2)
    · exact .inr (.inl (by simpa using h2))
    · exact .inr (.inr h2)
  have dst1 : ∀ i j t, i < nh → j < nh → dstOf l i = some t → dstOf l j = some t → i = j := by
    intro i j t hi hj h1 h2
    simp only [okDst, List.all_eq_true, List.mem_range] at hDst
    have h3 := hDst i hi j hj
    rw [h1, h2] at h3
    simpa using h3
  have tail1 : ∀ i j, i < l.length → nh ≤ i → j < i → has (clOf l) i j = true := by
    intro i j hi hn hj
    simp only [okTail, List.all_eq_true, List.mem_range] at hTail
    have h1 := hTail i hi
    simp only [Bool.or_eq_true, decide_eq_true_eq, List.all_eq_true, List.mem_range] at h1
    exact (h1.resolve_left (by omega)) j hj
  refine wp_region_any hm (wpAny_inv (I := LInvS P l nh a0 w.drew F E R Q) ?_ ?_ _ _ _ _ ?_ ?_)
  · -- a step
    rintro listed a w' i ⟨hsz, hcl, hI⟩ hr
    obtain ⟨hun, hil⟩ := ready_get hr
    have hil : i < l.length := by simpa using hil
    have ho : l.toArray[i]? = some l[i] := by simp [hil]
    have hol : l[i]? = some l[i] := List.getElem?_eq_getElem hil
    have hall : ∀ j, has (clOf l) i j = true → listed.getD j false = true := by
      intro j hj
      obtain ⟨o, ho', e, he, hb, h2⟩ := cl1 i j hil hj
      rw [hol] at ho'
      injection ho' with ho'
      subst ho'
      have h3 := ready_after hr ho e he hb
      rcases h2 with h2 | h2
      · rwa [h2] at h3
      · exact hcl _ _ h3 h2
    have hcl' : ∀ i' j, (listed.setIfInBounds i true).getD i' false = true → has (clOf l) i' j = true → (listed.setIfInBounds i true).getD j false = true := by
      intro i' j h1 h2
      rw [set_get hun] at h1 ⊢
      rcases h1 with h1 | h1
      · subst h1; exact .inr (hall j h2)
      · exact .inr (hcl _ _ h1 h2)
    have hunl : listed.getD i false = false := by rw [Array.getD_eq_getD_getElem?, hun]; rfl
    rcases hI with ⟨i0, hi0, hi0u, vs, hag, hF, hE, hR⟩ | ⟨k, hk, hlk, hwp⟩
    · have hinh : i < nh := by
        rcases Nat.lt_or_ge i nh with h | h
        · exact h
        · have := hall i0 (tail1 i i0 hil h (by omega))
          rw [hi0u] at this
          cases this
      have hst := steps_get hstep (show (l.take nh)[i]? = some l[i] by rw [List.getElem?_take]; simp [hinh, hil])
      rw [Nat.zero_add] at hst
      have hgo := tele_fill vs _ (pair1 i hinh) _ (hst w' listed hE hsz hunl hcl hR) (fun j hj => by rw [← fst1] at hj; exact hF j (dep1 i j hinh hj).1 (hall j (dep1 i j hinh hj).2))
      replace hgo := hgo (LPost fun a'' w'' => ∃ v, a'' = (fillA l vs a0 ((deps.getD i []).map Prod.fst)).put (l[i]).dst v ∧ F i v w'' ∧ E w' w'' ∧ R (listed.setIfInBounds i true) w'') (fun v a'' w'' h1 h2 h3 h4 => ⟨v, h1, h2, h3, h4⟩)
      rw [← fst1] at hgo
      -- the frames agree on what is looked at
      have hlook : ∀ t ∈ (l[i]).looksAt l.toArray, a.tmps[t]? = (fillA l vs a0 ((fsts deps).getD i [])).tmps[t]? := by
        intro t ht
        by_cases hex : ∃ j ∈ (fsts deps).getD i [], dstOf l j = some t
        · obtain ⟨j, hj, hd⟩ := hex
          obtain ⟨hjn, hjc⟩ := dep1 i j hinh hj
          rw [hag.new t j hjn (by rw [gd _ _ (by omega)]; exact hall j hjc) hd]
          exact (fill_get vs _ _ hj hd (fun j' hj' hd' => dst1 _ _ t (dep1 i j' hinh hj').1 hjn hd' hd)).symm
        · rw [fill_other vs _ _ (fun j hj hd => hex ⟨j, hj, hd⟩)]
          refine hag.old t fun j hj hlj hd => ?_
          rcases look1 i _ t j hinh hol ht hj hd with h | h | h
          · exact hex ⟨j, h, hd⟩
          · have hlj' : listed.getD j false = true := by rw [← gd _ _ (by omega)]; exact hlj
            have := hcl _ _ hlj' h
            rw [hunl] at this
            cases this
          · subst h
            rw [gd _ _ (by omega), hunl] at hlj
            cases hlj
      have hop : ∀ x ∈ (l[i]).op.operands, a.eval x = (fillA l vs a0 ((fsts deps).getD i [])).eval x := fun x hx => eval_of_get fun t e => hlook t (by
        subst e
        exact List.mem_append_left _ (List.mem_filterMap.2 ⟨.tmp t, by simpa using hx, rfl⟩))
      have hwant : Region.wanted l[i] (yielded l.toArray a.tmps) = Region.wanted l[i] (yielded l.toArray (fillA l vs a0 ((fsts deps).getD i [])).tmps) := by
        unfold Region.wanted
        cases hg : (l[i]).guard with
        | none => rfl
        | some gw =>
          obtain ⟨g, want⟩ := gw
          have hy : yielded l.toArray a.tmps g = yielded l.toArray (fillA l vs a0 ((fsts deps).getD i [])).tmps g := by
            unfold yielded
            cases ht : (l.toArray[g]?).bind (·.dst) with
            | none => rfl
            | some t =>
              have := hlook t (by simp only [Oper.looksAt, hg]; exact List.mem_append_right _ (by rw [ht]; simp))
              simp only [Option.bind_some, this]
          simp only [hy]
      -- the new state
      have hnew : ∀ v w'', F i v w'' → E w' w'' → R (listed.setIfInBounds i true) w'' → LInvS P l nh a0 w.drew F E R Q (listed.setIfInBounds i true) (a.put (l[i]).dst v) w'' := by
        intro v w'' hFv hEv hRv
        have hdi : dstOf l i = (l[i]).dst := by simp [dstOf, hol]
        have hag' : Agree l nh a0 (listed.setIfInBounds i true) (fun j => if j = i then v else vs j) (a.put (l[i]).dst v) := by
          refine ⟨(put_size _ _ _).trans hag.size, (put_defers _ _ _).trans hag.defers, fun t ht => ?_, fun t j hj hlj hd => ?_⟩
          · have h1 : (l[i]).dst ≠ some t := by
              rw [← hdi]
              exact ht i hinh (by rw [Array.getD_eq_getD_getElem?]; simp [show i < listed.size by omega])
            have h2 : (a.put (l[i]).dst v).tmps[t]? = a.tmps[t]? := by
              cases hx : (l[i]).dst with
              | none => rfl
              | some d => rw [hx] at h1; simp only [Go.Act.put]; rw [Array.getElem?_setIfInBounds_ne (fun e => h1 (by rw [e]))]
            rw [h2]
            refine hag.old t fun j hj hlj => ht j hj ?_
            rw [Array.getD_eq_getD_getElem?] at hlj ⊢
            by_cases hji : i = j
            · subst hji; simp [show i < listed.size by omega]
            · rw [Array.getElem?_setIfInBounds_ne hji]; exact hlj
          · by_cases hji : j = i
            · subst hji
              rw [hdi] at hd
              rw [hd, put_get, if_pos rfl]
              by_cases hts : t < a.tmps.size
              · have : t < a0.tmps.size := by rw [← hag.size]; exact hts
                simp [hts, this]
              · have h1 : a.tmps.size ≤ t := Nat.not_lt.1 hts
                have h2 : a0.tmps.size ≤ t := by rw [← hag.size]; exact h1
                rw [Array.getElem?_eq_none h1, Array.getElem?_eq_none h2]
            · have h2 : (a.put (l[i]).dst v).tmps[t]? = a.tmps[t]? := by
                cases hx : (l[i]).dst with
                | none => rfl
                | some d =>
                  simp only [Go.Act.put]
                  rw [Array.getElem?_setIfInBounds_ne]
                  intro e
                  subst e
                  exact hji (dst1 j i d hj hinh hd (hdi.trans hx))
              rw [h2, if_neg hji]
              refine hag.new t j hj ?_ hd
              rw [Array.getD_eq_getD_getElem?] at hlj ⊢
              rwa [Array.getElem?_setIfInBounds_ne (fun e => hji e.symm)] at hlj
        have hF' : ∀ j, j < nh → (listed.setIfInBounds i true).getD j false = true → F j (if j = i then v else vs j) w'' := by
          intro j hj hlj
          by_cases hji : j = i
          · subst hji; rw [if_pos rfl]; exact hFv
          · rw [if_neg hji]
            rw [set_get hun] at hlj
            exact hFE j _ _ _ hj (hF j hj (hlj.resolve_left hji)) hEv
        refine ⟨by simpa using hsz, hcl', ?_⟩
        by_cases hex : ∃ j, j < nh ∧ (listed.setIfInBounds i true).getD j false = false
        · obtain ⟨j, hj, hju⟩ := hex
          exact .inl ⟨j, hj, hju, _, hag', hF', hEt _ _ _ hE hEv, hRv⟩
        · have hfull : ∀ j, j < nh → (listed.setIfInBounds i true).getD j false = true := by
            intro j hj
            cases hq : (listed.setIfInBounds i true).getD j false with
            | false => exact absurd ⟨j, hj, hq⟩ hex
            | true => rfl
          refine .inr ⟨0, by omega, fun j => ⟨fun hlj => ?_, fun hj => hfull j (by omega)⟩, ?_⟩
          · rcases Nat.lt_or_ge j nh with h | h
            · omega
            · rw [set_get hun] at hlj
              rcases hlj with hlj | hlj
              · omega
              · have hjl : j < l.length := by
                  rw [Array.getD_eq_getD_getElem?] at hlj
                  cases hq : listed[j]? with
                  | none => rw [hq] at hlj; cases hlj
                  | some b => have := (Array.getElem?_eq_some_iff.1 hq).1; omega
                have := hcl j i0 hlj (tail1 j i0 hjl h (by omega))
                rw [hi0u] at this
                cases this
          · have hfin := tele_fill (fun j => if j = i then v else vs j) _ (by simpa using hHead2) _ (hdone w'' _ (hEt _ _ _ hE hEv) hfull hRv) (fun j hj => by rw [hHead1] at hj; exact hF' j (List.mem_range.1 hj) (hfull j (List.mem_range.1 hj)))
            rw [hHead1] at hfin
            have hact : a.put (l[i]).dst v = fillA l (fun j => if j = i then v else vs j) a0 (List.range nh) := by
              have h1 : (a.put (l[i]).dst v).defers = (fillA l (fun j => if j = i then v else vs j) a0 (List.range nh)).defers := hag'.defers.trans (fill_defers _ _ _).symm
              have h2 : (a.put (l[i]).dst v).tmps = (fillA l (fun j => if j = i then v else vs j) a0 (List.range nh)).tmps := by
                refine Array.ext_getElem? fun t => ?_
                by_cases hex : ∃ j, j < nh ∧ dstOf l j = some t
                · obtain ⟨j, hj, hd⟩ := hex
                  rw [hag'.new t j hj (by rw [gd _ _ (by simp; omega)]; exact hfull j hj) hd]
                  exact (fill_get (fun j => if j = i then v else vs j) _ _ (List.mem_range.2 hj) hd (fun j' hj' hd' => dst1 _ _ t (List.mem_range.1 hj') hj hd' hd)).symm
                · rw [fill_other _ _ _ (fun j hj hd => hex ⟨j, List.mem_range.1 hj, hd⟩)]
                  exact hag'.old t fun j hj _ hd => hex ⟨j, hj, hd⟩
              cases hA : a.put (l[i]).dst v
              cases hB : fillA l (fun j => if j = i then v else vs j) a0 (List.range nh)
              rw [hA, hB] at h1 h2
              simp only [] at h1 h2
              rw [h1, h2]
            rw [hact]
            exact hfin
      -- the operation itself
      unfold wpOp
      rw [ho]
      simp only []
      unfold wpList at hgo
      rw [← hwant] at hgo
      split
      · rename_i hw
        rw [if_pos hw] at hgo
        rcases hgo with hgo | ⟨_, x, y, hgo⟩
        · refine .inl (Oper.wp_mono ?_ (wp_move (G := fun v w'' => F i v w'' ∧ E w' w'' ∧ R (listed.setIfInBounds i true) w'') (Region.noSelect_spec hSel i l[i] · · ho) ?_ hop ?_))
          · rintro a'' w'' ⟨v, rfl, h1, h2, h3⟩
            exact hnew v w'' h1 h2 h3
          · rw [fill_size, hag.size]
          · exact hgo
        · exact absurd hgo (by simp [LPost])
      · rename_i hw
        rw [if_neg hw] at hgo
        obtain ⟨v, h0, h1, h2, h3⟩ : ∃ v, _ = (fillA l vs a0 ((fsts deps).getD i [])).put (l[i]).dst v ∧ F i v w' ∧ E w' w' ∧ R _ w' := hgo
        have := put_same (a := a) (by rw [fill_size, hag.size]) h0
        rw [this]
        exact hnew v w' h1 h2 h3
    · have hin : i = nh + k := by
        have h1 : ¬ i < nh + k := fun h => by have := (hlk i).2 h; rw [hunl] at this; cases this
        rcases Nat.lt_or_ge (nh + k) i with h | h
        · have := (hlk (nh + k)).1 (hall (nh + k) (tail1 i (nh + k) hil (by omega) h))
          omega
        · omega
      subst hin
      have hdrop : l.drop (nh + k) = l[nh + k] :: l.drop (nh + k + 1) := List.drop_eq_getElem_cons hil
      rw [hdrop] at hwp
      unfold wpList at hwp
      have hgoal : ∀ a' w'', wpList P l.toArray Q (l.drop (nh + k + 1)) a' w'' → LInvS P l nh a0 w.drew F E R Q (listed.setIfInBounds (nh + k) true) a' w'' := by
        intro a' w'' h
        refine ⟨by simpa using hsz, hcl', .inr ⟨k + 1, by omega, fun j => ?_, h⟩⟩
        rw [set_get hun, hlk]
        omega
      unfold wpOp
      rw [ho]
      simp only []
      split
      · rename_i hw
        rw [if_pos hw] at hwp
        exact hwp.imp (Oper.wp_mono hgoal) (fun h => h)
      · rename_i hw
        rw [if_neg hw] at hwp
        exact hgoal _ _ hwp
  · -- the end
    rintro listed a w' ⟨hsz, hcl, hI⟩ hr
    have hno : ∀ i, i < l.length → listed.getD i false = false → (∀ j, j < i → listed.getD j false = true) → False := by
      intro i hi hu hj
      have : i ∈ Region.ready .any l.toArray listed := by
        rw [mem_ready]
        refine ⟨by rw [Array.getD_eq_getD_getElem?] at hu ⊢; simp [show i < listed.size by omega] at hu ⊢; exact hu, l[i], by simp [hi], fun e he hb => hj _ (back1 i hi e he hb)⟩
      rw [hr] at this
      cases this
    have hmin : ∀ n, n ≤ l.length → (∀ j, j < n → listed.getD j false = true) := by
      intro n
      induction n with
      | zero => intro _ j hj; omega
      | succ n ih =>
        intro hn j hj
        have h1 := ih (by omega)
        by_cases hjn : j = n
        · subst hjn
          cases hq : listed.getD j false with
          | true => rfl
          | false => exact (hno j (by omega) hq h1).elim
        · exact h1 j (by omega)
    rcases hI with ⟨i0, hi0, hi0u, _⟩ | ⟨k, hk, hlk, hwp⟩
    · have := hmin l.length (Nat.le_refl _) i0 (by omega)
      rw [hi0u] at this
      cases this
    · have : nh + k = l.length := by
        rcases Nat.lt_or_ge (nh + k) l.length with h | h
        · have := (hlk (nh + k)).1 (hmin l.length (Nat.le_refl _) _ h)
          omega
        · omega
      rw [this, List.drop_length] at hwp
      exact hwp
  · have : unl (Array.replicate l.toArray.size false) ≤ (Array.replicate l.toArray.size false).toList.length := List.length_filter_le _ _
    simpa using this
  · have hno : ∀ j, (Array.replicate l.toArray.size false).getD j false = false := by
      intro j
      rw [Array.getD_eq_getD_getElem?, Array.getElem?_replicate]
      split <;> rfl
    refine ⟨by simp, fun i j h _ => (by rw [hno] at h; cases h), ?_⟩
    rcases Nat.eq_zero_or_pos nh with h0 | h0
    · subst h0
      refine .inr ⟨0, by omega, fun i => ⟨fun h => (by rw [hno] at h; cases h), fun h => by omega⟩, ?_⟩
      have : head = [] := List.eq_nil_of_length_eq_zero hnhe
      subst this
      exact hdone _ _ (hEr _) (fun j hj => by simp at hj) hR0
    · refine .inl ⟨0, h0, hno 0, fun _ => undef, ⟨rfl, rfl, fun _ _ => rfl, fun t j hj h => ?_⟩, fun j hj h => (by rw [hno] at h; cases h), hEr _, ?_⟩
      · rw [gd _ _ (by simp; omega), hno] at h
        cases h
      · exact hR0
theorem steps_imp {p q : Nat → Oper → Prop} {l : List Oper} : ∀ {k : Nat}, steps p k l → (∀ i o, k ≤ i → p i o → q i o) → steps q k l := by
  induction l with
  | nil => intro k _ _; trivial
  | cons x l ih => exact fun h hi => ⟨hi _ _ (Nat.le_refl _) h.1, ih h.2 fun i o hk => hi i o (by omega)⟩
theorem tele_imp {F : Nat → Value → World → Prop} {w : World} (ps : List (Nat × Option Tmp)) : ∀ (b1 b2 : Go.Act → Prop), (∀ c, b1 c → b2 c) → ∀ c, tele F w b1 ps c → tele F w b2 ps c := by
  induction ps with
  | nil => exact fun b1 b2 h c => h c
  | cons p ps ih => exact fun b1 b2 h c hc v hv => ih b1 b2 h _ (hc v hv)

/-- one operation writes: the operations of `bef` come up before it -/
theorem wp_region_one {P : Program} {id : Nat} {l : List Oper} {Q : Exit → Go.Act → World → Prop} {a0 : Go.Act} {w : World} (hm : P.follows .mixedOrders = true)
    (head : List (Nat × Option Tmp)) (deps : List (List (Nat × Option Tmp))) (hok : okAll l head deps = true) (s : Nat) (bef : List Nat) (hbef : (decide (s < head.length) && bef.all fun j => has (clOf l) s j) = true)
    (F : Nat → Value → World → Prop) (E : World → World → Prop) (R : Bool → World → Prop)
    (hEr : ∀ w, E w w) (hEt : ∀ a b c, E a b → E b c → E a c) (hFE : ∀ i v a b, i < head.length → F i v a → E a b → F i v b)
    (hR0 : R false w.drew)
    (hstep : steps (fun i o => ∀ w' b, E w.drew w' → (i = s ∨ i ∈ bef → b = false) → R b w' → tele F w' (fun c => ∀ Q' : Exit → Go.Act → World → Prop, (∀ v a'' w'', a'' = c.put o.dst v → F i v w'' → E w' w'' → R (i == s || b) w'' → Q' .normal a'' w'') → wpList P l.toArray Q' [o] c w') (deps.getD i []) a0) 0 (l.take head.length))
    (hdone : ∀ w', E w.drew w' → R true w' → tele F w' (fun c => wpList P l.toArray Q (l.drop head.length) c w') head a0) :
    (Code.region id l.toArray true).wp P Q a0 w := by
  simp only [Bool.and_eq_true, decide_eq_true_eq, List.all_eq_true] at hbef
  obtain ⟨hs, hbef⟩ := hbef
  have hnh : head.length ≤ l.length := by
    simp only [okAll, Bool.and_eq_true, decide_eq_true_eq] at hok
    exact hok.1.1.1.1.1.1.1.1
  refine wp_region_set hm head deps hok F E (fun L w => R (L.getD s false) w) hEr hEt hFE ?_ ?_ ?_
  · have : (Array.replicate l.toArray.size false).getD s false = false := by
      rw [Array.getD_eq_getD_getElem?, Array.getElem?_replicate]
      split <;> rfl
    rw [this]
    exact hR0
  · refine steps_imp hstep fun i o hi h w' L hE hsz hun hcl hR => ?_
    have hb : i = s ∨ i ∈ bef → L.getD s false = false := by
      rintro (h | h)
      · rw [← h]; exact hun
      · cases hq : L.getD s false with
        | false => rfl
        | true =>
          have := hcl s i hq (hbef i h)
          rw [hun] at this
          cases this
    have h2 := h w' (L.getD s false) hE hb hR
    have hset : (L.setIfInBounds i true).getD s false = (i == s || L.getD s false) := by
      by_cases his : i = s
      · subst his
        rw [Array.getD_eq_getD_getElem?]
        simp [show i < L.size by omega]
      · rw [getD_set_ne false his]
        simp [his]
    refine tele_imp (deps.getD i []) _ _ (fun c hc Q' hQ' => hc Q' fun v a'' w'' h1 h3 h4 h5 => hQ' v a'' w'' h1 h3 h4 ?_) _ h2
    show R ((L.setIfInBounds i true).getD s false) w''
    rw [hset]
    exact h5
  · intro w' L hE hall hR
    rw [hall s hs] at hR
    exact hdone w' hE hR
/-- facts of the value alone -/
def StV (f : Value → World → Prop) : Prop := ∀ v a b, f v a → f v b
def pV (p : Value → Prop) (v : Value) (_ : World) : Prop := p v
def StVL : List (Value → World → Prop) → Prop
  | [] => True
  | f :: l => StV f ∧ StVL l
theorem stvl_get : ∀ {l : List (Value → World → Prop)}, StVL l → ∀ i, StV (l.getD i fun _ _ => True)
  | [], _, i => fun _ _ _ _ => trivial
  | f :: l, h, 0 => h.1
  | f :: l, h, i + 1 => by simpa using stvl_get h.2 i
theorem locV_st {fs : List (Value → World → Prop)} {E : World → World → Prop} (h : StVL fs) (n : Nat) (i : Nat) (v : Value) (a b : World) (_ : i < n) (hf : locB fs i v a) (_ : E a b) : locB fs i v b := stvl_get h i v a b hf
end Go.Proofs.YtefdhlfljpppfaaGreat
namespace Go.Proofs.YtefdhlfljpppfaaGreat
open Go.RowKit
set_option linter.unusedVariables false
set_option linter.unusedSimpArgs false

def wayT (t : Tr) : Nat → Int → List Int
  | 0, _ => []
  | f + 1, n => if inB n 0 ((t.blocks.length : Int) - 1) = true then wayT t f (pAt t n.toNat) ++ [n] else []
/-- the numbers of the blocks on the way to a block -/
def pathT (t : Tr) (n : Int) : List Int := wayT t 15 n
theorem pAt_lt {t : Tr} (h : treeB t = true) {k : Nat} (hk : k < t.blocks.length) : -1 ≤ pAt t k ∧ pAt t k < k := by
  obtain ⟨_, _, _, _, _, h0, _, h1⟩ := treeB_yes h
  rcases Nat.eq_zero_or_pos k with hz | hz
  · subst hz; omega
  · have := h1 k hz hk
    rw [nodeOk, Bool.and_eq_true] at this
    have := inB_true.1 this.1
    omega
theorem wayT_out (t : Tr) (f : Nat) {n : Int} (h : ¬ (0 ≤ n ∧ n < t.blocks.length)) : wayT t f n = [] := by
  cases f with
  | zero => rfl
  | succ f =>
    rw [wayT, if_neg]
    intro hi
    have := inB_true.1 hi
    omega
theorem wayT_fuel {t : Tr} (h : treeB t = true) : ∀ (f g : Nat) (n : Int), n < f → n < g → wayT t f n = wayT t g n
  | 0, g, n, h1, _ => by rw [wayT_out t 0 (by omega), wayT_out t g (by omega)]
  | f, 0, n, _, h2 => by rw [wayT_out t 0 (by omega), wayT_out t f (by omega)]
  | f + 1, g + 1, n, h1, h2 => by
    by_cases hr : 0 ≤ n ∧ n < t.blocks.length
    · have hi : inB n 0 ((t.blocks.length : Int) - 1) = true := inB_true.2 (by omega)
      have hp := pAt_lt h (k := n.toNat) (by omega)
      rw [wayT, wayT, if_pos hi, if_pos hi, wayT_fuel h f g _ (by omega) (by omega)]
    · rw [wayT_out t _ hr, wayT_out t _ hr]
theorem pathT_out (t : Tr) {n : Int} (h : ¬ (0 ≤ n ∧ n < t.blocks.length)) : pathT t n = [] := wayT_out t 15 h
theorem pathT_step {t : Tr} (h : treeB t = true) {n : Int} (h0 : 0 ≤ n) (h1 : n < t.blocks.length) : pathT t n = pathT t (pAt t n.toNat) ++ [n] := by
  obtain ⟨_, _, hl, _⟩ := treeB_yes h
  have hi : inB n 0 ((t.blocks.length : Int) - 1) = true := inB_true.2 (by omega)
  have hp := pAt_lt h (k := n.toNat) (by omega)
  unfold pathT
  rw [wayT, if_pos hi, wayT_fuel h 14 15 _ (by omega) (by omega)]
theorem wayT_len (t : Tr) : ∀ (f : Nat) (n : Int), (wayT t f n).length ≤ f
  | 0, _ => Nat.le_refl _
  | f + 1, n => by
    rw [wayT]
    split
    · have := wayT_len t f (pAt t n.toNat)
      simp
      omega
    · simp
theorem pathT_len (t : Tr) (n : Int) : (pathT t n).length ≤ 15 := wayT_len t 15 n
theorem wayT_mem {t : Tr} : ∀ (f : Nat) (n x : Int), x ∈ wayT t f n → 0 ≤ x ∧ x < t.blocks.length
  | 0, _, _, h => by cases h
  | f + 1, n, x, h => by
    rw [wayT] at h
    split at h
    · rename_i hi
      have := inB_true.1 hi
      rcases List.mem_append.1 h with h | h
      · exact wayT_mem f _ _ h
      · rw [List.mem_singleton] at h; subst h; omega
    · cases h
theorem pathT_mem {t : Tr} {n x : Int} (h : x ∈ pathT t n) : 0 ≤ x ∧ x < t.blocks.length := wayT_mem 15 n x h
theorem rev_ext {xs ys : List Int} (hl : ys.length = xs.length) (h : ∀ k (h1 : k < ys.length), ys[k] = xs[xs.length - 1 - k]'(by omega)) : ys = xs.reverse := by
  refine List.ext_getElem (by simpa using hl) fun k h1 h2 => ?_
  rw [h k h1, List.getElem_reverse]
/-- is half of a list the other way round? -/
def HalfRev (xs ys : List Int) (i : Nat) : Prop := ys.length = xs.length ∧ ∀ k, k < xs.length → ys.getD k 0 = if k < i ∨ xs.length - 1 - k < i then xs.getD (xs.length - 1 - k) 0 else xs.getD k 0
theorem halfRev_zero (xs : List Int) : HalfRev xs xs 0 := ⟨rfl, fun k hk => by simp⟩
theorem halfRev_step {xs ys : List Int} {i j : Nat} (h : HalfRev xs ys i) (hj : i + j + 1 = xs.length) (hij : i < j) : HalfRev xs ((ys.set i (ys.getD j 0)).set j (ys.getD i 0)) (i + 1) := by
  refine ⟨by simpa using h.1, fun k hk => ?_⟩
  have h1 := h.2 k hk
  have hi := h.2 i (by omega)
  have hj2 := h.2 j (by omega)
  have hl := h.1
  rw [if_neg (by omega)] at hi hj2
  by_cases hkj : k = j
  · subst hkj
    rw [if_pos (by omega)]
    simp only [List.getD_eq_getElem?_getD, List.getElem?_set] at *
    rw [show xs.length - 1 - k = i by omega]
    simp [show k < ys.length by omega]
    exact hi
  · by_cases hki : k = i
    · subst hki
      rw [if_pos (by omega)]
      simp only [List.getD_eq_getElem?_getD, List.getElem?_set] at *
      rw [show xs.length - 1 - k = j by omega]
      simp [show ¬ j = k by omega, show k < ys.length by omega]
      exact hj2
    · have : ((ys.set i (ys.getD j 0)).set j (ys.getD i 0)).getD k 0 = ys.getD k 0 := by
        simp only [List.getD_eq_getElem?_getD, List.getElem?_set, if_neg (Ne.symm hkj), if_neg (Ne.symm hki)]
      rw [this, h1]
      by_cases hc : k < i ∨ xs.length - 1 - k < i
      · rw [if_pos hc, if_pos (by omega)]
      · rw [if_neg hc, if_neg (by omega)]
theorem halfRev_done {xs ys : List Int} {i : Nat} (h : HalfRev xs ys i) (hi : xs.length ≤ 2 * i + 1) : ys = xs.reverse := by
  refine rev_ext h.1 fun k hk => ?_
  have h1 := h.2 k (by have := h.1; omega)
  have hl := h.1
  have e1 : ys.getD k 0 = ys[k] := by simp [List.getD_eq_getElem?_getD, hk]
  have e2 : xs.getD (xs.length - 1 - k) 0 = xs[xs.length - 1 - k]'(by omega) := by
    rw [List.getD_eq_getElem?_getD, List.getElem?_eq_getElem (by omega), Option.getD_some]
  rw [← e1, h1, ← e2]
  by_cases hc : k < i ∨ xs.length - 1 - k < i
  · rw [if_pos hc]
  · rw [if_neg hc]
    congr 1
    omega
set_option maxRecDepth 100000 in
set_option maxHeartbeats 4000000 in
theorem reverse_any (A : Option Addr) (c : Nat) (xs : List Int) (base : Nat) (w : World) (h : w.ownsRow base 3 1 (.slice A xs.length c) xs.length (xs.map (.int .i64))) (hb : xs.length ≤ 1000) :
    Calls Tryz.prog 97 #[.slice A xs.length c] w fun e w' => e = .returned (.tuple #[]) ∧ w'.ownsRow base 3 1 (.slice A xs.length c) xs.length (xs.reverse.map (.int .i64)) ∧ Chg (fun q => A = some ⟨q, 0, none⟩) w w' := by
  go_enter Tryz.func97, Tryz.ntmps97
  go_wp2
  go_loopw [2, 3] (fun i j wr => ∃ (k : Nat) (ys : List Int), k ≤ xs.length ∧ i = .int .i64 k ∧ j = .int .i64 ((xs.length : Int) - 1 - k) ∧ Hid (HalfRev xs ys k) ∧ wr.ownsRow base 3 1 (.slice A xs.length c) xs.length (ys.map (.int .i64)) ∧ Chg (fun q => A = some ⟨q, 0, none⟩) w wr) (fun i _ _ => xs.length - (intOf i).toNat)
  case atStart => exact ⟨0, xs, Nat.zero_le _, rfl, by go_num, hide (halfRev_zero xs), h, Chg.refl _ _⟩
  case round =>
    obtain ⟨k, ys, hk, rfl, rfl, HH, hown, hch⟩ := hrel
    by_cases hlt : 2 * k + 1 < xs.length
    · obtain ⟨j, hj⟩ : ∃ j : Nat, k + j + 1 = xs.length := ⟨xs.length - 1 - k, by omega⟩
      have hkj : k < j := by omega
      have hjn : (xs.length : Int) - 1 - (k : Int) = (j : Int) := by omega
      rw [hjn]
      have hyl : ys.length = xs.length := (unhide HH).1
      have HX := hide (halfRev_step (unhide HH) hj hkj)
      have HC := hide (fun (w' : World) (g : Nat) (ho : w'.ownsRow base 3 1 (.slice (some ⟨g, 0, none⟩) xs.length c) xs.length (ys.map (.int .i64))) => (⟨by rw [own_cell ho k (by simp; omega)]; simp [List.getD_eq_getElem?_getD, show k < ys.length by omega], by rw [own_cell ho j (by simp; omega)]; simp [List.getD_eq_getElem?_getD, show j < ys.length by omega]⟩ : w'.cell? ⟨g, k, none⟩ = some (.int .i64 (ys.getD k 0)) ∧ w'.cell? ⟨g, j, none⟩ = some (.int .i64 (ys.getD j 0))))
      have HJ := hide hj
      have i1 : (k : Int) < (xs.length : Int) := by omega
      have i2 : (j : Int) < (xs.length : Int) := by omega
      have i3 : (k : Int) < (j : Int) := by omega
      have i4 : j < xs.length := by omega
      have i5 : k < xs.length := by omega
      obtain ⟨g, rfl⟩ : ∃ g, A = some ⟨g, 0, none⟩ := by
        obtain ⟨g, off, e, _⟩ := own_rd hown (by simp; omega)
        rcases hown.2 with ⟨hv, hn⟩ | ⟨g', cap, cur, hv, _⟩
        · rw [e] at hv; cases hv
        · injection hv with hv
          exact ⟨g', hv⟩
      have HYL := hide hyl
      generalize ys.getD k 0 = yk at *
      generalize ys.getD j 0 = yj at *
      clear hj hyl hjn hlt
      go_wp2
      have hF : StVL [bV (.slice (some ⟨g, 0, none⟩) xs.length c), bV (.int .i64 (k : Int)), bV (.slice (some ⟨g, 0, none⟩) xs.length c), bV (.int .i64 (j : Int)), bV (.slice (some ⟨g, 0, none⟩) xs.length c), bV (.int .i64 (j : Int)), bV (.pointer (some ⟨g, j, none⟩)), bV (.int .i64 yj), bV (.slice (some ⟨g, 0, none⟩) xs.length c), bV (.int .i64 (k : Int)), bV (.pointer (some ⟨g, k, none⟩)), bV (.int .i64 yk), bV (.pointer (some ⟨g, k, none⟩)), fun _ _ => True] := ⟨fun _ _ _ h => h, fun _ _ _ h => h, fun _ _ _ h => h, fun _ _ _ h => h, fun _ _ _ h => h, fun _ _ _ h => h, fun _ _ _ h => h, fun _ _ _ h => h, fun _ _ _ h => h, fun _ _ _ h => h, fun _ _ _ h => h, fun _ _ _ h => h, fun _ _ _ h => h, fun _ _ _ h => h, trivial⟩
      go_upto_region 3 with fail
      refine wp_region_one (by kernel_rfl) [(0, some 14), (1, some 15), (2, some 16), (3, some 17), (4, some 18), (5, some 19), (6, some 20), (7, some 21), (8, some 22), (9, some 23), (10, some 24), (11, some 25), (12, some 26), (13, none)] [[], [], [], [], [], [], [(4, some 18), (5, some 19)], [(6, some 20)], [], [], [(8, some 22), (9, some 23)], [(10, some 24)], [(0, some 14), (1, some 15)], [(7, some 21), (12, some 26)]] (by kernel_rfl) 13 [7, 11] (by kernel_rfl)
        (locB [bV (.slice (some ⟨g, 0, none⟩) xs.length c), bV (.int .i64 (k : Int)), bV (.slice (some ⟨g, 0, none⟩) xs.length c), bV (.int .i64 (j : Int)), bV (.slice (some ⟨g, 0, none⟩) xs.length c), bV (.int .i64 (j : Int)), bV (.pointer (some ⟨g, j, none⟩)), bV (.int .i64 yj), bV (.slice (some ⟨g, 0, none⟩) xs.length c), bV (.int .i64 (k : Int)), bV (.pointer (some ⟨g, k, none⟩)), bV (.int .i64 yk), bV (.pointer (some ⟨g, k, none⟩)), fun _ _ => True]) (fun a b => Chg (fun q => q = g) a b) (fun b w => w.ownsRow base 3 1 (.slice (some ⟨g, 0, none⟩) xs.length c) xs.length ((if b = true then ys.set k yj else ys).map (.int .i64))) (fun _ => Chg.refl _ _) (fun _ _ _ h1 h2 => h1.trans h2) (locV_st hF _) hown ?_ ?_
      · refine steps_cons ?s0 ( steps_cons ?s1 ( steps_cons ?s2 ( steps_cons ?s3 ( steps_cons ?s4 ( steps_cons ?s5 ( steps_cons ?s6 ( steps_cons ?s7 ( steps_cons ?s8 ( steps_cons ?s9 ( steps_cons ?s10 ( steps_cons ?s11 ( steps_cons ?s12 ( steps_cons ?s13 steps_nil)))))))))))))
        case s0 =>
          intro w' b hE hbx hR
          clear hbx
          intro Q hQ
          go_wp2
          exact hQ _ _ _ rfl rfl (Chg.refl _ _) hR
        case s1 =>
          intro w' b hE hbx hR
          clear hbx
          intro Q hQ
          go_wp2
          exact hQ _ _ _ rfl rfl (Chg.refl _ _) hR
        case s2 =>
          intro w' b hE hbx hR
          clear hbx
          intro Q hQ
          go_wp2
          exact hQ _ _ _ rfl rfl (Chg.refl _ _) hR
        case s3 =>
          intro w' b hE hbx hR
          clear hbx
          intro Q hQ
          go_wp2
          exact hQ _ _ _ rfl rfl (Chg.refl _ _) hR
        case s4 =>
          intro w' b hE hbx hR
          clear hbx
          intro Q hQ
          go_wp2
          exact hQ _ _ _ rfl rfl (Chg.refl _ _) hR
        case s5 =>
          intro w' b hE hbx hR
          clear hbx
          intro Q hQ
          go_wp2
          exact hQ _ _ _ rfl rfl (Chg.refl _ _) hR
        case s6 =>
          intro w' b hE hbx hR
          clear hbx
          rintro _ rfl _ rfl Q hQ
          go_wp2
          exact hQ _ _ _ rfl rfl (Chg.refl _ _) hR
        case s7 =>
          intro w' b hE hb hR
          obtain rfl := hb (by simp)
          rintro _ rfl Q hQ
          obtain ⟨z1, z2⟩ := unhide HC w' g hR
          go_wp2
          exact hQ _ _ _ rfl rfl (Chg.refl _ _) hR
        case s8 =>
          intro w' b hE hbx hR
          clear hbx
          intro Q hQ
          go_wp2
          exact hQ _ _ _ rfl rfl (Chg.refl _ _) hR
        case s9 =>
          intro w' b hE hbx hR
          clear hbx
          intro Q hQ
          go_wp2
          exact hQ _ _ _ rfl rfl (Chg.refl _ _) hR
        case s10 =>
          intro w' b hE hbx hR
          clear hbx
          rintro _ rfl _ rfl Q hQ
          go_wp2
          exact hQ _ _ _ rfl rfl (Chg.refl _ _) hR
        case s11 =>
          intro w' b hE hb hR
          obtain rfl := hb (by simp)
          rintro _ rfl Q hQ
          obtain ⟨z1, z2⟩ := unhide HC w' g hR
          go_wp2
          exact hQ _ _ _ rfl rfl (Chg.refl _ _) hR
        case s12 =>
          intro w' b hE hbx hR
          clear hbx
          rintro _ rfl _ rfl Q hQ
          go_wp2
          exact hQ _ _ _ rfl rfl (Chg.refl _ _) hR
        case s13 =>
          intro w' b hE hb hR
          obtain rfl := hb (by simp)
          rintro _ rfl _ rfl Q hQ
          obtain ⟨z1, z2⟩ := unhide HC w' g hR
          have z3 := own_frozen hR k
          go_wp2
          refine hQ undef _ _ rfl trivial (Chg.setCell (S := fun q => q = g) (p := ⟨g, k, none⟩) (Chg.refl (fun q => q = g) w') (.inl rfl) _) ?_
          show World.ownsRow _ _ _ _ _ _ (List.map _ (ys.set k yj))
          rw [List.map_set]
          exact own_set hR k _
      intro w9 hE hR
      change w9.ownsRow _ _ _ _ _ (List.map _ (ys.set k yj)) at hR
      rintro v0 - v1 - v2 hv2 v3 hv3 v4 - v5 - v6 - v7 - v8 - v9 - v10 - v11 hv11 v12 - v13 -
      obtain rfl : v2 = _ := hv2
      obtain rfl : v3 = _ := hv3
      obtain rfl : v11 = _ := hv11
      have z2 := own_cell hR j (by rw [List.length_map, List.length_set, unhide HYL]; exact i4)
      have z3 := own_frozen hR j
      change wpList _ _ _ [_, _] _ _
      simp only [Act.put, List.setIfInBounds_toArray, List.set_cons_succ, List.set_cons_zero]
      go_wp2
      go_roundw
      case rel =>
        have hj := unhide HJ
        refine ⟨k + 1, _, by omega, by go_num, by go_num, HX, ?_, ?_⟩
        · rw [List.map_set]
          exact own_set hR j _
        · exact hch.trans ((Chg.setCell (S := fun q => q = g) (p := ⟨g, j, none⟩) (chg_undrew hE) (.inl rfl) _).mono (fun q _ hq => by rw [hq]))
      case measure => simp [intOf]; omega
    · have HE := hide (halfRev_done (unhide HH) (by omega))
      have i3 : ¬ (k : Int) < (xs.length : Int) - 1 - (k : Int) := by omega
      rw [unhide HE] at hown
      go_wp2
      go_end0
      exact ⟨rfl, by simpa [List.map_reverse] using hown, hch⟩
theorem pAt_cell {w : World} {t : Tr} {A3 : Option Addr} (h : Rd w A3 (t.before.map (Value.int .i64))) {k : Nat} (hk : k < t.before.length) :
    ∃ b off, A3 = some ⟨b, off, none⟩ ∧ b < w.heap.size ∧ w.cell? ⟨b, off + k, none⟩ = some (.int .i64 (pAt t k)) := by
  rw [pAt_get t hk]
  exact h.int hk
set_option maxRecDepth 100000 in
set_option maxHeartbeats 4000000 in
theorem path_impl (t : Tr) (A1 : Option Addr) (c1 : Nat) (A2 : Option Addr) (c2 : Nat) (A3 : Option Addr) (c3 : Nat) (n : Int) (w : World) (h : TrR w t A1 A2 A3) (hv : treeB t = true) (hn0 : -1 ≤ n) (hn1 : n < t.blocks.length) :
    Calls Tryz.prog 64 #[.agg (trA t A1 c1 A2 c2 A3 c3), .int .i64 n] w fun e w' => ∃ A' c', e = .returned (.slice A' (pathT t n).length c') ∧ w'.ownsRow w.heap.size 3 1 (.slice A' (pathT t n).length c') (pathT t n).length ((pathT t n).map (.int .i64)) ∧ Below w.heap.size w w' := by
  obtain ⟨-, -, hl14, hln, -⟩ := treeB_yes hv
  have HV := hide hv
  have HLN := hide hln
  clear hv hln
  obtain ⟨W, hW⟩ : ∃ W : World, W = w.alloc (.cells (trA t A1 c1 A2 c2 A3 c3) 27) := ⟨_, rfl⟩
  have hb0 : Below w.heap.size w W := by rw [hW]; exact (Below.refl _ _).alloc (Nat.le_refl _) _
  have K0 : Blk W w.heap.size 27 (trA t A1 c1 A2 c2 A3 c3) := by rw [hW]; exact Blk.new _ _ _
  have r3 := h.b3.new hb0
  have hWs : w.heap.size < W.heap.size := K0.lt
  simp only [trA] at K0 hW ⊢
  have BX := hide (fun w' (hb : Below W.heap.size W w') => show w'.cell? ⟨w.heap.size, 2, none⟩ = some (.slice A3 t.before.length c3) from (K0.new_ hb).cell 2)
  clear h K0
  go_enter Tryz.func64, Tryz.ntmps64
  go_wp2
  rw [← hW]
  go_loopw [1, 5] (fun i s wr => ∃ (m : Int) (A' : Option Addr) (c' : Nat) (ys : List Int), -1 ≤ m ∧ m < t.blocks.length ∧ i = .int .i64 m ∧ s = .slice A' ys.length c' ∧ Hid (ys ++ (pathT t m).reverse = (pathT t n).reverse) ∧ wr.ownsRow W.heap.size 3 1 (.slice A' ys.length c') ys.length (ys.map (.int .i64)) ∧ Below W.heap.size W wr) (fun i _ _ => (intOf i + 1).toNat)
  case atStart => exact ⟨n, none, 0, [], hn0, hn1, rfl, rfl, hide (by simp), own_nil _ _ _ _, Below.refl _ _⟩
  case round =>
    obtain ⟨m, A', c', ys, hm0, hm1, rfl, rfl, HH, hown, hbel⟩ := hrel
    have hbsz := hbel.size
    by_cases hlt : 0 ≤ m
    · obtain ⟨q, rfl⟩ := Int.eq_ofNat_of_zero_le hlt
      have hlp : q < t.before.length := by have := unhide HLN; omega
      have i1' : (q : Int) < (t.before.length : Int) := by omega
      have HP := hide (pAt_lt (unhide HV) (k := q) (by omega))
      have hstep := pathT_step (unhide HV) hlt hm1
      rw [show ((q : Int)).toNat = q by simp] at hstep
      have HX := hide (show ys ++ [(q : Int)] ++ (pathT t (pAt t q)).reverse = (pathT t n).reverse by
        rw [← unhide HH, hstep]
        simp)
      have HYL := hide (show ys.length ≤ 15 by
        have h1 := congrArg List.length (unhide HH)
        have := pathT_len t n
        simp only [List.length_append, List.length_reverse] at h1
        omega)
      have hyl := unhide HYL
      have HC := hide (fun (w' : World) (hb : Below W.heap.size W w') => pAt_cell (r3.new hb) hlp)
      clear hstep
      go_wp2_with (at_builtin; refine wpList_app rfl (.tmp 13) (.tmp 15) 25 rfl el_int rfl (own_alloc hown _) rfl (rd_lit wr [.int .i64 (q : Int)] _) rfl (one_ints [(q : Int)]) (by simp only [maxLen]; omega) (by omega) (by simp; omega) ?_; intro A4 c4 w4 o4 ch4 d4 _; have hbel4 : Below W.heap.size W w4 := app_below hbel hown ch4 (Nat.le_refl _); obtain ⟨bz, oz, hze, hzb, zp⟩ := unhide HC w4 hbel4; have y2 := unhide BX w4 hbel4; rw [hze] at y2; clear hze)
      go_roundw
      case rel =>
        have hp := unhide HP
        refine ⟨_, A4, c4, ys ++ [(q : Int)], hp.1, by omega, rfl, by simp, HX, by simpa using o4, hbel4⟩
      case measure =>
        have hp := unhide HP
        simp [intOf]
        omega
    · have HE := hide (show ys.reverse = pathT t n by
        have h1 := unhide HH
        rw [pathT_out t (n := m) (by omega)] at h1
        simpa using congrArg List.reverse h1)
      have hle : ys.length = (pathT t n).length := by rw [← unhide HE]; simp
      have HYL := hide (show ys.length ≤ 1000 by have := pathT_len t n; omega)
      have HLE := hide hle
      clear hle
      go_wp2_with fail
      refine (reverse_any A' c' ys W.heap.size wr hown (unhide HYL)).mono ?_
      rintro e w3 ⟨rfl, o3, ch3⟩
      rw [unhide HE] at o3
      rw [unhide HLE] at o3 ⊢
      go_wp2
      go_ret
      exact ⟨A', c', rfl, own_base o3 (by omega), bthen hb0 (app_below' hbel hown ch3 (Nat.le_refl _))⟩
theorem has_impl (t : Tr) (A1 : Option Addr) (c1 : Nat) (A2 : Option Addr) (c2 : Nat) (A3 : Option Addr) (c3 : Nat) (n : Int) (w : World) (hb2 : t.blocks.length ≤ 1099511627776) :
    Calls Tryz.prog 37 #[.agg (trA t A1 c1 A2 c2 A3 c3), .int .i64 n] w fun e w' => e = .returned (.bool (inB n 0 ((t.blocks.length : Int) - 1))) ∧ Below w.heap.size w w' := by
  have hb0 : Below w.heap.size w (w.alloc (.cells (trA t A1 c1 A2 c2 A3 c3) 27)) := (Below.refl _ _).alloc (Nat.le_refl _) _
  have y1 : (w.alloc (.cells (trA t A1 c1 A2 c2 A3 c3) 27)).cell? ⟨w.heap.size, 1, none⟩ = some (.slice A2 t.blocks.length c2) := (Blk.new w 27 (trA t A1 c1 A2 c2 A3 c3)).cell 1
  simp only [trA] at hb0 y1 ⊢
  go_enter Tryz.func37, Tryz.ntmps37
  go_wp2_with (go_at_call 66; refine (in_any _ _ _ _).mono ?_; rintro e w' ⟨rfl, rfl⟩)
  go_ret
  exact ⟨rfl, hb0⟩
end Go.Proofs.YtefdhlfljpppfaaGreat
namespace Go.Proofs.YtefdhlfljpppfaaGreat
open Go.RowKit
set_option linter.unusedVariables false
set_option linter.unusedSimpArgs false

/-- the way, nothing for an invalid tree -/
def pathS (t : Tr) (n : Int) : List Int := if treeB t = true then pathT t n else []
theorem pathS_len (t : Tr) (n : Int) : (pathS t n).length ≤ 15 := by
  unfold pathS
  split
  · exact pathT_len t n
  · simp
theorem pathS_mem {t : Tr} {n x : Int} (h : x ∈ pathS t n) : treeB t = true ∧ 0 ≤ x ∧ x < t.blocks.length := by
  unfold pathS at h
  split at h
  · rename_i hv; exact ⟨hv, pathT_mem h⟩
  · cases h
set_option maxRecDepth 100000 in
set_option maxHeartbeats 4000000 in
theorem path_spec (t : Tr) (A1 : Option Addr) (c1 : Nat) (A2 : Option Addr) (c2 : Nat) (A3 : Option Addr) (c3 : Nat) (n : Int) (w : World) (h : TrR w t A1 A2 A3) (hb1 : t.base.length ≤ 1099511627776) (hb2 : t.blocks.length ≤ 1099511627776) (hbs : ∀ x ∈ t.blocks, x.list.length ≤ 1099511627776) (hb3 : t.before.length ≤ 1099511627776) :
    Calls Tryz.prog 77 #[.agg (trA t A1 c1 A2 c2 A3 c3), .int .i64 n] w fun e w' => ∃ A' c', e = .returned (.slice A' (pathS t n).length c') ∧ w'.ownsRow w.heap.size 3 1 (.slice A' (pathS t n).length c') (pathS t n).length ((pathS t n).map (.int .i64)) ∧ Below w.heap.size w w' := by
  have HBS := hide hbs
  clear hbs
  obtain ⟨W, hW⟩ : ∃ W : World, W = w.alloc (.cells (trA t A1 c1 A2 c2 A3 c3) 27) := ⟨_, rfl⟩
  have hb0 : Below w.heap.size w W := by rw [hW]; exact (Below.refl _ _).alloc (Nat.le_refl _) _
  have K0 : Blk W w.heap.size 27 (trA t A1 c1 A2 c2 A3 c3) := by rw [hW]; exact Blk.new _ _ _
  have HR := hide (h.new hb0)
  have hWs : w.heap.size < W.heap.size := K0.lt
  simp only [trA] at K0 hW ⊢
  have BX := hide (fun w' (hb : Below W.heap.size W w') => show w'.cell? ⟨w.heap.size, 0, none⟩ = some (.slice A1 t.base.length c1) ∧ w'.cell? ⟨w.heap.size, 1, none⟩ = some (.slice A2 t.blocks.length c2) ∧ w'.cell? ⟨w.heap.size, 2, none⟩ = some (.slice A3 t.before.length c3) from ⟨(K0.new_ hb).cell 0, (K0.new_ hb).cell 1, (K0.new_ hb).cell 2⟩)
  have HWE := hide (show W.heap.size = w.heap.size + 1 by rw [hW]; simp)
  have o0 := own_made (base := W.heap.size) (e := 3) (size := 1) W #[] 0 (Nat.le_refl _) (by simp [maxLen]) rfl
  have b0 : Below W.heap.size W (W.alloc (.cells #[] 3)) := (Below.refl _ _).alloc (Nat.le_refl _) _
  clear h K0
  go_enter Tryz.func77, Tryz.ntmps77
  go_wp2
  rw [← hW]
  go_loopw [1, 5] (fun i s wr => ∃ (m : Int) (A' : Option Addr) (c' : Nat) (ys : List Int), i = .int .i64 m ∧ s = .slice A' ys.length c' ∧ Hid (treeB t = true → pathT t m ++ ys = pathT t n) ∧ Hid (treeB t = false → ys = []) ∧ wr.ownsRow W.heap.size 3 1 (.slice A' ys.length c') ys.length (ys.map (.int .i64)) ∧ Below W.heap.size W wr) (fun i _ _ => (intOf i + 1).toNat)
  case atStart => exact ⟨n, _, _, [], rfl, rfl, hide (fun _ => by simp), hide (fun _ => rfl), by simpa [unhide HWE] using o0, b0⟩
  case round =>
    clear o0 b0
    obtain ⟨m, A', c', ys, rfl, rfl, HH, HZ, hown, hbel⟩ := hrel
    obtain ⟨z0, z1, z2⟩ := unhide BX wr hbel
    have K := treeValid_spec t A1 c1 A2 c2 A3 c3 wr ((unhide HR).new hbel) hb1 hb2 (unhide HBS) hb3
    simp only [trA] at K
    cases hv : treeB t
    · have HP := hide (show pathS t n = ys by rw [unhide HZ hv]; unfold pathS; rw [if_neg (by simp [hv])])
      rw [hv] at K
      clear hv
      go_wp2_with fail
      refine K.mono ?_
      rintro e w3 ⟨rfl, b3⟩
      have hbel3 := bthen hbel b3
      have o3 := own_new hown b3
      go_wp2
      go_ret
      rw [unhide HP]
      exact ⟨A', c', rfl, own_base o3 (by omega), bthen hb0 hbel3⟩
    have HV := hide hv
    rw [hv] at K
    clear hv
    cases hin : inB m 0 ((t.blocks.length : Int) - 1)
    · have HP := hide (show pathS t n = ys by
        have h1 := unhide HH (unhide HV)
        rw [pathT_out t (n := m) (fun hc => by rw [inB_true.2 (by omega)] at hin; cases hin), List.nil_append] at h1
        unfold pathS
        rw [if_pos (unhide HV), h1])
      go_wp2_with fail
      refine K.mono ?_
      rintro e w3 ⟨rfl, b3⟩
      have hbel3 := bthen hbel b3
      have o3 := own_new hown b3
      obtain ⟨z0, z1, z2⟩ := unhide BX w3 hbel3
      go_wp2_with (go_at_call 41; refine (l1In_any _ _ _ _).mono ?_; rintro e w' ⟨rfl, rfl⟩; rw [hin])
      go_ret
      rw [unhide HP]
      exact ⟨A', c', rfl, own_base o3 (by omega), bthen hb0 hbel3⟩
    have hib := inB_true.1 hin
    obtain ⟨q, rfl⟩ := Int.eq_ofNat_of_zero_le hib.1
    have hlt : q < t.blocks.length := by omega
    have hlp : q < t.before.length := by have := (treeB_yes (unhide HV)).2.2.2.1; omega
    have i1' : (q : Int) < (t.before.length : Int) := by omega
    have HP := hide (pAt_lt (unhide HV) (k := q) hlt)
    have hstep := pathT_step (unhide HV) hib.1 (show (q : Int) < t.blocks.length by omega)
    rw [show ((q : Int)).toNat = q by simp] at hstep
    have HX := hide (fun (_ : True) => show pathT t (pAt t q) ++ ((q : Int) :: ys) = pathT t n by
      rw [← unhide HH (unhide HV), hstep]
      simp)
    have HYL := hide (show ys.length ≤ 15 by
      have h1 := congrArg List.length (unhide HH (unhide HV))
      have := pathT_len t n
      simp only [List.length_append] at h1
      omega)
    have hyl := unhide HYL
    clear hstep hib
    go_wp2_with fail
    refine K.mono ?_
    rintro e w3 ⟨rfl, b3⟩
    have hbel3 := bthen hbel b3
    have o3 := own_new hown b3
    obtain ⟨z0, z1, z2⟩ := unhide BX w3 hbel3
    have hs3 := hbel3.size
    have ol := own_made (base := W.heap.size) (e := 3) (size := 1) w3 #[.int .i64 (q : Int)] 1 hs3 (by simp [maxLen]) rfl
    have bl : Below W.heap.size W (w3.alloc (.cells #[.int .i64 (q : Int)] 3)) := hbel3.alloc hs3 _
    have HC := hide (fun (w' : World) (hb : Below W.heap.size W w') => pAt_cell ((unhide HR).new hb).b3 hlp)
    go_wp2_with (first | (go_at_call 41; refine (l1In_any _ _ _ _).mono ?_; rintro e w' ⟨rfl, rfl⟩; rw [hin]) | (at_builtin; refine wpList_app rfl (.tmp 18) (.tmp 19) 25 rfl el_int rfl ol rfl (own_rd (own_alloc o3 _)) (by simp) (one_ints ys) (by simp only [maxLen]; omega) (by omega) (by simp; omega) ?_; intro A4 c4 w4 o4 ch4 d4 _; have hbel4 : Below W.heap.size W w4 := app_below' bl ol ch4 (Nat.le_refl _); obtain ⟨bz, oz, hze, hzb, zp⟩ := unhide HC w4 hbel4; obtain ⟨y0, y1, y2⟩ := unhide BX w4 hbel4; rw [hze] at y2; clear hze))
    go_roundw
    case rel =>
      have hp := unhide HP
      exact ⟨_, A4, c4, (q : Int) :: ys, rfl, by simp [Nat.add_comm], HX, hide (fun h => by cases h), by simpa [Nat.add_comm] using o4, hbel4⟩
    case measure =>
      have hp := unhide HP
      simp [intOf]
      omega
end Go.Proofs.YtefdhlfljpppfaaGreat
namespace Go.Proofs.YtefdhlfljpppfaaGreat
open Go.RowKit
set_option linter.unusedVariables false
set_option linter.unusedSimpArgs false
attribute [local go_sem ↓] Go.wp_at_zero Go.wp_at_succ

theorem actWrites_sorted (a : Act) : (∃ x, actWrites a = [x]) ∨ ∃ x y, actWrites a = [x, y] ∧ x < y := by
  unfold actWrites
  split
  · exact .inl ⟨_, rfl⟩
  · split
    · exact .inl ⟨_, rfl⟩
    · exact .inr ⟨_, _, rfl, by omega⟩
theorem runV_diffB {v : List Int} {a : Act} (hv : valOk v) (ha : actB a = true) : diffB (runV v a).writes = true := by
  have hb := runV_writes hv ha
  show evOk 0 (-1) _ = true
  cases hdn : actDone a (atV v a.src) (atV v a.dst)
  · rw [runV_no hdn]; rfl
  · rw [runV_yes hdn] at hb ⊢
    rcases actWrites_sorted a with ⟨x, hx⟩ | ⟨x, y, hx, hlt⟩
    · rw [hx] at hb ⊢
      have h1 := hb _ (by simp [List.map_cons]; rfl)
      exact evOk_mk (by have := h1.1.1; simp only at this ⊢; omega) h1.1.2 h1.2.1 h1.2.2 rfl
    · rw [hx] at hb ⊢
      have h1 := hb ⟨x, _⟩ (by simp [List.map_cons]; exact .inl rfl)
      have h2 := hb ⟨y, _⟩ (by simp [List.map_cons]; exact .inr rfl)
      exact evOk_mk (by have := h1.1.1; simp only at this ⊢; omega) h1.1.2 h1.2.1 h1.2.2 (evOk_mk hlt h2.1.2 h2.2.1 h2.2.2 rfl)
set_option maxRecDepth 100000 in
set_option maxHeartbeats 4000000 in
theorem runSerial_own (A : Option Addr) (ca : Nat) (s : List Ent) (B : Option Addr) (cb : Nat) (al : List Act) (w : World) (ha : Rd w A (s.flatMap encE)) (hla : s.length ≤ 4611686018427387904) (hb : Rd w B (al.flatMap encA)) (hlb : al.length ≤ 4611686018427387904) :
    Calls Tryz.prog 78 #[.slice A s.length ca, .slice B al.length cb] w fun e w' => ∃ A1 c1 A2 c2 fp, e = .returned (.tuple #[.slice A1 (serialS s al).length c1, .slice A2 (serialE s al).length c2]) ∧ w'.ownsRow w.heap.size 85 2 (.slice A1 (serialS s al).length c1) (serialS s al).length ((serialS s al).flatMap encE) ∧ OwnD effO 83 3 w' A2 c2 (serialE s al) fp ∧ (∀ k ∈ fp, w.heap.size ≤ k) ∧ Below w.heap.size w w' := by
  have hb0 : Below w.heap.size w (w.alloc (.cells #[] 83)) := (Below.refl _ _).alloc (Nat.le_refl _) _
  have o0 := own_made (base := w.heap.size) (e := 83) (size := 3) w #[] 0 (Nat.le_refl _) (by simp [maxLen]) rfl
  cases hsa : storeB s
  · have HL := hide (show serialS s al = [] by simp [serialS, hsa])
    have HM := hide (show serialE s al = [] by simp [serialE, hsa])
    go_enter Tryz.func78, Tryz.ntmps78
    go_wp2_with fail
    refine (storeB_store_spec A ca s _ (ha.new hb0) hla).mono ?_
    rintro e w1 ⟨rfl, m1, rfl⟩
    rw [hsa]
    have hb1 := below_drewN hb0 m1
    replace o0 := own_drewN o0 m1
    generalize (w.alloc (.cells #[] 83)).drewN m1 = w2 at *
    go_wp2
    go_ret2
    rw [unhide HL, unhide HM]
    exact ⟨_, _, _, _, _, rfl, own_made (base := w.heap.size) w2 #[] 0 hb1.size (by simp [maxLen]) rfl, ⟨[], [], trivial, own_base0 (own_alloc o0 _), rfl, by simp [blk]⟩, by simp [blk], hb1.alloc hb1.size _⟩
  cases hab : actsB al
  · have HL := hide (show serialS s al = [] by simp [serialS, hab])
    have HM := hide (show serialE s al = [] by simp [serialE, hab])
    go_enter Tryz.func78, Tryz.ntmps78
    go_wp2_with fail
    refine (storeB_store_spec A ca s _ (ha.new hb0) hla).mono ?_
    rintro e w1 ⟨rfl, m1, rfl⟩
    rw [hsa]
    have hb1 := below_drewN hb0 m1
    replace o0 := own_drewN o0 m1
    generalize (w.alloc (.cells #[] 83)).drewN m1 = w2 at *
    go_wp2_with fail
    refine (actionsValid_spec B cb al w2 (hb.new hb1) hlb).mono ?_
    rintro e w3 ⟨rfl, b3⟩
    rw [hab]
    replace hb1 := bthen hb1 b3
    replace o0 := own_new o0 b3
    go_wp2
    go_ret2
    rw [unhide HL, unhide HM]
    exact ⟨_, _, _, _, _, rfl, own_made (base := w.heap.size) w3 #[] 0 hb1.size (by simp [maxLen]) rfl, ⟨[], [], trivial, own_base0 (own_alloc o0 _), rfl, by simp [blk]⟩, by simp [blk], hb1.alloc hb1.size _⟩
  have HL := hide (show serialS s al = storeL (runAllV (valsL s) al) by unfold serialS; rw [if_pos ⟨hsa, hab⟩])
  have HM := hide (show serialE s al = runAllE (valsL s) al by unfold serialE; rw [if_pos ⟨hsa, hab⟩])
  have HSA := hide hsa
  have hal := (actsB_yes hab).1
  have HA := hide (acts_all hab)
  have hsl := store_len hsa
  have HV0 := hide (show storeB s = true ∧ valsL s = runAllV (valsL s) [] from ⟨hsa, rfl⟩)
  go_enter Tryz.func78, Tryz.ntmps78
  go_wp2_with fail
  refine (storeB_store_spec A ca s _ (ha.new hb0) hla).mono ?_
  rintro e w1 ⟨rfl, m1, rfl⟩
  rw [hsa]
  have hb1 := below_drewN hb0 m1
  replace o0 := own_drewN o0 m1
  generalize (w.alloc (.cells #[] 83)).drewN m1 = w2 at *
  go_wp2_with fail
  refine (actionsValid_spec B cb al w2 (hb.new hb1) hlb).mono ?_
  rintro e w3 ⟨rfl, b3⟩
  rw [hab]
  replace o0 := own_new o0 b3
  replace hb1 := bthen hb1 b3
  clear hsa hab b3 hb0
  have ha3 := ha.new hb1
  have o2 := own_made (base := w3.heap.size) (e := 85) (size := 2) w3 #[] 0 (Nat.le_refl _) (by simp [maxLen]) rfl
  have hb1s := hb1.size
  go_wp2_with (at_builtin; refine wpList_app rfl (.tmp 21) (.tmp 22) 23 rfl el_ent rfl o2 rfl (ha3.alloc _) (length_flat encE 2 encE_len s) (one_ents s) (by simp only [maxLen]; omega) (by omega) (by simp) ?_; intro A3 c3 w4 o3 ch3 _ _)
  have hb34 : Below w3.heap.size w3 w4 := ((Below.refl _ _).alloc (Nat.le_refl _) _).trans (ch3.below (fun q hq e => by injection e with e; injection e with e; omega) (by simp))
  rw [show (0 : Nat) + s.length = s.length by omega] at o3
  have o4 : w4.ownsRow w.heap.size 85 2 (.slice A3 s.length c3) s.length (s.flatMap encE) := own_base o3 hb1s
  replace o0 := own_new o0 hb34
  have hB4 := bthen hb1 hb34
  clear o3 ch3 o2 ha3 hb34 hb1 hb1s ha
  generalize hv : valsL s = v at *
  have HVV := hide hv
  clear hv
  go_loopw [6, 7, 8, 9] (fun ef cs i _ wr => ∃ (k : Nat) (A' : Option Addr) (c' : Nat) (vs : List (List Value)) (fs : List (List Nat)) (cur : List Ent) (A5 : Option Addr) (c5 : Nat), k ≤ al.length ∧ i = .int .i64 k ∧ ef = .slice A' k c' ∧ cs = .slice A5 cur.length c5 ∧ Hid (storeB cur = true ∧ valsL cur = runAllV v (al.take k)) ∧ AllO effO wr (runAllE v (al.take k)) vs fs ∧ fs.flatten.Nodup ∧ Hid (∀ q ∈ fs.flatten, w.heap.size ≤ q ∧ A' ≠ some ⟨q, 0, none⟩) ∧ wr.ownsRow w.heap.size 83 3 (.slice A' k c') k vs.flatten ∧ wr.ownsRow w.heap.size 85 2 (.slice A5 cur.length c5) cur.length (cur.flatMap encE) ∧ Below w.heap.size w wr) (fun _ _ i _ _ => al.length - (intOf i).toNat)
  case atStart => exact ⟨0, _, 0, [], [], s, A3, c3, Nat.zero_le _, rfl, rfl, rfl, hide ⟨(unhide HV0).1, by rw [unhide HVV]; rfl⟩, trivial, by simp, hide (by simp), o0, o4, hB4⟩
  case round =>
    obtain ⟨k, A', c', vs, fs, cur, A5, c5, hk, rfl, rfl, rfl, HC, hall, hnd, HF, hown, hcur, hB⟩ := hrel
    have hcl := store_len (unhide HC).1
    by_cases hlt : k < al.length
    · obtain ⟨b, off, rfl, hbb, d0, d1, d2, d3⟩ := (hb.new hB).act hlt
      have hact := unhide HA al[k] (List.getElem_mem hlt)
      have HT := hide (List.take_succ_eq_append_getElem hlt)
      have HEB := hide (runV_diffB (valOk_vals (show evOk 1 (-1) cur = true from (unhide HC).1) (by omega)) hact)
      generalize al[k] = a at *
      have HACT := hide hact
      clear hact
      have i1 : (k : Int) < (al.length : Int) := by omega
      go_wp2_with fail
      refine (runAction_spec A5 c5 cur a wr (own_rd hcur) (by omega) (unhide HC).1 (unhide HACT)).mono ?_
      rintro e w3 ⟨A1, c1, A2, c2, rfl, or, ow, hap, b3⟩
      have hrx := own_rd ow
      have HQ := hide (show ∀ q ∈ blk A1 ++ blk A2, wr.heap.size ≤ q ∧ q < w3.heap.size from fun q hq => by
        rcases List.mem_append.1 hq with hq | hq
        · exact (blk_own or hq).2
        · exact (blk_own ow hq).2)
      have HN12 := hide (show (blk A1 ++ blk A2).Nodup by
        rw [List.nodup_append]
        exact ⟨blk_nodup _, blk_nodup _, fun x hx y hy e => hap x (blk_own or hx).1 (e ▸ (blk_own ow hy).1)⟩)
      have HFL := hide (hall.lt effO_good)
      have hx3 : effO (runV (valsL cur) a) w3 (effV (runV (valsL cur) a) A1 c1 A2 c2) (blk A1 ++ blk A2) := ⟨A1, c1, A2, c2, rfl, own_base0 or, own_base0 ow, rfl⟩
      have hall3 := (hall.keep effO_good fun q _ hq => b3.block q hq).append (AllO.one hx3)
      have o3 := own_new hown b3
      have hrg := own_rng hown
      have hcu3 := own_new hcur b3
      have hB3 := bthen hB b3
      have hs3 := b3.size
      have hBs := hB.size
      clear or ow hap hx3 hall hown hcur b3 d0 d1 d2 d3
      have hwl := (runV_len (valsL cur) a).2
      have HSN := hide (runAllV_snoc v (al.take k) a)
      have HSE := hide (runAllE_snoc v (al.take k) a)
      generalize hxe : runV (valsL cur) a = x at *
      have HXE := hide hxe
      clear hxe
      have kx := Blk.new w3 83 #[.bool x.done, .slice A1 x.reads.length c1, .slice A2 x.writes.length c2]
      have hbx : Below w3.heap.size w3 (w3.alloc (.cells #[.bool x.done, .slice A1 x.reads.length c1, .slice A2 x.writes.length c2] 83)) := (Below.refl _ _).alloc (Nat.le_refl _) _
      go_wp2_with fail
      refine (applyEffect_spec A5 c5 cur x A1 c1 A2 c2 _ ((own_rd hcu3).new hbx) (hrx.new hbx) (by omega) (by omega)).mono ?_
      rintro e w5 ⟨A6, c6, rfl, o6, b6⟩
      have hb35 := bthen hbx b6
      have kx5 := kx.new_ b6
      have z0 : w5.cell? ⟨w3.heap.size, 0, none⟩ = some (.bool x.done) := kx5.cell 0
      have z1 : w5.cell? ⟨w3.heap.size, 1, none⟩ = some (.slice A1 x.reads.length c1) := kx5.cell 1
      have z2 : w5.cell? ⟨w3.heap.size, 2, none⟩ = some (.slice A2 x.writes.length c2) := kx5.cell 2
      have hall5 := hall3.keep effO_good fun q _ hq => hb35.block q hq
      have o5 := own_new o3 hb35
      have hB5 := bthen hB3 hb35
      have hr6 := own_rng o6
      have hs5 := hb35.size
      have HST := hide (applyL_storeB (unhide HC).1 (unhide HEB))
      have HVL := hide (show valsL (applyL cur x.writes) = setAll (valsL cur) x.writes by
        unfold applyL
        rw [if_pos ⟨(unhide HC).1, unhide HEB⟩]
        exact (putAll_ok (unhide HC).1 (show evOk 0 (-1) x.writes = true from unhide HEB) (by omega) (by omega)).2)
      generalize applyL cur x.writes = nxt at *
      clear kx kx5 b6 hbx hall3 o3 hcu3 hrx
      go_wp2_with (at_builtin; refine wpList_app rfl (.tmp 39) (.tmp 41) 78 rfl el_eff rfl (own_alloc o5 _) rfl (rd_lit w5 (effV x A1 c1 A2 c2) _) rfl (one_effs x A1 c1 A2 c2) (by simp only [maxLen]; omega) (by omega) (by simp; omega) ?_; intro A7 c7 w7 o7 ch7 d7 _)
      have HAP := hide (show ∀ q ∈ (fs ++ [blk A1 ++ blk A2]).flatten, w.heap.size ≤ q ∧ q < w3.heap.size ∧ A' ≠ some ⟨q, 0, none⟩ from fun q hq => by
        rw [List.flatten_append] at hq
        rcases List.mem_append.1 hq with hq | hq
        · have h1 := unhide HF q hq
          have h2 := unhide HFL q hq
          exact ⟨h1.1, by omega, h1.2⟩
        · have h1 := unhide HQ q (by simpa using hq)
          exact ⟨by omega, h1.2, fun e => by have := hrg q e; omega⟩)
      have hall7 := hall5.keep effO_good (w' := w7) (fun q hq hqw => by
        have h1 := unhide HAP q hq
        rw [ch7.block q (by simp; omega) h1.2.2]
        exact Below.heap_alloc _ _ _ hqw)
      have HF7 := hide (show ∀ q ∈ (fs ++ [blk A1 ++ blk A2]).flatten, w.heap.size ≤ q ∧ A7 ≠ some ⟨q, 0, none⟩ from fun q hq => by
        have h1 := unhide HAP q hq
        refine ⟨h1.1, fun e => ?_⟩
        rcases d7 with rfl | ⟨rfl, _⟩
        · exact h1.2.2 e
        · injection e with e; injection e with e; simp at e; omega)
      have hnd7 : (fs ++ [blk A1 ++ blk A2]).flatten.Nodup := by
        rw [List.flatten_append]
        refine fresh_nodup (m := wr.heap.size) hnd (by simpa using unhide HN12) (fun q hq => unhide HFL q hq) (fun q hq => (unhide HQ q (by simpa using hq)).1)
      have o7' : w7.ownsRow w.heap.size 83 3 (.slice A7 (k + 1) c7) (k + 1) (vs ++ [effV x A1 c1 A2 c2]).flatten := by simpa using o7
      have hcu7 := own_base (own_chg (own_alloc o6 _) ch7 (fun g hA e => by have := hr6 g hA; have := hrg g e; simp at *; omega)) (base' := w.heap.size) (by simp; omega)
      have hB7 : Below w.heap.size w w7 := (hB5.alloc hB5.size _).trans (ch7.below (fun q hq e => by have := hrg q e; omega) (by have := hB5.size; simp; omega))
      have HCN := hide (show storeB nxt = true ∧ valsL nxt = runAllV v (al.take (k + 1)) from ⟨unhide HST, by rw [unhide HVL, unhide HT, unhide HSN, ← (unhide HC).2, unhide HXE]⟩)
      have HEN := hide (show runAllE v (al.take (k + 1)) = runAllE v (al.take k) ++ [x] by rw [unhide HT, unhide HSE, ← (unhide HC).2, unhide HXE])
      go_roundw
      case rel => exact ⟨k + 1, A7, c7, _, _, nxt, A6, c6, by omega, by go_num, rfl, rfl, HCN, by rw [unhide HEN]; exact hall7, hnd7, HF7, o7', hcu7, hB7⟩
      case measure => simp [intOf]; omega
    · obtain rfl : k = al.length := by omega
      have hcp := own_cap hown
      have hel := runAllE_len v al
      rw [List.take_length] at hall HC
      have HE := hide (show cur = storeL (runAllV v al) by rw [← (unhide HC).2, store_vals (unhide HC).1])
      have HEL := hide hel
      clear hel
      go_wp2
      go_ret2
      rw [unhide HL, unhide HM, ← unhide HE]
      have hrg := own_rng hown
      refine ⟨A5, c5, A', c', blk A' ++ fs.flatten, ?_, hcur, ⟨vs, fs, hall, ?_, rfl, ?_⟩, ?_, hB⟩
      · rw [unhide HEL]; rfl
      · rw [unhide HEL]; exact own_base0 hown
      · rw [List.nodup_append]
        exact ⟨blk_nodup _, hnd, fun x hx y hy e => (unhide HF y hy).2 (e ▸ (blk_own hown hx).1)⟩
      · intro q hq
        rcases List.mem_append.1 hq with hq | hq
        · exact (blk_own hown hq).2.1
        · exact (unhide HF q hq).1
theorem runSerial_spec (A : Option Addr) (ca : Nat) (s : List Ent) (B : Option Addr) (cb : Nat) (al : List Act) (w : World) (ha : Rd w A (s.flatMap encE)) (hla : s.length ≤ 4611686018427387904) (hb : Rd w B (al.flatMap encA)) (hlb : al.length ≤ 4611686018427387904) :
    Calls Tryz.prog 78 #[.slice A s.length ca, .slice B al.length cb] w fun e w' => ∃ A1 c1 A2 c2, e = .returned (.tuple #[.slice A1 (serialS s al).length c1, .slice A2 (serialE s al).length c2]) ∧ w'.ownsRow w.heap.size 85 2 (.slice A1 (serialS s al).length c1) (serialS s al).length ((serialS s al).flatMap encE) ∧ ((serialE s al).length ≤ c2 ∧ c2 ≤ maxLen) ∧ RdD effR (fun k => w.heap.size ≤ k) w' A2 (serialE s al) ∧ Below w.heap.size w w' :=
  (runSerial_own A ca s B cb al w ha hla hb hlb).mono fun e w' ⟨A1, c1, A2, c2, fp, h1, h2, h3, h4, h5⟩ => ⟨A1, c1, A2, c2, h1, h2, h3.cap, h3.rd effO_good eff_good h4, h5⟩
end Go.Proofs.YtefdhlfljpppfaaGreat
namespace Go.Proofs.YtefdhlfljpppfaaGreat
open Go.RowKit
set_option linter.unusedVariables false
set_option linter.unusedSimpArgs false

/-- the values after some blocks -/
def afterV (t : Tr) (ns : List Int) : List Int := ns.foldl (fun v k => runAllV v (bAt t k.toNat).list) (valsL t.base)
theorem afterV_snoc (t : Tr) (ns : List Int) (k : Int) : afterV t (ns ++ [k]) = runAllV (afterV t ns) (bAt t k.toNat).list := by simp [afterV]
theorem blk_acts {t : Tr} (h : treeB t = true) {k : Nat} (hk : k < t.blocks.length) : actsB (bAt t k).list = true := by
  have h1 := (treeB_yes h).2.2.2.2.2.2.1 k hk
  rw [sumOk, Bool.and_eq_true] at h1
  have h2 := h1.1
  unfold blkB at h2
  simp only [Bool.and_eq_true] at h2
  exact h2.2.2.2.2.2
theorem valOk_after {t : Tr} (h : treeB t = true) (ns : List Int) (hn : ∀ k ∈ ns, 0 ≤ k ∧ k < t.blocks.length) : valOk (afterV t ns) := by
  have h0 : valOk (valsL t.base) := valOk_vals (storeB_def _ ▸ (treeB_yes h).1) (by omega)
  unfold afterV
  generalize valsL t.base = v at h0
  induction ns generalizing v with
  | nil => exact h0
  | cons k ns ih =>
    have hk := hn k (by simp)
    exact ih (fun x hx => hn x (by simp [hx])) _ (valOk_runAll h0 (acts_all (blk_acts h (by omega))))
/-- the store after a block -/
def storeT (t : Tr) (n : Int) : List Ent := if treeB t = true ∧ inB n 0 ((t.blocks.length : Int) - 1) = true then storeL (afterV t (pathT t n)) else []
theorem storeT_yes {t : Tr} {n : Int} (h : treeB t = true) (hn : inB n 0 ((t.blocks.length : Int) - 1) = true) : storeT t n = storeL (afterV t (pathT t n)) := by rw [storeT, if_pos ⟨h, hn⟩]
theorem storeT_no {t : Tr} {n : Int} (h : treeB t = false) : storeT t n = [] := by rw [storeT, if_neg (by simp [h])]
theorem storeT_no2 {t : Tr} {n : Int} (h : inB n 0 ((t.blocks.length : Int) - 1) = false) : storeT t n = [] := by rw [storeT, if_neg (by simp [h])]
theorem storeT_len (t : Tr) (n : Int) : (storeT t n).length ≤ 32 := by
  unfold storeT
  split
  · exact storeL_len _
  · simp
theorem wpList_drop_all {P : Program} {ops : Array Oper} {Q : Exit → Go.Act → World → Prop} {l : List Oper} {n : Nat} {a : Go.Act} {w : World} (hl : l.drop n = []) (h : Q .normal a w) : wpList P ops Q (l.drop n) a w := by
  rw [hl]
  exact h
set_option maxRecDepth 100000 in
set_option maxHeartbeats 8000000 in
theorem after_impl (t : Tr) (A1 : Option Addr) (c1 : Nat) (A2 : Option Addr) (c2 : Nat) (A3 : Option Addr) (c3 : Nat) (n : Int) (w : World) (h : TrR w t A1 A2 A3) (hv : treeB t = true) (hn0 : -1 ≤ n) (hn1 : n < t.blocks.length) :
    Calls Tryz.prog 57 #[.agg (trA t A1 c1 A2 c2 A3 c3), .int .i64 n] w fun e w' => e = .returned (.agg (vA (afterV t (pathT t n)))) ∧ Below w.heap.size w w' := by
  have HV := hide hv
  have hb1 : t.base.length ≤ 32 := store_len (treeB_yes hv).1
  have hkb : ∀ e ∈ t.base, 0 ≤ e.k ∧ e.k ≤ 31 := fun e he => by have := evOk_all (treeB_yes hv).1 e he; omega
  have HKB := hide hkb
  clear hv hkb
  have HR := hide (fun w' (hb : Below w.heap.size w w') => h.new hb)
  obtain ⟨W, hW⟩ : ∃ W : World, W = (w.alloc (.cells (trA t A1 c1 A2 c2 A3 c3) 27)).alloc (.cells zA 76) := ⟨_, rfl⟩
  have hb0 : Below w.heap.size w W := by rw [hW]; exact ((Below.refl _ _).alloc (Nat.le_refl _) _).alloc (by simp) _
  have K0 : Blk W w.heap.size 27 (trA t A1 c1 A2 c2 A3 c3) := by rw [hW]; exact (Blk.new _ _ _).alloc _
  have K1 : Blk W (w.heap.size + 1) 76 zA := by
    rw [hW]
    have := Blk.new (w.alloc (.cells (trA t A1 c1 A2 c2 A3 c3) 27)) 76 zA
    simpa using this
  have x1 : W.cell? ⟨w.heap.size, 0, none⟩ = some (.slice A1 t.base.length c1) := K0.cell 0
  have hW1 := K1.lt
  have KV := valuesOf_any A1 c1 t.base W ((unhide HR W hb0).b1) (by omega) (unhide HKB)
  simp only [trA] at K0 hW ⊢
  clear h
  subst hW
  go_enter Tryz.func57, Tryz.ntmps57
  go_wp2_with fail
  refine KV.mono ?_
  rintro e w3 ⟨rfl, b3⟩
  have hb3 := bthen hb0 b3
  have hs3 := b3.size
  replace K0 := K0.new_ b3
  replace K1 := K1.new_ b3
  clear x1 KV b3 hb0
  have kv0 := (one_vals w3 76 (valsL t.base)).1
  have kv := (one_vals w3 76 (valsL t.base)).2.1
  have bv := (one_vals w3 76 (valsL t.base)).2.2
  have hls : (vA (valsL t.base)).size = 32 := by rw [vA_size, valsL_len]
  have hgl : w.heap.size + 1 < w3.heap.size := by omega
  replace K0 := K0.new_ bv
  replace K1 := K1.new_ bv
  have hb4 := bthen hb3 bv
  have z0 : ((w3.alloc (.cells zA 76)).setRow w3.heap.size (vA (valsL t.base))).cell? ⟨w.heap.size, 0, none⟩ = some (.slice A1 t.base.length c1) := K0.cell 0
  have z1 : ((w3.alloc (.cells zA 76)).setRow w3.heap.size (vA (valsL t.base))).cell? ⟨w.heap.size, 1, none⟩ = some (.slice A2 t.blocks.length c2) := K0.cell 1
  have z2 : ((w3.alloc (.cells zA 76)).setRow w3.heap.size (vA (valsL t.base))).cell? ⟨w.heap.size, 2, none⟩ = some (.slice A3 t.before.length c3) := K0.cell 2
  unfold zA at z0 z1 z2
  go_wp2_with (refine wpList_store_row rfl 76 (.tmp 5) (.tmp 10) rfl w3.heap.size (vA (valsL t.base)) rfl rfl 76 zA kv0 (by rw [hls]; exact info_vals) (by rw [hls]; rfl) (vA_one _) ?_)
  have KP := path_impl t A1 c1 A2 c2 A3 c3 n _ (unhide HR _ hb4) (unhide HV) hn0 hn1
  simp only [trA] at KP
  refine KP.mono ?_
  rintro e w5 ⟨A', c', rfl, o5, b5⟩
  have hb5 := bthen hb4 b5
  replace K0 := K0.new_ b5
  replace K1 := K1.new_ b5
  have kv5 := kv.new_ b5
  have HPR := hide (fun (w' : World) (hc : Chg (fun q => q = w3.heap.size) w5 w') => own_rd (own_chg o5 hc (fun q hq e => by have := own_rng o5 q hq; rw [size_setRow] at this; simp at this; omega)))
  have HPM := hide (fun x (hx : x ∈ pathT t n) => pathT_mem (t := t) (n := n) hx)
  have hpl := pathT_len t n
  obtain ⟨g, hg⟩ : ∃ g, g = w3.heap.size := ⟨_, rfl⟩
  rw [← hg] at kv5 hgl HPR
  clear kv kv0 bv z0 z1 z2 o5 KP hls
  have HGE := hide (show w.heap.size ≤ g by omega)
  have hgn0 : w.heap.size ≠ g := by omega
  have hgn1 : w.heap.size + 1 ≠ g := by omega
  generalize hps : pathT t n = ps at *
  have HPS := hide hps
  clear b5 hb4 hb3 hs3 hW1 hps
  rw [← hg]
  clear hg
  go_wp2
  go_loopw [7, 15, 19] (fun _ i _ wr => ∃ (k : Nat), k ≤ ps.length ∧ i = .int .i64 k ∧ Blk wr g 76 (vA (afterV t (ps.take k))) ∧ Chg (fun q => q = g) w5 wr) (fun _ i _ _ => ps.length - (intOf i).toNat)
  case atStart => exact ⟨0, Nat.zero_le _, rfl, kv5, Chg.refl _ _⟩
  case round =>
    obtain ⟨k, hk, rfl, kv, hch⟩ := hrel
    have k0 := K0.chg hch hgn0
    have hbw : Below w.heap.size w wr := hb5.trans (hch.below (fun q hq e => by have := unhide HGE; omega) hb5.size)
    by_cases hlt : k < ps.length
    · have i1 : (k : Int) < (ps.length : Int) := by omega
      obtain ⟨bp, offp, rfl, hpb, zp⟩ := (unhide HPR wr hch).int hlt
      have hpm := unhide HPM ps[k] (List.getElem_mem hlt)
      have HT := hide (show afterV t (ps.take (k + 1)) = runAllV (afterV t (ps.take k)) (bAt t ps[k].toNat).list by rw [List.take_succ_eq_append_getElem hlt, afterV_snoc])
      have HVO := hide (valOk_after (unhide HV) (ps.take k) (fun x hx => unhide HPM x (List.mem_of_mem_take hx)))
      generalize ps[k] = p at *
      obtain ⟨q, rfl⟩ := Int.eq_ofNat_of_zero_le hpm.1
      rw [show ((q : Int)).toNat = q by simp] at HT
      have hqn : q < t.blocks.length := by omega
      have i2 : (q : Int) < (t.blocks.length : Int) := by omega
      have hacts := blk_acts (unhide HV) hqn
      rw [bAt_get t hqn] at HT hacts
      obtain ⟨bq, offq, L1, e1, hA2, -, hbb, -, -, -, d3, -, -, -, q1⟩ := (unhide HR w (Below.refl _ _)).b2.bk hqn
      generalize t.blocks[q] = x at *
      have hl10 := (actsB_yes hacts).1
      have HAC := hide (acts_all hacts)
      have HX := hide (fun (w' : World) (hc : Chg (fun q => q = g) wr w') => show w'.cell? ⟨w.heap.size, 1, none⟩ = some (.slice A2 t.blocks.length c2) ∧ w'.cell? ⟨bq, offq + q * 6 + 3, none⟩ = some (.slice L1 x.list.length e1) ∧ Rd w' L1 (x.list.flatMap encA) from by
        have hb' : Below w.heap.size w w' := hbw.trans (hc.below (fun q hq e => by have := unhide HGE; omega) hbw.size)
        exact ⟨(k0.chg hc hgn0).cell 1, (hb'.cell (p := ⟨bq, offq + q * 6 + 3, none⟩) hbb).trans d3, q1.rd.new hb'⟩)
      have hcl := (unhide HVO).1
      have hcn : (runAllV (afterV t (ps.take k)) x.list).length = 32 := (valOk_runAll (unhide HVO) (unhide HAC)).1
      generalize hcur : afterV t (ps.take k) = cur at *
      have hsV : (vA cur).size = 32 := by rw [vA_size, hcl]
      have HA2 := hide hA2
      generalize hnw : runAllV cur x.list = nw at *
      have HNW := hide hnw
      have hsN : (vA nw).size = 32 := by rw [vA_size, hcn]
      clear hacts hA2 d3 q1 hcur hnw hpm hcn
      go_wp2
      have hF : StVL [bV (.agg (vA cur)), bV (.pointer (some ⟨w.heap.size, 1, none⟩)), bV (.slice (some ⟨bq, offq, none⟩) t.blocks.length c2), bV (.int .i64 (q : Int)), bV (.pointer (some ⟨bq, offq + q * 6, none⟩)), bV (.pointer (some ⟨bq, offq + q * 6 + 3, none⟩)), bV (.slice L1 x.list.length e1), pV (fun v => ∃ A9 c9 n9, v = .tuple #[.agg (vA nw), .slice A9 n9 c9]), pV (fun v => ∃ A9 c9 n9, v = .tuple #[.agg (vA nw), .slice A9 n9 c9]), bV (.agg (vA nw)), pV (fun _ => True), pV (fun _ => True)] := ⟨fun _ _ _ h => h, fun _ _ _ h => h, fun _ _ _ h => h, fun _ _ _ h => h, fun _ _ _ h => h, fun _ _ _ h => h, fun _ _ _ h => h, fun _ _ _ h => h, fun _ _ _ h => h, fun _ _ _ h => h, fun _ _ _ h => h, fun _ _ _ h => h, trivial⟩
      go_upto_region 5 with fail
      refine wp_region_one (by kernel_rfl) [(0, some 20), (1, some 21), (2, some 22), (3, some 23), (4, some 24), (5, some 25), (6, some 26), (7, some 27), (8, some 19), (9, some 28), (10, some 29), (11, none)] [[], [], [(1, some 21)], [], [(2, some 22), (3, some 23)], [(4, some 24)], [(5, some 25)], [(0, some 20), (6, some 26)], [(7, some 27)], [(8, some 19)], [(8, some 19)], [(9, some 28)]] (by kernel_rfl) 11 [0] (by kernel_rfl)
        (locB [bV (.agg (vA cur)), bV (.pointer (some ⟨w.heap.size, 1, none⟩)), bV (.slice (some ⟨bq, offq, none⟩) t.blocks.length c2), bV (.int .i64 (q : Int)), bV (.pointer (some ⟨bq, offq + q * 6, none⟩)), bV (.pointer (some ⟨bq, offq + q * 6 + 3, none⟩)), bV (.slice L1 x.list.length e1), pV (fun v => ∃ A9 c9 n9, v = .tuple #[.agg (vA nw), .slice A9 n9 c9]), pV (fun v => ∃ A9 c9 n9, v = .tuple #[.agg (vA nw), .slice A9 n9 c9]), bV (.agg (vA nw)), pV (fun _ => True), pV (fun _ => True)]) (fun a b => Chg (fun q => q = g) a b) (fun b w => Blk w g 76 (vA (cond b nw cur))) (fun _ => Chg.refl _ _) (fun _ _ _ h1 h2 => h1.trans h2) (locV_st hF _) kv ?_ ?_
      · refine steps_cons ?s0 ( steps_cons ?s1 ( steps_cons ?s2 ( steps_cons ?s3 ( steps_cons ?s4 ( steps_cons ?s5 ( steps_cons ?s6 ( steps_cons ?s7 ( steps_cons ?s8 ( steps_cons ?s9 ( steps_cons ?s10 ( steps_cons ?s11 steps_nil)))))))))))
        case s0 =>
          intro w' b hE hb hR
          obtain rfl := hb (by simp)
          intro Q hQ
          refine wpList_load_row rfl 76 (.tmp 5) rfl g rfl 76 (vA cur) (0, 0) _ hR Tryz.underlying76 rfl (by rw [hsV]; exact info_vals) ?_
          go_wp2
          exact hQ _ _ _ rfl rfl (Chg.refl _ _) hR
        case s1 =>
          intro w' b hE hbx hR
          clear hbx
          intro Q hQ
          go_wp2
          exact hQ _ _ _ rfl rfl (Chg.refl _ _) hR
        case s2 =>
          intro w' b hE hbx hR
          clear hbx
          rintro _ rfl Q hQ
          obtain ⟨y1, y2, y3⟩ := unhide HX w' (chg_undrew hE)
          rw [unhide HA2] at y1
          go_wp2
          exact hQ _ _ _ rfl rfl (Chg.refl _ _) hR
        case s3 =>
          intro w' b hE hbx hR
          clear hbx
          intro Q hQ
          go_wp2
          exact hQ _ _ _ rfl rfl (Chg.refl _ _) hR
        case s4 =>
          intro w' b hE hbx hR
          clear hbx
          rintro _ rfl _ rfl Q hQ
          go_wp2
          exact hQ _ _ _ rfl rfl (Chg.refl _ _) hR
        case s5 =>
          intro w' b hE hbx hR
          clear hbx
          rintro _ rfl Q hQ
          go_wp2
          exact hQ _ _ _ rfl rfl (Chg.refl _ _) hR
        case s6 =>
          intro w' b hE hbx hR
          clear hbx
          rintro _ rfl Q hQ
          obtain ⟨y1, y2, y3⟩ := unhide HX w' (chg_undrew hE)
          rw [unhide HA2] at y1
          go_wp2
          exact hQ _ _ _ rfl rfl (Chg.refl _ _) hR
        case s7 =>
          intro w' b hE hbx hR
          clear hbx
          rintro _ rfl _ rfl Q hQ
          obtain ⟨y1, y2, y3⟩ := unhide HX w' (chg_undrew hE)
          rw [unhide HA2] at y1
          have K := runAll_any cur L1 e1 x.list w' (unhide HVO) y3 (unhide HAC) (by omega)
          rw [unhide HNW] at K
          go_wp2_with fail
          refine K.mono ?_
          rintro e w1 ⟨A9, c9, rfl, -, -, b1⟩
          go_wp2
          exact hQ _ _ _ rfl ⟨_, _, _, rfl⟩ (Chg.of_new b1) (hR.new_ b1)
        case s8 =>
          intro w' b hE hbx hR
          clear hbx
          rintro _ ⟨A9, c9, n9, rfl⟩ Q hQ
          go_wp2
          exact hQ _ _ _ rfl ⟨_, _, _, rfl⟩ (Chg.refl _ _) hR
        case s9 =>
          intro w' b hE hbx hR
          clear hbx
          rintro _ ⟨A9, c9, n9, rfl⟩ Q hQ
          go_wp2
          exact hQ _ _ _ rfl rfl (Chg.refl _ _) hR
        case s10 =>
          intro w' b hE hbx hR
          clear hbx
          rintro _ ⟨A9, c9, n9, rfl⟩ Q hQ
          go_wp2
          exact hQ _ _ _ rfl trivial (Chg.refl _ _) hR
        case s11 =>
          intro w' b hE hb hR
          obtain rfl := hb (by simp)
          rintro _ rfl Q hQ
          refine wpList_store_row rfl 76 (.tmp 5) (.tmp 28) rfl g (vA nw) rfl rfl 76 (vA cur) hR (by rw [hsN]; exact info_vals) (by rw [hsV, hsN]) (vA_one _) ?_
          go_wp2
          exact hQ undef _ _ rfl trivial ⟨rfl, rfl, rfl, by rw [size_setRow]; exact Nat.le_refl _, fun j _ hj => setRow_other _ g j _ hj⟩ (blk_setRow hR)
      intro w9 hE hR
      rintro v0 - v1 - v2 - v3 - v4 - v5 - v6 - v7 - v8 - v9 - v10 - v11 -
      refine wpList_drop_all rfl ?_
      simp only [Act.put, List.setIfInBounds_toArray, List.set_cons_succ, List.set_cons_zero]
      go_wp2
      go_roundw
      case rel => exact ⟨k + 1, by omega, by go_num, by rw [unhide HT]; exact hR, hch.trans (chg_undrew hE)⟩
      case measure => simp [intOf]; omega
    · obtain rfl : k = ps.length := by omega
      rw [List.take_length] at kv
      have kR := K1.chg hch hgn1
      have hsV : (vA (afterV t ps)).size = 32 := by rw [vA_size, (valOk_after (unhide HV) ps (unhide HPM)).1]
      have hgz : zA.size = 32 := rfl
      have hkr := blk_setRow (ds := vA (afterV t ps)) kR
      go_wp2_with (first | (refine wpList_load_row rfl 76 (.tmp 5) rfl g rfl 76 (vA (afterV t ps)) (0, 0) _ kv Tryz.underlying76 rfl (by rw [hsV]; exact info_vals) ?_) | (refine wpList_store_row rfl 76 (.tmp 4) (.tmp 31) rfl (w.heap.size + 1) (vA (afterV t ps)) rfl rfl 76 zA kR (by rw [hsV]; exact info_vals) (by rw [hsV]; rfl) (vA_one _) ?_))
      refine bodyPost_ret (v := .agg (vA (afterV t ps))) (results_cell_row (p := 4) (ty := 76) rfl _ _ (w.heap.size + 1) 76 (vA (afterV t ps)) (0, 0) _ rfl hkr Tryz.underlying76 rfl (by rw [hsV]; exact info_vals)) rfl ⟨by rw [unhide HPS], ?_⟩
      exact ⟨hbw.os, hbw.tape, hbw.output, by rw [size_setRow]; exact hbw.size, fun q hq => (setRow_other wr (w.heap.size + 1) q _ (by omega)).trans (hbw.block q hq)⟩
set_option maxRecDepth 100000 in
set_option maxHeartbeats 4000000 in
theorem storeOf_impl (t : Tr) (A1 : Option Addr) (c1 : Nat) (A2 : Option Addr) (c2 : Nat) (A3 : Option Addr) (c3 : Nat) (n : Int) (w : World) (h : TrR w t A1 A2 A3) (hb1 : t.base.length ≤ 1099511627776) (hb2 : t.blocks.length ≤ 1099511627776) (hbs : ∀ x ∈ t.blocks, x.list.length ≤ 1099511627776) (hb3 : t.before.length ≤ 1099511627776) :
    Calls Tryz.prog 21 #[.agg (trA t A1 c1 A2 c2 A3 c3), .int .i64 n] w fun e w' => ∃ A' c', e = .returned (.slice A' (storeT t n).length c') ∧ w'.ownsRow w.heap.size 85 2 (.slice A' (storeT t n).length c') (storeT t n).length ((storeT t n).flatMap encE) ∧ Below w.heap.size w w' := by
  have HBS := hide hbs
  clear hbs
  obtain ⟨W, hW⟩ : ∃ W : World, W = w.alloc (.cells (trA t A1 c1 A2 c2 A3 c3) 27) := ⟨_, rfl⟩
  have hb0 : Below w.heap.size w W := by rw [hW]; exact (Below.refl _ _).alloc (Nat.le_refl _) _
  have K0 : Blk W w.heap.size 27 (trA t A1 c1 A2 c2 A3 c3) := by rw [hW]; exact Blk.new _ _ _
  have HR := hide (fun w' (hb : Below W.heap.size W w') => h.new (bthen hb0 hb))
  have hWs : w.heap.size < W.heap.size := K0.lt
  have BX := hide (fun w' (hb : Below W.heap.size W w') => show w'.cell? ⟨w.heap.size, 0, none⟩ = some (.slice A1 t.base.length c1) ∧ w'.cell? ⟨w.heap.size, 1, none⟩ = some (.slice A2 t.blocks.length c2) ∧ w'.cell? ⟨w.heap.size, 2, none⟩ = some (.slice A3 t.before.length c3) from ⟨(K0.new_ hb).cell 0, (K0.new_ hb).cell 1, (K0.new_ hb).cell 2⟩)
  have KV := treeValid_impl t A1 c1 A2 c2 A3 c3 W (unhide HR _ (Below.refl _ _)) hb1 hb2 (unhide HBS) hb3
  have KH := hide (fun w' => has_impl t A1 c1 A2 c2 A3 c3 n w' hb2)
  have KA := hide (fun w' (hb : Below W.heap.size W w') hv hn0 hn1 => after_impl t A1 c1 A2 c2 A3 c3 n w' (unhide HR w' hb) hv hn0 hn1)
  obtain ⟨x0, x1, x2⟩ := unhide BX W (Below.refl _ _)
  simp only [trA] at K0 hW KV KH KA ⊢
  clear h K0
  subst hW
  go_enter Tryz.func21, Tryz.ntmps21
  go_wp2_with fail
  refine KV.mono ?_
  rintro e w3 ⟨rfl, b3⟩
  clear KV x0 x1 x2
  obtain ⟨z0, z1, z2⟩ := unhide BX w3 b3
  cases hv : treeB t
  · have HP := hide (storeT_no (n := n) hv)
    go_wp2
    go_ret
    rw [unhide HP]
    exact ⟨none, 0, rfl, own_nil _ _ _ _, bthen hb0 b3⟩
  have HV := hide hv
  clear hv
  cases hin : inB n 0 ((t.blocks.length : Int) - 1)
  · have HP := hide (storeT_no2 hin)
    go_wp2_with fail
    refine (unhide KH w3).mono ?_
    rintro e w4 ⟨rfl, b4⟩
    rw [hin]
    go_wp2
    go_ret
    rw [unhide HP]
    exact ⟨none, 0, rfl, own_nil _ _ _ _, bthen hb0 (bthen b3 b4)⟩
  have HP := hide (storeT_yes (unhide HV) hin)
  have hib := inB_true.1 hin
  have HAL := hide (valOk_after (unhide HV) (pathT t n) (fun x hx => pathT_mem hx)).1
  have hb0n : -1 ≤ n := by omega
  have hb1n : n < (t.blocks.length : Int) := by omega
  clear hib
  go_wp2_with fail
  refine (unhide KH w3).mono ?_
  rintro e w4 ⟨rfl, b4⟩
  rw [hin]
  have b34 := bthen b3 b4
  obtain ⟨z0, z1, z2⟩ := unhide BX w4 b34
  go_wp2_with fail
  refine (unhide KA w4 b34 (unhide HV) hb0n hb1n).mono ?_
  rintro e w5 ⟨rfl, b5⟩
  have b45 := bthen b34 b5
  have hs5 := b45.size
  go_wp2_with fail
  refine (store_any (afterV t (pathT t n)) w5 (unhide HAL)).mono ?_
  rintro e w6 ⟨A', c', rfl, o6, b6⟩
  rw [← unhide HP] at o6 ⊢
  go_wp2
  go_ret
  exact ⟨A', c', rfl, own_base o6 (by omega), bthen hb0 (bthen b45 b6)⟩
end Go.Proofs.YtefdhlfljpppfaaGreat
namespace Go.Proofs.YtefdhlfljpppfaaGreat
open Go.RowKit
set_option linter.unusedVariables false
set_option linter.unusedSimpArgs false

def sTup (B : Nat) (s : List Ent) (v : Value) (w : World) : Prop := ∃ A c u, v = .tuple #[.slice A s.length c, u] ∧ w.ownsRow B 85 2 (.slice A s.length c) s.length (s.flatMap encE)
def sOwn (B : Nat) (s : List Ent) (v : Value) (w : World) : Prop := ∃ A c, v = .slice A s.length c ∧ w.ownsRow B 85 2 (.slice A s.length c) s.length (s.flatMap encE)
theorem sb_Tup (B : Nat) (s : List Ent) : StB (sTup B s) := fun _ _ _ hb ⟨A, c, u, h1, h2⟩ => ⟨A, c, u, h1, own_new h2 hb⟩
theorem sb_Own (B : Nat) (s : List Ent) : StB (sOwn B s) := fun _ _ _ hb ⟨A, c, h1, h2⟩ => ⟨A, c, h1, own_new h2 hb⟩
theorem serial_step {v : List Int} {al : List Act} (hv : valOk v) (ha : actsB al = true) : serialS (storeL v) al = storeL (runAllV v al) := by
  rw [serialS, if_pos ⟨(storeL_ok hv).1, ha⟩, vals_store hv]
theorem len_ents (es : List Ent) : (es.flatMap encE).length = es.length * 2 := by
  induction es with
  | nil => rfl
  | cons e es ih => rw [List.flatMap_cons, List.length_append, ih, List.length_cons]; simp [encE]; omega
set_option maxRecDepth 100000 in
set_option maxHeartbeats 8000000 in
theorem storeOf_spec (t : Tr) (A1 : Option Addr) (c1 : Nat) (A2 : Option Addr) (c2 : Nat) (A3 : Option Addr) (c3 : Nat) (n : Int) (w : World) (h : TrR w t A1 A2 A3) (hb1 : t.base.length ≤ 1099511627776) (hb2 : t.blocks.length ≤ 1099511627776) (hbs : ∀ x ∈ t.blocks, x.list.length ≤ 1099511627776) (hb3 : t.before.length ≤ 1099511627776) :
    Calls Tryz.prog 42 #[.agg (trA t A1 c1 A2 c2 A3 c3), .int .i64 n] w fun e w' => ∃ A' c', e = .returned (.slice A' (storeT t n).length c') ∧ w'.ownsRow w.heap.size 85 2 (.slice A' (storeT t n).length c') (storeT t n).length ((storeT t n).flatMap encE) ∧ Below w.heap.size w w' := by
  have HBS := hide hbs
  clear hbs
  obtain ⟨W, hW⟩ : ∃ W : World, W = w.alloc (.cells (trA t A1 c1 A2 c2 A3 c3) 27) := ⟨_, rfl⟩
  have hb0 : Below w.heap.size w W := by rw [hW]; exact (Below.refl _ _).alloc (Nat.le_refl _) _
  have K0 : Blk W w.heap.size 27 (trA t A1 c1 A2 c2 A3 c3) := by rw [hW]; exact Blk.new _ _ _
  have HR := hide (fun w' (hb : Below W.heap.size W w') => h.new (bthen hb0 hb))
  have hWs : w.heap.size < W.heap.size := K0.lt
  have BX := hide (fun w' (hb : Below W.heap.size W w') => show w'.cell? ⟨w.heap.size, 0, none⟩ = some (.slice A1 t.base.length c1) ∧ w'.cell? ⟨w.heap.size, 1, none⟩ = some (.slice A2 t.blocks.length c2) ∧ w'.cell? ⟨w.heap.size, 2, none⟩ = some (.slice A3 t.before.length c3) from ⟨(K0.new_ hb).cell 0, (K0.new_ hb).cell 1, (K0.new_ hb).cell 2⟩)
  have KV := path_spec t A1 c1 A2 c2 A3 c3 n W (unhide HR _ (Below.refl _ _)) hb1 hb2 (unhide HBS) hb3
  obtain ⟨x0, x1, x2⟩ := unhide BX W (Below.refl _ _)
  simp only [trA] at K0 hW KV ⊢
  clear h K0
  subst hW
  go_enter Tryz.func42, Tryz.ntmps42
  go_wp2_with fail
  refine KV.mono ?_
  rintro e w3 ⟨AP, cp, rfl, o3, b3⟩
  clear KV x0 x1 x2
  have hpl := pathS_len t n
  have HPM := hide (fun x (hx : x ∈ pathS t n) => pathS_mem (t := t) (n := n) hx)
  have HPS := hide (show storeT t n = if pathS t n = [] then [] else storeL (afterV t (pathS t n)) from by
    unfold pathS
    cases hv : treeB t
    · rw [storeT_no hv]; simp
    · cases hin : inB n 0 ((t.blocks.length : Int) - 1)
      · rw [storeT_no2 hin, pathT_out t (fun hc => by rw [inB_true.2 (by omega)] at hin; cases hin)]; simp
      · have hib := inB_true.1 hin
        rw [storeT_yes hv hin, if_pos rfl, if_neg]
        rw [pathT_step hv (by omega) (by omega)]
        simp)
  have b03 := b3
  have hs3 := b3.size
  have rp := own_rd o3
  have HAP := hide (own_rng o3)
  generalize hps : pathS t n = ps at *
  have o4 := own_made (base := w.heap.size) (e := 85) (size := 2) w3 #[] 0 (by omega) (by simp [maxLen]) rfl
  have b4 : Below (w.alloc (.cells #[.slice A1 t.base.length c1, .slice A2 t.blocks.length c2, .slice A3 t.before.length c3] 27)).heap.size (w.alloc (.cells #[.slice A1 t.base.length c1, .slice A2 t.blocks.length c2, .slice A3 t.before.length c3] 27)) (w3.alloc (.cells #[] 85)) := b3.alloc hs3 _
  rcases ps with _ | ⟨p0, ps'⟩
  · have HP := hide (show storeT t n = [] by rw [unhide HPS, if_pos rfl])
    clear o3 HAP rp HPS hps
    go_wp2
    go_loopw [6, 7] (fun s i wr => ∃ (c' : Nat), i = .int .i64 0 ∧ s = .slice (some ⟨w3.heap.size, 0, none⟩) 0 c' ∧ wr.ownsRow w.heap.size 85 2 (.slice (some ⟨w3.heap.size, 0, none⟩) 0 c') 0 [] ∧ Below w.heap.size w wr) (fun _ _ _ => 0)
    case atStart => exact ⟨_, rfl, rfl, by simpa using o4, bthen hb0 b4⟩
    case round =>
      clear o4
      obtain ⟨c', rfl, rfl, hown, hbel⟩ := hrel
      go_wp2
      go_ret
      rw [unhide HP]
      exact ⟨_, _, rfl, hown, hbel⟩
  have hne : (p0 :: ps') ≠ [] := by simp
  generalize hpp : p0 :: ps' = ps at *
  have hp0 : 0 < ps.length := by rw [← hpp]; simp
  have hp00 : (0 : Int) < (ps.length : Int) := by omega
  have HP := hide (show storeT t n = storeL (afterV t ps) by rw [unhide HPS, if_neg hne])
  have HV := hide (show treeB t = true from (unhide HPM p0 (by rw [← hpp]; simp)).1)
  clear hpp hne HPS p0 ps' hps
  have HPL := hide (fun (w' : World) (hb : Below w3.heap.size w3 w') => (own_rd (own_new o3 hb) : Rd w' AP (ps.map (.int .i64))))
  have HB5 := hide (store_vals (treeB_yes (unhide HV)).1)
  have hbl := store_len (treeB_yes (unhide HV)).1
  have HR3 := hide (fun w' (hb : Below w3.heap.size w3 w') => unhide HR w' (bthen b03 hb))
  have BX3 := hide (fun w' (hb : Below w3.heap.size w3 w') => unhide BX w' (bthen b03 hb))
  have b34 : Below w3.heap.size w3 (w3.alloc (.cells #[] 85)) := (Below.refl _ _).alloc (Nat.le_refl _) _
  have o4' := own_made (base := w3.heap.size) (e := 85) (size := 2) w3 #[] 0 (Nat.le_refl _) (by simp [maxLen]) rfl
  obtain ⟨z0, z1, z2⟩ := unhide BX3 _ b34
  have hw3 : w.heap.size ≤ w3.heap.size := by omega
  have hb3' := bthen hb0 b3
  clear BX HR o3 b3 b4 hb0 rp b03 o4
  go_wp2_with (at_builtin; refine wpList_app rfl (.tmp 17) (.tmp 19) 23 rfl el_ent rfl o4' rfl ((unhide HR3 _ b34).b1) (len_ents t.base) (one_ents t.base) (by simp only [maxLen]; omega) (by omega) (by simp) ?_; intro A4 c4 w4 o5 ch4 d4 _)
  have b4 : Below w3.heap.size w3 w4 := app_below' b34 o4' ch4 (Nat.le_refl _)
  have o6 : w4.ownsRow w3.heap.size 85 2 (.slice A4 t.base.length c4) t.base.length (t.base.flatMap encE) := by simpa using o5
  have hAF : afterV t (ps.take 0) = valsL t.base := rfl
  have HBS0 := hide (show t.base = storeL (afterV t (ps.take 0)) by rw [hAF, unhide HB5])
  clear o4' o5 ch4 d4 hAF b34 z0 z1 z2
  go_loopw [6, 7, 8, 9, 27] (fun s i _ _ _ wr => ∃ (k : Nat) (A' : Option Addr) (c' : Nat) (cur : List Ent), k ≤ ps.length ∧ i = .int .i64 k ∧ s = .slice A' cur.length c' ∧ Hid (cur = storeL (afterV t (ps.take k))) ∧ cur.length ≤ 32 ∧ wr.ownsRow w3.heap.size 85 2 (.slice A' cur.length c') cur.length (cur.flatMap encE) ∧ Below w3.heap.size w3 wr) (fun _ i _ _ _ _ => ps.length - (intOf i).toNat)
  case atStart => exact ⟨0, A4, c4, t.base, Nat.zero_le _, rfl, rfl, HBS0, hbl, o6, b4⟩
  case round =>
    clear o6 b4 HBS0
    obtain ⟨k, A', c', cur, hk, rfl, rfl, HC, hcl, hown, hbel⟩ := hrel
    have hsz := hbel.size
    by_cases hlt : k < ps.length
    · have i1 : (k : Int) < (ps.length : Int) := by omega
      obtain ⟨bp, offp, hAPe, hpb, zp⟩ := (unhide HPL w3 (Below.refl _ _)).int hlt
      have hpm := (unhide HPM ps[k] (List.getElem_mem hlt)).2
      have HT := hide (show afterV t (ps.take (k + 1)) = runAllV (afterV t (ps.take k)) (bAt t ps[k].toNat).list by rw [List.take_succ_eq_append_getElem hlt, afterV_snoc])
      have HVO := hide (valOk_after (unhide HV) (ps.take k) (fun x hx => (unhide HPM x (List.mem_of_mem_take hx)).2))
      generalize ps[k] = p at *
      obtain ⟨q, rfl⟩ := Int.eq_ofNat_of_zero_le hpm.1
      rw [show ((q : Int)).toNat = q by simp] at HT
      have hqn : q < t.blocks.length := by omega
      have i2 : (q : Int) < (t.blocks.length : Int) := by omega
      have hacts := blk_acts (unhide HV) hqn
      rw [bAt_get t hqn] at HT hacts
      obtain ⟨bq, offq, L1, e1, hA2, -, hbb, -, -, -, d3, -, -, -, q1⟩ := (unhide HR3 w3 (Below.refl _ _)).b2.bk hqn
      generalize t.blocks[q] = x at *
      have hl10 := (actsB_yes hacts).1
      have HSS := hide (show serialS cur x.list = storeL (afterV t (ps.take (k + 1))) by rw [unhide HC, serial_step (unhide HVO) hacts, unhide HT])
      have HX := hide (fun (w' : World) (hb : Below wr.heap.size wr w') => show w'.cell? ⟨w.heap.size, 1, none⟩ = some (.slice A2 t.blocks.length c2) ∧ w'.cell? ⟨bq, offq + q * 6 + 3, none⟩ = some (.slice L1 x.list.length e1) ∧ w'.cell? ⟨bp, offp + k, none⟩ = some (.int .i64 (q : Int)) ∧ Rd w' L1 (x.list.flatMap encA) ∧ Rd w' A' (cur.flatMap encE) ∧ Below w3.heap.size w3 w' from by
        have hb' := bthen hbel hb
        exact ⟨(unhide BX3 w' hb').2.1, (hb'.cell (p := ⟨bq, offq + q * 6 + 3, none⟩) hbb).trans d3, (hb'.cell (p := ⟨bp, offp + k, none⟩) hpb).trans zp, q1.rd.new hb', (own_rd hown).new hb, hb'⟩)
      have HA2 := hide hA2
      have HAE := hide hAPe
      have hnl : (serialS cur x.list).length ≤ 32 := serialS_len cur x.list
      generalize hnx : serialS cur x.list = nx at *
      have HNX := hide hnx
      clear hacts hA2 hAPe d3 q1 zp hpm hnx
      rw [unhide HAE]
      go_wp2
      have hF : StBL [bV (.slice A' cur.length c'), bV (.pointer (some ⟨w.heap.size, 1, none⟩)), bV (.slice (some ⟨bq, offq, none⟩) t.blocks.length c2), bV (.slice (some ⟨bp, offp, none⟩) ps.length cp), bV (.int .i64 (k : Int)), bV (.pointer (some ⟨bp, offp + k, none⟩)), bV (.int .i64 (q : Int)), bV (.pointer (some ⟨bq, offq + q * 6, none⟩)), bV (.pointer (some ⟨bq, offq + q * 6 + 3, none⟩)), bV (.slice L1 x.list.length e1), sTup w3.heap.size nx, sTup w3.heap.size nx, sOwn w3.heap.size nx, (fun _ _ => True), sOwn w3.heap.size nx] :=
        ⟨sb_V _, sb_V _, sb_V _, sb_V _, sb_V _, sb_V _, sb_V _, sb_V _, sb_V _, sb_V _, sb_Tup _ _, sb_Tup _ _, sb_Own _ _, sb_True, sb_Own _ _, trivial⟩
      go_upto_region 8 with fail
      refine wp_region_loc (by kernel_rfl) [(0, some 28), (1, some 29), (2, some 30), (3, some 31), (4, some 32), (5, some 33), (6, some 34), (7, some 35), (8, some 36), (9, some 37), (10, some 38), (11, some 27), (12, some 39), (13, some 40), (14, some 8)] [[], [], [(1, some 29)], [], [], [(3, some 31), (4, some 32)], [(5, some 33)], [(2, some 30), (6, some 34)], [(7, some 35)], [(8, some 36)], [(0, some 28), (9, some 37)], [(10, some 38)], [(11, some 27)], [(11, some 27)], [(12, some 39)]] (by kernel_rfl)
        (locB _) (fun a b => Below a.heap.size a b) noR [0, 0, 0, 0, 0, 0, 0, 0, 0, 0, 0, 0, 0, 0, 0] 0 (by kernel_rfl) (fun _ => Below.refl _ _) (fun _ _ _ => bthen) (locB_st hF _) trivial ?_ ?_
      · refine steps_cons ?s0 ( steps_cons ?s1 ( steps_cons ?s2 ( steps_cons ?s3 ( steps_cons ?s4 ( steps_cons ?s5 ( steps_cons ?s6 ( steps_cons ?s7 ( steps_cons ?s8 ( steps_cons ?s9 ( steps_cons ?s10 ( steps_cons ?s11 ( steps_cons ?s12 ( steps_cons ?s13 ( steps_cons ?s14 steps_nil))))))))))))))
        case s0 =>
          intro w' m' hE hR
          intro Q hQ
          go_wp2
          exact hQ _ _ _ rfl rfl (Below.refl _ _) trivial
        case s1 =>
          intro w' m' hE hR
          intro Q hQ
          go_wp2
          exact hQ _ _ _ rfl rfl (Below.refl _ _) trivial
        case s2 =>
          intro w' m' hE hR
          rintro _ rfl Q hQ
          obtain ⟨y1, y2, y3, y4, y5, y6⟩ := unhide HX w' (below_undrew hE)
          rw [unhide HA2] at y1
          go_wp2
          exact hQ _ _ _ rfl rfl (Below.refl _ _) trivial
        case s3 =>
          intro w' m' hE hR
          intro Q hQ
          go_wp2
          exact hQ _ _ _ rfl rfl (Below.refl _ _) trivial
        case s4 =>
          intro w' m' hE hR
          intro Q hQ
          go_wp2
          exact hQ _ _ _ rfl rfl (Below.refl _ _) trivial
        case s5 =>
          intro w' m' hE hR
          rintro _ rfl _ rfl Q hQ
          go_wp2
          exact hQ _ _ _ rfl rfl (Below.refl _ _) trivial
        case s6 =>
          intro w' m' hE hR
          rintro _ rfl Q hQ
          obtain ⟨y1, y2, y3, y4, y5, y6⟩ := unhide HX w' (below_undrew hE)
          rw [unhide HA2] at y1
          go_wp2
          exact hQ _ _ _ rfl rfl (Below.refl _ _) trivial
        case s7 =>
          intro w' m' hE hR
          rintro _ rfl _ rfl Q hQ
          go_wp2
          exact hQ _ _ _ rfl rfl (Below.refl _ _) trivial
        case s8 =>
          intro w' m' hE hR
          rintro _ rfl Q hQ
          go_wp2
          exact hQ _ _ _ rfl rfl (Below.refl _ _) trivial
        case s9 =>
          intro w' m' hE hR
          rintro _ rfl Q hQ
          obtain ⟨y1, y2, y3, y4, y5, y6⟩ := unhide HX w' (below_undrew hE)
          rw [unhide HA2] at y1
          go_wp2
          exact hQ _ _ _ rfl rfl (Below.refl _ _) trivial
        case s10 =>
          intro w' m' hE hR
          rintro _ rfl _ rfl Q hQ
          obtain ⟨y1, y2, y3, y4, y5, y6⟩ := unhide HX w' (below_undrew hE)
          rw [unhide HA2] at y1
          have hs6 := y6.size
          have K := runSerial_own A' c' cur L1 e1 x.list w' y5 (by omega) y4 (by omega)
          rw [unhide HNX] at K
          go_wp2_with fail
          refine K.mono ?_
          rintro e w1 ⟨A8, c8, A9, c9, fp, rfl, o8, -, -, b1⟩
          go_wp2
          exact hQ _ _ _ rfl ⟨A8, c8, _, rfl, own_base o8 (by omega)⟩ b1 trivial
        case s11 =>
          intro w' m' hE hR
          rintro _ ⟨A8, c8, u8, rfl, o8⟩ Q hQ
          go_wp2
          exact hQ _ _ _ rfl ⟨A8, c8, u8, rfl, o8⟩ (Below.refl _ _) trivial
        case s12 =>
          intro w' m' hE hR
          rintro _ ⟨A8, c8, u8, rfl, o8⟩ Q hQ
          go_wp2
          exact hQ _ _ _ rfl ⟨A8, c8, rfl, o8⟩ (Below.refl _ _) trivial
        case s13 =>
          intro w' m' hE hR
          rintro _ ⟨A8, c8, u8, rfl, o8⟩ Q hQ
          go_wp2
          exact hQ _ _ _ rfl trivial (Below.refl _ _) trivial
        case s14 =>
          intro w' m' hE hR
          rintro _ ⟨A8, c8, rfl, o8⟩ Q hQ
          go_wp2
          exact hQ _ _ _ rfl ⟨A8, c8, rfl, o8⟩ (Below.refl _ _) trivial
      intro w9 hE _
      rintro v0 - v1 - v2 - v3 - v4 - v5 - v6 - v7 - v8 - v9 - v10 - v11 - v12 - v13 - v14 ⟨A8, c8, rfl, o8⟩
      change wpList _ _ _ [_] _ _
      simp only [Act.put, List.setIfInBounds_toArray, List.set_cons_succ, List.set_cons_zero]
      have b9 := below_undrew hE
      go_wp2
      go_roundw
      case rel => exact ⟨k + 1, A8, c8, nx, by omega, by go_num, rfl, HSS, hnl, o8, bthen hbel b9⟩
      case measure => simp [intOf]; omega
    · obtain rfl : k = ps.length := by omega
      have HE := hide (show cur = storeT t n by rw [unhide HC, List.take_length, unhide HP])
      go_wp2
      go_ret
      rw [← unhide HE]
      exact ⟨A', c', rfl, own_base hown hw3, bthen hb3' hbel⟩
end Go.Proofs.YtefdhlfljpppfaaGreat
namespace Go.Proofs.YtefdhlfljpppfaaGreat
open Go.RowKit
set_option linter.unusedVariables false
set_option linter.unusedSimpArgs false

end Go.Proofs.YtefdhlfljpppfaaGreat
namespace Go.Proofs.YtefdhlfljpppfaaGreat
open Go.RowKit
set_option linter.unusedVariables false
set_option linter.unusedSimpArgs false

def askOk (t : Tr) (n key : Int) : Bool := treeB t && (inB n 0 ((t.blocks.length : Int) - 1) && inB key 0 31)
def askA (t : Tr) (n key : Int) : Ans := if askOk t n key = true then ⟨key, atL (storeT t n) key, proofL (storeT t n) key⟩ else ⟨0, 0, []⟩
theorem askA_no {t : Tr} {n key : Int} (h : askOk t n key = false) : askA t n key = ⟨0, 0, []⟩ := by rw [askA, if_neg (by simp [h])]
theorem askA_yes {t : Tr} {n key : Int} (h : askOk t n key = true) : askA t n key = ⟨key, atL (storeT t n) key, proofL (storeT t n) key⟩ := by rw [askA, if_pos h]
theorem storeT_ok {t : Tr} {n key : Int} (h : askOk t n key = true) : storeB (storeT t n) = true := by
  simp only [askOk, Bool.and_eq_true] at h
  rw [storeT_yes h.1 h.2.1]
  exact (storeL_ok (valOk_after h.1 (pathT t n) (fun x hx => pathT_mem hx))).1
theorem askA_len (t : Tr) (n key : Int) : (askA t n key).proof.length ≤ 5 := by
  unfold askA
  split
  · exact proofL_len _ _
  · simp
theorem info_ans3 : (Tryz.prog.info? 31).map (·.size) = some 3 := by kernel_rfl
theorem ans_one (k v : Int) (A : Option Addr) (n c : Nat) : (#[Value.int .i64 k, .int .i64 v, .slice A n c]).all (·.oneCell') = true := by
  rw [Array.all_eq_true_iff_forall_mem]
  intro x hx
  simp at hx
  rcases hx with rfl | rfl | rfl <;> rfl
theorem below_setRow {B : Nat} {a w : World} (hb : Below B a w) {g : Nat} (hg : B ≤ g) (ds : Array Value) : Below B a (w.setRow g ds) :=
  ⟨hb.os, hb.tape, hb.output, by rw [size_setRow]; exact hb.size, fun q hq => (setRow_other w g q ds (by omega)).trans (hb.block q hq)⟩
theorem own_setRow {w : World} {base : Nat} {e : TypeId} {size n c : Nat} {A : Option Addr} {xs : List Value} (h : w.ownsRow base e size (.slice A n c) n xs) {g : Nat} (hg : g < base) (ds : Array Value) : (w.setRow g ds).ownsRow base e size (.slice A n c) n xs :=
  own_keep h fun q hA hq => setRow_other w g q ds (by have := own_rng h q hA; omega)
set_option maxRecDepth 100000 in
set_option maxHeartbeats 4000000 in
theorem ask_impl (t : Tr) (A1 : Option Addr) (c1 : Nat) (A2 : Option Addr) (c2 : Nat) (A3 : Option Addr) (c3 : Nat) (n key : Int) (w : World) (h : TrR w t A1 A2 A3) (hb1 : t.base.length ≤ 1099511627776) (hb2 : t.blocks.length ≤ 1099511627776) (hbs : ∀ x ∈ t.blocks, x.list.length ≤ 1099511627776) (hb3 : t.before.length ≤ 1099511627776) :
    Calls Tryz.prog 9 #[.agg (trA t A1 c1 A2 c2 A3 c3), .int .i64 n, .int .i64 key] w fun e w' => ∃ A' c', e = .returned (.tuple #[.agg #[.int .i64 (askA t n key).key, .int .i64 (askA t n key).value, .slice A' (askA t n key).proof.length c'], .bool (askOk t n key)]) ∧ w'.ownsRow w.heap.size 3 1 (.slice A' (askA t n key).proof.length c') (askA t n key).proof.length ((askA t n key).proof.map (.int .i64)) ∧ Below w.heap.size w w' := by
  have HBS := hide hbs
  clear hbs
  obtain ⟨W, hW⟩ : ∃ W : World, W = (w.alloc (.cells (trA t A1 c1 A2 c2 A3 c3) 27)).alloc (.cells #[.int .i64 0, .int .i64 0, .slice none 0 0] 31) := ⟨_, rfl⟩
  have hb0 : Below w.heap.size w W := by rw [hW]; exact ((Below.refl _ _).alloc (Nat.le_refl _) _).alloc (by simp) _
  have K0 : Blk W w.heap.size 27 (trA t A1 c1 A2 c2 A3 c3) := by rw [hW]; exact (Blk.new _ _ _).alloc _
  have K1 : Blk W (w.heap.size + 1) 31 #[.int .i64 0, .int .i64 0, .slice none 0 0] := by
    rw [hW]
    have := Blk.new (w.alloc (.cells (trA t A1 c1 A2 c2 A3 c3) 27)) 31 #[.int .i64 0, .int .i64 0, .slice none 0 0]
    simpa using this
  have HR := hide (fun w' (hb : Below W.heap.size W w') => h.new (bthen hb0 hb))
  have hWs : w.heap.size + 1 < W.heap.size := K1.lt
  have HK := hide (fun w' (hb : Below W.heap.size W w') => K1.new_ hb)
  have BX := hide (fun w' (hb : Below W.heap.size W w') => show w'.cell? ⟨w.heap.size, 0, none⟩ = some (.slice A1 t.base.length c1) ∧ w'.cell? ⟨w.heap.size, 1, none⟩ = some (.slice A2 t.blocks.length c2) ∧ w'.cell? ⟨w.heap.size, 2, none⟩ = some (.slice A3 t.before.length c3) from ⟨(K0.new_ hb).cell 0, (K0.new_ hb).cell 1, (K0.new_ hb).cell 2⟩)
  have KV := treeValid_impl t A1 c1 A2 c2 A3 c3 W (unhide HR _ (Below.refl _ _)) hb1 hb2 (unhide HBS) hb3
  have KS := hide (fun w' (hb : Below W.heap.size W w') => storeOf_impl t A1 c1 A2 c2 A3 c3 n w' (unhide HR w' hb) hb1 hb2 (unhide HBS) hb3)
  have KH := hide (fun w' => has_impl t A1 c1 A2 c2 A3 c3 n w' hb2)
  obtain ⟨x0, x1, x2⟩ := unhide BX W (Below.refl _ _)
  simp only [trA] at K0 hW KV KS KH ⊢
  clear h K0 K1
  subst hW
  go_enter Tryz.func9, Tryz.ntmps9
  go_wp2_with fail
  refine KV.mono ?_
  rintro e w3 ⟨rfl, b3⟩
  clear KV x0 x1 x2
  obtain ⟨z0, z1, z2⟩ := unhide BX w3 b3
  cases hv : treeB t
  · have HF := hide (show askOk t n key = false by simp [askOk, hv])
    have HA := hide (askA_no (unhide HF))
    have K5 := hide (unhide HK w3 b3)
    go_wp2_with (refine wpList_store_row rfl 31 (.tmp 6) (.tmp 23) rfl (w.heap.size + 1) #[.int .i64 0, .int .i64 0, .slice none 0 0] rfl rfl 31 #[.int .i64 0, .int .i64 0, .slice none 0 0] (unhide K5) info_ans3 rfl (ans_one _ _ _ _ _) ?_)
    refine bodyPost_ret (v := .tuple #[.agg #[.int .i64 0, .int .i64 0, .slice none 0 0], .bool false]) (results_cell_tmp (p := 6) (q := 7) (ty := 31) rfl _ _ (w.heap.size + 1) 31 #[.int .i64 0, .int .i64 0, .slice none 0 0] (0, 0) _ rfl (blk_setRow (unhide K5)) Tryz.underlying31 rfl info_ans3) rfl ?_
    rw [unhide HA, unhide HF]
    exact ⟨none, 0, rfl, own_nil _ _ _ _, below_setRow (bthen hb0 b3) (by omega) _⟩
  have HV := hide hv
  clear hv
  cases hin : inB n 0 ((t.blocks.length : Int) - 1)
  · have HF := hide (show askOk t n key = false by simp [askOk, hin])
    have HA := hide (askA_no (unhide HF))
    go_wp2_with fail
    refine (unhide KH w3).mono ?_
    rintro e w4 ⟨rfl, b4⟩
    rw [hin]
    have b34 := bthen b3 b4
    obtain ⟨z0, z1, z2⟩ := unhide BX w4 b34
    have K5 := hide (unhide HK w4 b34)
    go_wp2_with (refine wpList_store_row rfl 31 (.tmp 6) (.tmp 23) rfl (w.heap.size + 1) #[.int .i64 0, .int .i64 0, .slice none 0 0] rfl rfl 31 #[.int .i64 0, .int .i64 0, .slice none 0 0] (unhide K5) info_ans3 rfl (ans_one _ _ _ _ _) ?_)
    refine bodyPost_ret (v := .tuple #[.agg #[.int .i64 0, .int .i64 0, .slice none 0 0], .bool false]) (results_cell_tmp (p := 6) (q := 7) (ty := 31) rfl _ _ (w.heap.size + 1) 31 #[.int .i64 0, .int .i64 0, .slice none 0 0] (0, 0) _ rfl (blk_setRow (unhide K5)) Tryz.underlying31 rfl info_ans3) rfl ?_
    rw [unhide HA, unhide HF]
    exact ⟨none, 0, rfl, own_nil _ _ _ _, below_setRow (bthen hb0 b34) (by omega) _⟩
  cases hkey : inB key 0 31
  · have HF := hide (show askOk t n key = false by simp [askOk, hkey])
    have HA := hide (askA_no (unhide HF))
    go_wp2_with fail
    refine (unhide KH w3).mono ?_
    rintro e w4 ⟨rfl, b4⟩
    rw [hin]
    have b34 := bthen b3 b4
    obtain ⟨z0, z1, z2⟩ := unhide BX w4 b34
    have K5 := hide (unhide HK w4 b34)
    go_wp2_with (first | (go_at_call 38; refine (isKey_any _ _).mono ?_; rintro e w' ⟨rfl, rfl⟩; rw [hkey]) | (refine wpList_store_row rfl 31 (.tmp 6) (.tmp 23) rfl (w.heap.size + 1) #[.int .i64 0, .int .i64 0, .slice none 0 0] rfl rfl 31 #[.int .i64 0, .int .i64 0, .slice none 0 0] (unhide K5) info_ans3 rfl (ans_one _ _ _ _ _) ?_))
    refine bodyPost_ret (v := .tuple #[.agg #[.int .i64 0, .int .i64 0, .slice none 0 0], .bool false]) (results_cell_tmp (p := 6) (q := 7) (ty := 31) rfl _ _ (w.heap.size + 1) 31 #[.int .i64 0, .int .i64 0, .slice none 0 0] (0, 0) _ rfl (blk_setRow (unhide K5)) Tryz.underlying31 rfl info_ans3) rfl ?_
    rw [unhide HA, unhide HF]
    exact ⟨none, 0, rfl, own_nil _ _ _ _, below_setRow (bthen hb0 b34) (by omega) _⟩
  have HF := hide (show askOk t n key = true by rw [askOk, unhide HV, hin, hkey]; rfl)
  have HA := hide (askA_yes (unhide HF))
  have HSB := hide (storeT_ok (unhide HF))
  have hsl := storeT_len t n
  have HVA := hide (show valAt (storeT t n) key = atL (storeT t n) key by rw [valAt, if_pos ⟨unhide HSB, hkey⟩])
  go_wp2_with fail
  refine (unhide KH w3).mono ?_
  rintro e w4 ⟨rfl, b4⟩
  rw [hin]
  have b34 := bthen b3 b4
  obtain ⟨z0, z1, z2⟩ := unhide BX w4 b34
  go_wp2_with (go_at_call 38; refine (isKey_any _ _).mono ?_; rintro e w' ⟨rfl, rfl⟩; rw [hkey])
  refine (unhide KS w4 b34).mono ?_
  rintro e w5 ⟨A5, c5, rfl, o5, b5⟩
  have b35 := bthen b34 b5
  have r5 := own_rd o5
  go_wp2_with fail
  refine (valueAt_impl A5 c5 (storeT t n) key w5 r5 (by omega)).mono ?_
  rintro e w6 ⟨rfl, b6⟩
  have b36 := bthen b35 b6
  have r6 := r5.new b6
  rw [unhide HVA]
  go_wp2_with fail
  refine (proofOf_impl A5 c5 (storeT t n) key w6 r6 (by omega)).mono ?_
  rintro e w7 ⟨A7, c7, rfl, o7, b7⟩
  have b37 := bthen b36 b7
  have hs6 := (b36).size
  have K5 := hide (unhide HK w7 b37)
  go_wp2_with (refine wpList_store_row rfl 31 (.tmp 6) (.tmp 34) rfl (w.heap.size + 1) #[.int .i64 key, .int .i64 (atL (storeT t n) key), .slice A7 (proofL (storeT t n) key).length c7] rfl rfl 31 #[.int .i64 0, .int .i64 0, .slice none 0 0] (unhide K5) info_ans3 rfl (ans_one _ _ _ _ _) ?_)
  refine bodyPost_ret (v := .tuple #[.agg #[.int .i64 key, .int .i64 (atL (storeT t n) key), .slice A7 (proofL (storeT t n) key).length c7], .bool true]) (results_cell_tmp (p := 6) (q := 7) (ty := 31) rfl _ _ (w.heap.size + 1) 31 #[.int .i64 key, .int .i64 (atL (storeT t n) key), .slice A7 (proofL (storeT t n) key).length c7] (0, 0) _ rfl (blk_setRow (unhide K5)) Tryz.underlying31 rfl info_ans3) rfl ?_
  rw [unhide HA, unhide HF]
  exact ⟨A7, c7, rfl, own_base (own_setRow o7 (by omega) _) (by omega), below_setRow (bthen hb0 b37) (by omega) _⟩
set_option maxRecDepth 100000 in
set_option maxHeartbeats 4000000 in
theorem ask_spec (t : Tr) (A1 : Option Addr) (c1 : Nat) (A2 : Option Addr) (c2 : Nat) (A3 : Option Addr) (c3 : Nat) (n key : Int) (w : World) (h : TrR w t A1 A2 A3) (hb1 : t.base.length ≤ 1099511627776) (hb2 : t.blocks.length ≤ 1099511627776) (hbs : ∀ x ∈ t.blocks, x.list.length ≤ 1099511627776) (hb3 : t.before.length ≤ 1099511627776) :
    Calls Tryz.prog 10 #[.agg (trA t A1 c1 A2 c2 A3 c3), .int .i64 n, .int .i64 key] w fun e w' => ∃ A' c', e = .returned (.tuple #[.agg #[.int .i64 (askA t n key).key, .int .i64 (askA t n key).value, .slice A' (askA t n key).proof.length c'], .bool (askOk t n key)]) ∧ w'.ownsRow w.heap.size 3 1 (.slice A' (askA t n key).proof.length c') (askA t n key).proof.length ((askA t n key).proof.map (.int .i64)) ∧ Below w.heap.size w w' := by
  have HBS := hide hbs
  clear hbs
  obtain ⟨W, hW⟩ : ∃ W : World, W = (w.alloc (.cells (trA t A1 c1 A2 c2 A3 c3) 27)).alloc (.cells #[.int .i64 0, .int .i64 0, .slice none 0 0] 31) := ⟨_, rfl⟩
  have hb0 : Below w.heap.size w W := by rw [hW]; exact ((Below.refl _ _).alloc (Nat.le_refl _) _).alloc (by simp) _
  have K0 : Blk W w.heap.size 27 (trA t A1 c1 A2 c2 A3 c3) := by rw [hW]; exact (Blk.new _ _ _).alloc _
  have K1 : Blk W (w.heap.size + 1) 31 #[.int .i64 0, .int .i64 0, .slice none 0 0] := by
    rw [hW]
    have := Blk.new (w.alloc (.cells (trA t A1 c1 A2 c2 A3 c3) 27)) 31 #[.int .i64 0, .int .i64 0, .slice none 0 0]
    simpa using this
  have HR := hide (fun w' (hb : Below W.heap.size W w') => h.new (bthen hb0 hb))
  have hWs : w.heap.size + 1 < W.heap.size := K1.lt
  have HK := hide (fun w' (hb : Below W.heap.size W w') => K1.new_ hb)
  have BX := hide (fun w' (hb : Below W.heap.size W w') => show w'.cell? ⟨w.heap.size, 0, none⟩ = some (.slice A1 t.base.length c1) ∧ w'.cell? ⟨w.heap.size, 1, none⟩ = some (.slice A2 t.blocks.length c2) ∧ w'.cell? ⟨w.heap.size, 2, none⟩ = some (.slice A3 t.before.length c3) from ⟨(K0.new_ hb).cell 0, (K0.new_ hb).cell 1, (K0.new_ hb).cell 2⟩)
  have KV := treeValid_spec t A1 c1 A2 c2 A3 c3 W (unhide HR _ (Below.refl _ _)) hb1 hb2 (unhide HBS) hb3
  have KS := hide (fun w' (hb : Below W.heap.size W w') => storeOf_spec t A1 c1 A2 c2 A3 c3 n w' (unhide HR w' hb) hb1 hb2 (unhide HBS) hb3)
  have KH := True.intro
  obtain ⟨x0, x1, x2⟩ := unhide BX W (Below.refl _ _)
  simp only [trA] at K0 hW KV KS  ⊢
  clear h K0 K1
  subst hW
  go_enter Tryz.func10, Tryz.ntmps10
  go_wp2_with fail
  refine KV.mono ?_
  rintro e w3 ⟨rfl, b3⟩
  clear KV x0 x1 x2
  obtain ⟨z0, z1, z2⟩ := unhide BX w3 b3
  cases hv : treeB t
  · have HF := hide (show askOk t n key = false by simp [askOk, hv])
    have HA := hide (askA_no (unhide HF))
    have K5 := hide (unhide HK w3 b3)
    go_wp2_with (refine wpList_store_row rfl 31 (.tmp 6) (.tmp 26) rfl (w.heap.size + 1) #[.int .i64 0, .int .i64 0, .slice none 0 0] rfl rfl 31 #[.int .i64 0, .int .i64 0, .slice none 0 0] (unhide K5) info_ans3 rfl (ans_one _ _ _ _ _) ?_)
    refine bodyPost_ret (v := .tuple #[.agg #[.int .i64 0, .int .i64 0, .slice none 0 0], .bool false]) (results_cell_tmp (p := 6) (q := 7) (ty := 31) rfl _ _ (w.heap.size + 1) 31 #[.int .i64 0, .int .i64 0, .slice none 0 0] (0, 0) _ rfl (blk_setRow (unhide K5)) Tryz.underlying31 rfl info_ans3) rfl ?_
    rw [unhide HA, unhide HF]
    exact ⟨none, 0, rfl, own_nil _ _ _ _, below_setRow (bthen hb0 b3) (by omega) _⟩
  have HV := hide hv
  clear hv
  cases hin : inB n 0 ((t.blocks.length : Int) - 1)
  · have HF := hide (show askOk t n key = false by simp [askOk, hin])
    have HA := hide (askA_no (unhide HF))
    have K5 := hide (unhide HK w3 b3)
    go_wp2_with (first | (go_at_call 41; refine (l1In_any _ _ _ _).mono ?_; rintro e w' ⟨rfl, rfl⟩; rw [hin]) | (refine wpList_store_row rfl 31 (.tmp 6) (.tmp 26) rfl (w.heap.size + 1) #[.int .i64 0, .int .i64 0, .slice none 0 0] rfl rfl 31 #[.int .i64 0, .int .i64 0, .slice none 0 0] (unhide K5) info_ans3 rfl (ans_one _ _ _ _ _) ?_))
    refine bodyPost_ret (v := .tuple #[.agg #[.int .i64 0, .int .i64 0, .slice none 0 0], .bool false]) (results_cell_tmp (p := 6) (q := 7) (ty := 31) rfl _ _ (w.heap.size + 1) 31 #[.int .i64 0, .int .i64 0, .slice none 0 0] (0, 0) _ rfl (blk_setRow (unhide K5)) Tryz.underlying31 rfl info_ans3) rfl ?_
    rw [unhide HA, unhide HF]
    exact ⟨none, 0, rfl, own_nil _ _ _ _, below_setRow (bthen hb0 b3) (by omega) _⟩
  cases hkey : inB key 0 31
  · have HF := hide (show askOk t n key = false by simp [askOk, hkey])
    have HA := hide (askA_no (unhide HF))
    have K5 := hide (unhide HK w3 b3)
    go_wp2_with (first | (go_at_call_of 41 [.int .i64 n, .int .i64 0, .int .i64 ((t.blocks.length : Int) - 1)]; refine (l1In_any _ _ _ _).mono ?_; rintro e w' ⟨rfl, rfl⟩; rw [hin]) | (go_at_call 41; refine (l1In_any _ _ _ _).mono ?_; rintro e w' ⟨rfl, rfl⟩; first | rw [hin] | rw [hkey]) | (refine wpList_store_row rfl 31 (.tmp 6) (.tmp 26) rfl (w.heap.size + 1) #[.int .i64 0, .int .i64 0, .slice none 0 0] rfl rfl 31 #[.int .i64 0, .int .i64 0, .slice none 0 0] (unhide K5) info_ans3 rfl (ans_one _ _ _ _ _) ?_))
    refine bodyPost_ret (v := .tuple #[.agg #[.int .i64 0, .int .i64 0, .slice none 0 0], .bool false]) (results_cell_tmp (p := 6) (q := 7) (ty := 31) rfl _ _ (w.heap.size + 1) 31 #[.int .i64 0, .int .i64 0, .slice none 0 0] (0, 0) _ rfl (blk_setRow (unhide K5)) Tryz.underlying31 rfl info_ans3) rfl ?_
    rw [unhide HA, unhide HF]
    exact ⟨none, 0, rfl, own_nil _ _ _ _, below_setRow (bthen hb0 b3) (by omega) _⟩
  have HF := hide (show askOk t n key = true by rw [askOk, unhide HV, hin, hkey]; rfl)
  have HA := hide (askA_yes (unhide HF))
  have HSB := hide (storeT_ok (unhide HF))
  have hsl := storeT_len t n
  go_wp2_with (go_at_call 41; refine (l1In_any _ _ _ _).mono ?_; rintro e w' ⟨rfl, rfl⟩; first | rw [hin] | rw [hkey])
  refine (unhide KS w3 b3).mono ?_
  rintro e w5 ⟨A5, c5, rfl, o5, b5⟩
  have b35 := bthen b3 b5
  have r5 := own_rd o5
  go_wp2_with fail
  refine (l2At_any A5 c5 (storeT t n) key w5 r5 (by omega)).mono ?_
  rintro e w' ⟨rfl, rfl⟩
  go_wp2_with fail
  refine (proofOf_spec A5 c5 (storeT t n) key w5 r5 (by omega)).mono ?_
  rintro e w7 ⟨A7, c7, rfl, o7, b7⟩
  have b37 := bthen b35 b7
  have hs6 := (b35).size
  have K5 := hide (unhide HK w7 b37)
  go_wp2_with (refine wpList_store_row rfl 31 (.tmp 6) (.tmp 37) rfl (w.heap.size + 1) #[.int .i64 key, .int .i64 (atL (storeT t n) key), .slice A7 (proofL (storeT t n) key).length c7] rfl rfl 31 #[.int .i64 0, .int .i64 0, .slice none 0 0] (unhide K5) info_ans3 rfl (ans_one _ _ _ _ _) ?_)
  refine bodyPost_ret (v := .tuple #[.agg #[.int .i64 key, .int .i64 (atL (storeT t n) key), .slice A7 (proofL (storeT t n) key).length c7], .bool true]) (results_cell_tmp (p := 6) (q := 7) (ty := 31) rfl _ _ (w.heap.size + 1) 31 #[.int .i64 key, .int .i64 (atL (storeT t n) key), .slice A7 (proofL (storeT t n) key).length c7] (0, 0) _ rfl (blk_setRow (unhide K5)) Tryz.underlying31 rfl info_ans3) rfl ?_
  rw [unhide HA, unhide HF]
  exact ⟨A7, c7, rfl, own_base (own_setRow o7 (by omega) _) (by omega), below_setRow (bthen hb0 b37) (by omega) _⟩
end Go.Proofs.YtefdhlfljpppfaaGreat
namespace Go.Proofs.YtefdhlfljpppfaaGreat
open Go.RowKit
set_option linter.unusedVariables false
set_option linter.unusedSimpArgs false

theorem grow_step {α : Type} {O : ORel α} {R : Rel α} {s : Nat} (G : OGood O R) (GR : Good R s) {wr w3 w7 : World} {base : Nat} {e : TypeId} {A' A7 : Option Addr} {c' c7 n m : Nat} {xs : List α} {vs : List (List Value)} {fs : List (List Nat)} {x : α} {cs : List Value} {f : List Nat} {o : Obj}
    (hall : AllO O wr xs vs fs) (hnd : fs.flatten.Nodup) (hF : ∀ q ∈ fs.flatten, base ≤ q ∧ A' ≠ some ⟨q, 0, none⟩) (hown : wr.ownsRow base e s (.slice A' n c') n vs.flatten) (hbase : base ≤ wr.heap.size)
    (b3 : Below wr.heap.size wr w3) (hx : O x w3 cs f) (hfn : f.Nodup) (hfb : ∀ q ∈ f, wr.heap.size ≤ q)
    (ch7 : Chg (fun g => A' = some ⟨g, 0, none⟩) (w3.alloc o) w7) (d7 : A7 = A' ∨ (A7 = some ⟨(w3.alloc o).heap.size, 0, none⟩ ∧ Below (w3.alloc o).heap.size (w3.alloc o) w7)) (o7 : w7.ownsRow base e s (.slice A7 m c7) m (vs.flatten ++ cs)) :
    AllO O w7 (xs ++ [x]) (vs ++ [cs]) (fs ++ [f]) ∧ (fs ++ [f]).flatten.Nodup ∧ (∀ q ∈ (fs ++ [f]).flatten, base ≤ q ∧ A7 ≠ some ⟨q, 0, none⟩) ∧ w7.ownsRow base e s (.slice A7 m c7) m (vs ++ [cs]).flatten := by
  have hl := hall.lt G
  have hl3 : ∀ q ∈ f, q < w3.heap.size := by
    have := (AllO.one hx).lt G
    intro q hq
    exact this q (by simpa using hq)
  have hs3 := b3.size
  have hrg := own_rng hown
  have hall3 := (hall.keep G (w' := w3) fun q _ hq => b3.block q hq).append (AllO.one hx)
  have key : ∀ q ∈ (fs ++ [f]).flatten, base ≤ q ∧ q < w3.heap.size ∧ A' ≠ some ⟨q, 0, none⟩ := fun q hq => by
    rw [List.flatten_append] at hq
    rcases List.mem_append.1 hq with hq | hq
    · have h1 := hF q hq
      have h2 := hl q hq
      exact ⟨h1.1, by omega, h1.2⟩
    · have hq : q ∈ f := by simpa using hq
      have h1 := hfb q hq
      exact ⟨by omega, hl3 q hq, fun e => by have := hrg q e; omega⟩
  refine ⟨hall3.keep G fun q hq hqw => ?_, ?_, fun q hq => ?_, by rw [List.flatten_append]; simpa using o7⟩
  · have h1 := key q hq
    rw [ch7.block q (by simp; omega) h1.2.2]
    exact Below.heap_alloc _ _ _ hqw
  · rw [List.flatten_append]
    exact fresh_nodup (m := wr.heap.size) hnd (by simpa using hfn) hl (fun q hq => hfb q (by simpa using hq))
  · have h1 := key q hq
    refine ⟨h1.1, fun e => ?_⟩
    rcases d7 with rfl | ⟨rfl, _⟩
    · exact h1.2.2 e
    · injection e with e; injection e with e; simp at e; omega
theorem grow_done {α : Type} {O : ORel α} {w : World} {base : Nat} {e : TypeId} {s : Nat} {A : Option Addr} {c : Nat} {xs : List α} {vs : List (List Value)} {fs : List (List Nat)}
    (hall : AllO O w xs vs fs) (hnd : fs.flatten.Nodup) (hF : ∀ q ∈ fs.flatten, base ≤ q ∧ A ≠ some ⟨q, 0, none⟩) (hown : w.ownsRow base e s (.slice A xs.length c) xs.length vs.flatten) :
    OwnD O e s w A c xs (blk A ++ fs.flatten) ∧ ∀ k ∈ blk A ++ fs.flatten, base ≤ k := by
  refine ⟨⟨vs, fs, hall, own_base0 hown, rfl, ?_⟩, fun q hq => ?_⟩
  · rw [List.nodup_append]
    exact ⟨blk_nodup _, hnd, fun x hx y hy e => (hF y hy).2 (e ▸ (blk_own hown hx).1)⟩
  · rcases List.mem_append.1 hq with hq | hq
    · exact (blk_own hown hq).2.1
    · exact (hF q hq).1
theorem ownD_nil {α : Type} (O : ORel α) (e : TypeId) (s : Nat) (w : World) : OwnD O e s w none 0 [] [] := ⟨[], [], trivial, own_nil _ _ _ _, rfl, List.nodup_nil⟩

/-- only variables of the type t that lie at or above m are changed -/
structure EB (m : Nat) (t : TypeId) (a b : World) : Prop where
  os : b.os = a.os
  tape : b.tape = a.tape
  output : b.output = a.output
  size : a.heap.size ≤ b.heap.size
  blk : ∀ k, k < a.heap.size → b.heap[k]? = a.heap[k]? ∨ (m ≤ k ∧ ∃ old, a.heap[k]? = some (.cells old t (0, 0)))
theorem EB.refl (m : Nat) (t : TypeId) (a : World) : EB m t a a := ⟨rfl, rfl, rfl, Nat.le_refl _, fun _ _ => .inl rfl⟩
theorem EB.trans {m : Nat} {t : TypeId} {a b c : World} (h1 : EB m t a b) (h2 : EB m t b c) : EB m t a c :=
  ⟨h2.os.trans h1.os, h2.tape.trans h1.tape, h2.output.trans h1.output, Nat.le_trans h1.size h2.size, fun k hk => by
    rcases h1.blk k hk with h | h
    · rcases h2.blk k (Nat.lt_of_lt_of_le hk h1.size) with g | g
      · exact .inl (g.trans h)
      · exact .inr ⟨g.1, by rw [← h]; exact g.2⟩
    · exact .inr h⟩
theorem EB.of_new {m : Nat} {t : TypeId} {a b : World} (h : Below a.heap.size a b) : EB m t a b := ⟨h.os, h.tape, h.output, h.size, fun k hk => .inl (h.block k hk)⟩
theorem EB.undrew {m : Nat} {t : TypeId} {a b : World} (h : EB m t a.drew b) : EB m t a b := ⟨h.os, h.tape, h.output, h.size, h.blk⟩
theorem EB.below {m : Nat} {t : TypeId} {a b : World} (h : EB m t a b) (hm : m ≤ a.heap.size) : Below m a b :=
  ⟨h.os, h.tape, h.output, h.size, fun k hk => by
    rcases h.blk k (by omega) with g | g
    · exact g
    · omega⟩
theorem own_EB {m : Nat} {t : TypeId} {a b : World} {base : Nat} {e : TypeId} {s n c : Nat} {A : Option Addr} {xs : List Value} (h : a.ownsRow base e s (.slice A n c) n xs) (hE : EB m t a b) (hne : e ≠ t) : b.ownsRow base e s (.slice A n c) n xs := by
  refine own_keep h fun g hA hg => ?_
  rcases hE.blk g hg with h1 | ⟨_, old, h1⟩
  · exact h1
  · rcases h.2 with ⟨hv, _⟩ | ⟨g', cap, cur, hv, _, hh, _⟩
    · injection hv with hv; rw [hA] at hv; cases hv
    · injection hv with hv
      rw [hA] at hv
      injection hv with hv
      injection hv with hv
      subst hv
      rw [hh] at h1
      injection h1 with h1
      injection h1 with h2 h3 h4
      exact absurd h3 hne
/-- a variable that is laid (its address is vp), and later stored into -/
def BoxR (m : Nat) (t : TypeId) (z : Array Value) (Q : Array Value → World → Prop) (b : Bool) (vp : Value) (w : World) : Prop :=
  (b = false ∧ (vp = undef ∨ ∃ g, vp = .pointer (some ⟨g, 0, none⟩) ∧ m ≤ g ∧ Blk w g t z)) ∨ (b = true ∧ ∃ g cs, vp = .pointer (some ⟨g, 0, none⟩) ∧ m ≤ g ∧ Blk w g t cs ∧ Q cs w)
theorem BoxR.new {m : Nat} {t : TypeId} {z : Array Value} {Q : Array Value → World → Prop} {b : Bool} {vp : Value} {w w' : World} (h : BoxR m t z Q b vp w) (hb : Below w.heap.size w w') (hQ : ∀ cs, Q cs w → Q cs w') : BoxR m t z Q b vp w' := by
  rcases h with ⟨h1, h | ⟨g, h2, h3, h4⟩⟩ | ⟨h1, g, cs, h2, h3, h4, h5⟩
  · exact .inl ⟨h1, .inl h⟩
  · exact .inl ⟨h1, .inr ⟨g, h2, h3, h4.new_ hb⟩⟩
  · exact .inr ⟨h1, g, cs, h2, h3, h4.new_ hb, hQ cs h5⟩
end Go.Proofs.YtefdhlfljpppfaaGreat
namespace Go.Proofs.YtefdhlfljpppfaaGreat
open Go.RowKit
set_option linter.unusedVariables false
set_option linter.unusedSimpArgs false

/-- the operations of the head have come up in part; then those of the tail, in order -/
def LInvX (P : Program) (l : List Oper) (nh : Nat) (a0 : Go.Act) (w0 : World) (F : Nat → Value → World → Prop) (E : World → World → Prop) (p : Nat) (R : Array Bool → Value → World → Prop)
    (Q : Exit → Go.Act → World → Prop) (listed : Array Bool) (a : Go.Act) (w : World) : Prop :=
  listed.size = l.length ∧ (∀ i j, listed.getD i false = true → has (clOf l) i j = true → listed.getD j false = true) ∧
  ((∃ i, i < nh ∧ listed.getD i false = false ∧ ∃ vs, Agree l nh a0 listed vs a ∧ (∀ j, j < nh → listed.getD j false = true → F j (vs j) w) ∧ E w0 w ∧ R listed (vs p) w) ∨
   (∃ k, nh + k ≤ l.length ∧ (∀ i, listed.getD i false = true ↔ i < nh + k) ∧ wpList P l.toArray Q (l.drop (nh + k)) a w))

theorem wp_region_setX {P : Program} {id : Nat} {l : List Oper} {Q : Exit → Go.Act → World → Prop} {a0 : Go.Act} {w : World} (hm : P.follows .mixedOrders = true)
    (head : List (Nat × Option Tmp)) (deps : List (List (Nat × Option Tmp))) (hok : okAll l head deps = true)
    (F : Nat → Value → World → Prop) (E : World → World → Prop) (p : Nat) (R : Array Bool → Value → World → Prop)
    (hEr : ∀ w, E w w) (hEt : ∀ a b c, E a b → E b c → E a c) (hFE : ∀ i v a b, i < head.length → F i v a → E a b → F i v b)
    (hR0 : R (Array.replicate l.toArray.size false) undef w.drew)
    (hstep : steps (fun i o => ∀ w' (L : Array Bool) (vp : Value), E w.drew w' → L.size = l.length → L.getD i false = false → (∀ i' j, L.getD i' false = true → has (clOf l) i' j = true → L.getD j false = true) → R L vp w' → tele (fun j v w => F j v w ∧ (j = p → v = vp)) w' (fun c => ∀ Q' : Exit → Go.Act → World → Prop, (∀ v a'' w'', a'' = c.put o.dst v → F i v w'' → E w' w'' → R (L.setIfInBounds i true) (if i = p then v else vp) w'' → Q' .normal a'' w'') → wpList P l.toArray Q' [o] c w') (deps.getD i []) a0) 0 (l.take head.length))
    (hdone : ∀ w' (L : Array Bool) (vp : Value), E w.drew w' → (∀ j, j < head.length → L.getD j false = true) → R L vp w' → tele (fun j v w => F j v w ∧ (j = p → v = vp)) w' (fun c => wpList P l.toArray Q (l.drop head.length) c w') head a0) :
    (Code.region id l.toArray true).wp P Q a0 w := by
  simp only [okAll, Bool.and_eq_true, decide_eq_true_eq] at hok
  obtain ⟨⟨⟨⟨⟨⟨⟨⟨hnh, hCl0⟩, hDeps⟩, hLook⟩, hDst⟩, hTail⟩, hSel⟩, hPairs⟩, hHead⟩ := hok
  simp only [okHead, Bool.and_eq_true, beq_iff_eq, List.all_eq_true] at hHead
  obtain ⟨hHead1, hHead2⟩ := hHead
  have pair1 : ∀ i, i < head.length → ∀ p ∈ deps.getD i [], dstOf l p.1 = p.2 := by
    intro i hi p hp
    simp only [okPairs, List.all_eq_true, List.mem_range] at hPairs
    simpa using hPairs i hi p hp
  have fst1 : ∀ i, (fsts deps).getD i [] = (deps.getD i []).map Prod.fst := by
    intro i
    unfold fsts
    rw [List.getD_eq_getElem?_getD, List.getD_eq_getElem?_getD, List.getElem?_map]
    cases deps[i]? <;> rfl
  generalize hnhe : head.length = nh at *
  simp only [okCl, Bool.and_eq_true] at hCl0
  obtain ⟨hBack, hCl⟩ := hCl0
  -- the checks, as facts
  have cl1 : ∀ i j, i < l.length → has (clOf l) i j = true → ∃ o, l[i]? = some o ∧ ∃ e ∈ o.after, Region.binds .any e = true ∧ (e.on = j ∨ has (clOf l) e.on j = true) := by
    intro i j hi hj
    simp only [List.all_eq_true, List.mem_range] at hCl
    have h1 := hCl i hi
    rw [List.getElem?_eq_getElem hi] at h1
    simp only [Option.map_some, Option.getD_some, beq_iff_eq] at h1
    unfold has at hj
    rw [h1] at hj
    rcases clRow_from _ _ hj with h | ⟨e, he, hb, h⟩
    · simp at h
    · exact ⟨l[i], List.getElem?_eq_getElem hi, e, by simpa using he, hb, h⟩
  have back1 : ∀ i (hi : i < l.length), ∀ e ∈ (l[i]).after, Region.binds .any e = true → e.on < i := by
    intro i hi e he hb
    simp only [List.all_eq_true, List.mem_range] at hBack
    have h1 := hBack i hi
    rw [List.getElem?_eq_getElem hi] at h1
    simp only [Option.map_some, Option.getD_some] at h1
    have h2 := Array.all_eq_true_iff_forall_mem.1 h1 e he
    simpa [hb] using h2
  have gd : ∀ (L : Array Bool) j, j < L.size → L.getD j true = L.getD j false := by
    intro L j hj
    rw [Array.getD_eq_getD_getElem?, Array.getD_eq_getD_getElem?]
    simp [hj]
  have dep1 : ∀ i j, i < nh → j ∈ (fsts deps).getD i [] → j < nh ∧ has (clOf l) i j = true := by
    intro i j hi hj
    simp only [okDeps, List.all_eq_true, List.mem_range] at hDeps
    have h1 := hDeps i hi j hj
    simpa using h1
  have look1 : ∀ i o t j, i < nh → l[i]? = some o → t ∈ o.looksAt l.toArray → j < nh → dstOf l j = some t → j ∈ (fsts deps).getD i [] ∨ has (clOf l) j i = true ∨ j = i := by
    intro i o t j hi ho ht hj hd
    simp only [okLook, List.all_eq_true, List.mem_range] at hLook
    have h1 := hLook i hi
    rw [ho] at h1
    simp only [Option.map_some, Option.getD_some, List.all_eq_true, List.mem_range] at h1
    have h2 := h1 t ht j hj
    rw [hd] at h2
    simp at h2
    rcases h2 with (h2 | h2) | h2
    · exact .inl (by simpa using h2)
    · exact .inr (.inl (by simpa using h2))
    · exact .inr (.inr h2)
  have dst1 : ∀ i j t, i < nh → j < nh → dstOf l i = some t → dstOf l j = some t → i = j := by
    intro i j t hi hj h1 h2
    simp only [okDst, List.all_eq_true, List.mem_range] at hDst
    have h3 := hDst i hi j hj
    rw [h1, h2] at h3
    simpa using h3
  have tail1 : ∀ i j, i < l.length → nh ≤ i → j < i → has (clOf l) i j = true := by
    intro i j hi hn hj
    simp only [okTail, List.all_eq_true, List.mem_range] at hTail
    have h1 := hTail i hi
    simp only [Bool.or_eq_true, decide_eq_true_eq, List.all_eq_true, List.mem_range] at h1
    exact (h1.resolve_left (by omega)) j hj
  refine wp_region_any hm (wpAny_inv (I := LInvX P l nh a0 w.drew F E p R Q) ?_ ?_ _ _ _ _ ?_ ?_)
  · -- a step
    rintro listed a w' i ⟨hsz, hcl, hI⟩ hr
    obtain ⟨hun, hil⟩ := ready_get hr
    have hil : i < l.length := by simpa using hil
    have ho : l.toArray[i]? = some l[i] := by simp [hil]
    have hol : l[i]? = some l[i] := List.getElem?_eq_getElem hil
    have hall : ∀ j, has (clOf l) i j = true → listed.getD j false = true := by
      intro j hj
      obtain ⟨o, ho', e, he, hb, h2⟩ := cl1 i j hil hj
      rw [hol] at ho'
      injection ho' with ho'
      subst ho'
      have h3 := ready_after hr ho e he hb
      rcases h2 with h2 | h2
      · rwa [h2] at h3
      · exact hcl _ _ h3 h2
    have hcl' : ∀ i' j, (listed.setIfInBounds i true).getD i' false = true → has (clOf l) i' j = true → (listed.setIfInBounds i true).getD j false = true := by
      intro i' j h1 h2
      rw [set_get hun] at h1 ⊢
      rcases h1 with h1 | h1
      · subst h1; exact .inr (hall j h2)
      · exact .inr (hcl _ _ h1 h2)
    have hunl : listed.getD i false = false := by rw [Array.getD_eq_getD_getElem?, hun]; rfl
    rcases hI with ⟨i0, hi0, hi0u, vs, hag, hF, hE, hR⟩ | ⟨k, hk, hlk, hwp⟩
    · have hinh : i < nh := by
        rcases Nat.lt_or_ge i nh with h | h
        · exact h
        · have := hall i0 (tail1 i i0 hil h (by omega))
          rw [hi0u] at this
          cases this
      have hst := steps_get hstep (show (l.take nh)[i]? = some l[i] by rw [List.getElem?_take]; simp [hinh, hil])
      rw [Nat.zero_add] at hst
      have hgo := tele_fill vs _ (pair1 i hinh) _ (hst w' listed (vs p) hE hsz hunl hcl hR) (fun j hj => by rw [← fst1] at hj; exact ⟨hF j (dep1 i j hinh hj).1 (hall j (dep1 i j hinh hj).2), fun h => by rw [h]⟩)
      replace hgo := hgo (LPost fun a'' w'' => ∃ v, a'' = (fillA l vs a0 ((deps.getD i []).map Prod.fst)).put (l[i]).dst v ∧ F i v w'' ∧ E w' w'' ∧ R (listed.setIfInBounds i true) (if i = p then v else vs p) w'') (fun v a'' w'' h1 h2 h3 h4 => ⟨v, h1, h2, h3, h4⟩)
      rw [← fst1] at hgo
      -- the frames agree on what is looked at
      have hlook : ∀ t ∈ (l[i]).looksAt l.toArray, a.tmps[t]? = (fillA l vs a0 ((fsts deps).getD i [])).tmps[t]? := by
        intro t ht
        by_cases hex : ∃ j ∈ (fsts deps).getD i [], dstOf l j = some t
        · obtain ⟨j, hj, hd⟩ := hex
          obtain ⟨hjn, hjc⟩ := dep1 i j hinh hj
          rw [hag.new t j hjn (by rw [gd _ _ (by omega)]; exact hall j hjc) hd]
          exact (fill_get vs _ _ hj hd (fun j' hj' hd' => dst1 _ _ t (dep1 i j' hinh hj').1 hjn hd' hd)).symm
        · rw [fill_other vs _ _ (fun j hj hd => hex ⟨j, hj, hd⟩)]
          refine hag.old t fun j hj hlj hd => ?_
          rcases look1 i _ t j hinh hol ht hj hd with h | h | h
          · exact hex ⟨j, h, hd⟩
          · have hlj' : listed.getD j false = true := by rw [← gd _ _ (by omega)]; exact hlj
            have := hcl _ _ hlj' h
            rw [hunl] at this
            cases this
          · subst h
            rw [gd _ _ (by omega), hunl] at hlj
            cases hlj
      have hop : ∀ x ∈ (l[i]).op.operands, a.eval x = (fillA l vs a0 ((fsts deps).getD i [])).eval x := fun x hx => eval_of_get fun t e => hlook t (by
        subst e
        exact List.mem_append_left _ (List.mem_filterMap.2 ⟨.tmp t, by simpa using hx, rfl⟩))
      have hwant : Region.wanted l[i] (yielded l.toArray a.tmps) = Region.wanted l[i] (yielded l.toArray (fillA l vs a0 ((fsts deps).getD i [])).tmps) := by
        unfold Region.wanted
        cases hg : (l[i]).guard with
        | none => rfl
        | some gw =>
          obtain ⟨g, want⟩ := gw
          have hy : yielded l.toArray a.tmps g = yielded l.toArray (fillA l vs a0 ((fsts deps).getD i [])).tmps g := by
            unfold yielded
            cases ht : (l.toArray[g]?).bind (·.dst) with
            | none => rfl
            | some t =>
              have := hlook t (by simp only [Oper.looksAt, hg]; exact List.mem_append_right _ (by rw [ht]; simp))
              simp only [Option.bind_some, this]
          simp only [hy]
      -- the new state
      have hnew : ∀ v w'', F i v w'' → E w' w'' → R (listed.setIfInBounds i true) (if i = p then v else vs p) w'' → LInvX P l nh a0 w.drew F E p R Q (listed.setIfInBounds i true) (a.put (l[i]).dst v) w'' := by
        intro v w'' hFv hEv hRv
        have hdi : dstOf l i = (l[i]).dst := by simp [dstOf, hol]
        have hag' : Agree l nh a0 (listed.setIfInBounds i true) (fun j => if j = i then v else vs j) (a.put (l[i]).dst v) := by
          refine ⟨(put_size _ _ _).trans hag.size, (put_defers _ _ _).trans hag.defers, fun t ht => ?_, fun t j hj hlj hd => ?_⟩
          · have h1 : (l[i]).dst ≠ some t := by
              rw [← hdi]
              exact ht i hinh (by rw [Array.getD_eq_getD_getElem?]; simp [show i < listed.size by omega])
            have h2 : (a.put (l[i]).dst v).tmps[t]? = a.tmps[t]? := by
              cases hx : (l[i]).dst with
              | none => rfl
              | some d => rw [hx] at h1; simp only [Go.Act.put]; rw [Array.getElem?_setIfInBounds_ne (fun e => h1 (by rw [e]))]
            rw [h2]
            refine hag.old t fun j hj hlj => ht j hj ?_
            rw [Array.getD_eq_getD_getElem?] at hlj ⊢
            by_cases hji : i = j
            · subst hji; simp [show i < listed.size by omega]
            · rw [Array.getElem?_setIfInBounds_ne hji]; exact hlj
          · by_cases hji : j = i
            · subst hji
              rw [hdi] at hd
              rw [hd, put_get, if_pos rfl]
              by_cases hts : t < a.tmps.size
              · have : t < a0.tmps.size := by rw [← hag.size]; exact hts
                simp [hts, this]
              · have h1 : a.tmps.size ≤ t := Nat.not_lt.1 hts
                have h2 : a0.tmps.size ≤ t := by rw [← hag.size]; exact h1
                rw [Array.getElem?_eq_none h1, Array.getElem?_eq_none h2]
            · have h2 : (a.put (l[i]).dst v).tmps[t]? = a.tmps[t]? := by
                cases hx : (l[i]).dst with
                | none => rfl
                | some d =>
                  simp only [Go.Act.put]
                  rw [Array.getElem?_setIfInBounds_ne]
                  intro e
                  subst e
                  exact hji (dst1 j i d hj hinh hd (hdi.trans hx))
              rw [h2, if_neg hji]
              refine hag.new t j hj ?_ hd
              rw [Array.getD_eq_getD_getElem?] at hlj ⊢
              rwa [Array.getElem?_setIfInBounds_ne (fun e => hji e.symm)] at hlj
        have hF' : ∀ j, j < nh → (listed.setIfInBounds i true).getD j false = true → F j (if j = i then v else vs j) w'' := by
          intro j hj hlj
          by_cases hji : j = i
          · subst hji; rw [if_pos rfl]; exact hFv
          · rw [if_neg hji]
            rw [set_get hun] at hlj
            exact hFE j _ _ _ hj (hF j hj (hlj.resolve_left hji)) hEv
        refine ⟨by simpa using hsz, hcl', ?_⟩
        by_cases hex : ∃ j, j < nh ∧ (listed.setIfInBounds i true).getD j false = false
        · obtain ⟨j, hj, hju⟩ := hex
          exact .inl ⟨j, hj, hju, _, hag', hF', hEt _ _ _ hE hEv, by show R _ (if p = i then v else vs p) w''; simpa only [eq_comm] using hRv⟩
        · have hfull : ∀ j, j < nh → (listed.setIfInBounds i true).getD j false = true := by
            intro j hj
            cases hq : (listed.setIfInBounds i true).getD j false with
            | false => exact absurd ⟨j, hj, hq⟩ hex
            | true => rfl
          refine .inr ⟨0, by omega, fun j => ⟨fun hlj => ?_, fun hj => hfull j (by omega)⟩, ?_⟩
          · rcases Nat.lt_or_ge j nh with h | h
            · omega
            · rw [set_get hun] at hlj
              rcases hlj with hlj | hlj
              · omega
              · have hjl : j < l.length := by
                  rw [Array.getD_eq_getD_getElem?] at hlj
                  cases hq : listed[j]? with
                  | none => rw [hq] at hlj; cases hlj
                  | some b => have := (Array.getElem?_eq_some_iff.1 hq).1; omega
                have := hcl j i0 hlj (tail1 j i0 hjl h (by omega))
                rw [hi0u] at this
                cases this
          · have hfin := tele_fill (fun j => if j = i then v else vs j) _ (by simpa using hHead2) _ (hdone w'' _ (if p = i then v else vs p) (hEt _ _ _ hE hEv) hfull (by simpa only [eq_comm] using hRv)) (fun j hj => by rw [hHead1] at hj; exact ⟨hF' j (List.mem_range.1 hj) (hfull j (List.mem_range.1 hj)), fun h => by rw [h]⟩)
            rw [hHead1] at hfin
            have hact : a.put (l[i]).dst v = fillA l (fun j => if j = i then v else vs j) a0 (List.range nh) := by
              have h1 : (a.put (l[i]).dst v).defers = (fillA l (fun j => if j = i then v else vs j) a0 (List.range nh)).defers := hag'.defers.trans (fill_defers _ _ _).symm
              have h2 : (a.put (l[i]).dst v).tmps = (fillA l (fun j => if j = i then v else vs j) a0 (List.range nh)).tmps := by
                refine Array.ext_getElem? fun t => ?_
                by_cases hex : ∃ j, j < nh ∧ dstOf l j = some t
                · obtain ⟨j, hj, hd⟩ := hex
                  rw [hag'.new t j hj (by rw [gd _ _ (by simp; omega)]; exact hfull j hj) hd]
                  exact (fill_get (fun j => if j = i then v else vs j) _ _ (List.mem_range.2 hj) hd (fun j' hj' hd' => dst1 _ _ t (List.mem_range.1 hj') hj hd' hd)).symm
                · rw [fill_other _ _ _ (fun j hj hd => hex ⟨j, List.mem_range.1 hj, hd⟩)]
                  exact hag'.old t fun j hj _ hd => hex ⟨j, hj, hd⟩
              cases hA : a.put (l[i]).dst v
              cases hB : fillA l (fun j => if j = i then v else vs j) a0 (List.range nh)
              rw [hA, hB] at h1 h2
              simp only [] at h1 h2
              rw [h1, h2]
            rw [hact]
            exact hfin
      -- the operation itself
      unfold wpOp
      rw [ho]
      simp only []
      unfold wpList at hgo
      rw [← hwant] at hgo
      split
      · rename_i hw
        rw [if_pos hw] at hgo
        rcases hgo with hgo | ⟨_, x, y, hgo⟩
        · refine .inl (Oper.wp_mono ?_ (wp_move (G := fun v w'' => F i v w'' ∧ E w' w'' ∧ R (listed.setIfInBounds i true) (if i = p then v else vs p) w'') (Region.noSelect_spec hSel i l[i] · · ho) ?_ hop ?_))
          · rintro a'' w'' ⟨v, rfl, h1, h2, h3⟩
            exact hnew v w'' h1 h2 h3
          · rw [fill_size, hag.size]
          · exact hgo
        · exact absurd hgo (by simp [LPost])
      · rename_i hw
        rw [if_neg hw] at hgo
        obtain ⟨v, h0, h1, h2, h3⟩ : ∃ v, _ = (fillA l vs a0 ((fsts deps).getD i [])).put (l[i]).dst v ∧ F i v w' ∧ E w' w' ∧ R _ _ w' := hgo
        have := put_same (a := a) (by rw [fill_size, hag.size]) h0
        rw [this]
        exact hnew v w' h1 h2 h3
    · have hin : i = nh + k := by
        have h1 : ¬ i < nh + k := fun h => by have := (hlk i).2 h; rw [hunl] at this; cases this
        rcases Nat.lt_or_ge (nh + k) i with h | h
        · have := (hlk (nh + k)).1 (hall (nh + k) (tail1 i (nh + k) hil (by omega) h))
          omega
        · omega
      subst hin
      have hdrop : l.drop (nh + k) = l[nh + k] :: l.drop (nh + k + 1) := List.drop_eq_getElem_cons hil
      rw [hdrop] at hwp
      unfold wpList at hwp
      have hgoal : ∀ a' w'', wpList P l.toArray Q (l.drop (nh + k + 1)) a' w'' → LInvX P l nh a0 w.drew F E p R Q (listed.setIfInBounds (nh + k) true) a' w'' := by
        intro a' w'' h
        refine ⟨by simpa using hsz, hcl', .inr ⟨k + 1, by omega, fun j => ?_, h⟩⟩
        rw [set_get hun, hlk]
        omega
      unfold wpOp
      rw [ho]
      simp only []
      split
      · rename_i hw
        rw [if_pos hw] at hwp
        exact hwp.imp (Oper.wp_mono hgoal) (fun h => h)
      · rename_i hw
        rw [if_neg hw] at hwp
        exact hgoal _ _ hwp
  · -- the end
    rintro listed a w' ⟨hsz, hcl, hI⟩ hr
    have hno : ∀ i, i < l.length → listed.getD i false = false → (∀ j, j < i → listed.getD j false = true) → False := by
      intro i hi hu hj
      have : i ∈ Region.ready .any l.toArray listed := by
        rw [mem_ready]
        refine ⟨by rw [Array.getD_eq_getD_getElem?] at hu ⊢; simp [show i < listed.size by omega] at hu ⊢; exact hu, l[i], by simp [hi], fun e he hb => hj _ (back1 i hi e he hb)⟩
      rw [hr] at this
      cases this
    have hmin : ∀ n, n ≤ l.length → (∀ j, j < n → listed.getD j false = true) := by
      intro n
      induction n with
      | zero => intro _ j hj; omega
      | succ n ih =>
        intro hn j hj
        have h1 := ih (by omega)
        by_cases hjn : j = n
        · subst hjn
          cases hq : listed.getD j false with
          | true => rfl
          | false => exact (hno j (by omega) hq h1).elim
        · exact h1 j (by omega)
    rcases hI with ⟨i0, hi0, hi0u, _⟩ | ⟨k, hk, hlk, hwp⟩
    · have := hmin l.length (Nat.le_refl _) i0 (by omega)
      rw [hi0u] at this
      cases this
    · have : nh + k = l.length := by
        rcases Nat.lt_or_ge (nh + k) l.length with h | h
        · have := (hlk (nh + k)).1 (hmin l.length (Nat.le_refl _) _ h)
          omega
        · omega
      rw [this, List.drop_length] at hwp
      exact hwp
  · have : unl (Array.replicate l.toArray.size false) ≤ (Array.replicate l.toArray.size false).toList.length := List.length_filter_le _ _
    simpa using this
  · have hno : ∀ j, (Array.replicate l.toArray.size false).getD j false = false := by
      intro j
      rw [Array.getD_eq_getD_getElem?, Array.getElem?_replicate]
      split <;> rfl
    refine ⟨by simp, fun i j h _ => (by rw [hno] at h; cases h), ?_⟩
    rcases Nat.eq_zero_or_pos nh with h0 | h0
    · subst h0
      refine .inr ⟨0, by omega, fun i => ⟨fun h => (by rw [hno] at h; cases h), fun h => by omega⟩, ?_⟩
      have : head = [] := List.eq_nil_of_length_eq_zero hnhe
      subst this
      exact hdone _ _ undef (hEr _) (fun j hj => by simp at hj) hR0
    · refine .inl ⟨0, h0, hno 0, fun _ => undef, ⟨rfl, rfl, fun _ _ => rfl, fun t j hj h => ?_⟩, fun j hj h => (by rw [hno] at h; cases h), hEr _, ?_⟩
      · rw [gd _ _ (by simp; omega), hno] at h
        cases h
      · exact hR0
/-- one operation (s) writes into what another one (p) has laid: the operations of `bef` come up before it -/
theorem wp_region_box {P : Program} {id : Nat} {l : List Oper} {Q : Exit → Go.Act → World → Prop} {a0 : Go.Act} {w : World} (hm : P.follows .mixedOrders = true)
    (head : List (Nat × Option Tmp)) (deps : List (List (Nat × Option Tmp))) (hok : okAll l head deps = true) (s : Nat) (bef : List Nat) (hbef : (decide (s < head.length) && bef.all fun j => has (clOf l) s j) = true)
    (p : Nat) (F : Nat → Value → World → Prop) (E : World → World → Prop) (R : Bool → Value → World → Prop)
    (hEr : ∀ w, E w w) (hEt : ∀ a b c, E a b → E b c → E a c) (hFE : ∀ i v a b, i < head.length → F i v a → E a b → F i v b)
    (hR0 : R false undef w.drew)
    (hstep : steps (fun i o => ∀ w' b vp, E w.drew w' → (i = s ∨ i ∈ bef → b = false) → R b vp w' → tele (fun j v w => F j v w ∧ (j = p → v = vp)) w' (fun c => ∀ Q' : Exit → Go.Act → World → Prop, (∀ v a'' w'', a'' = c.put o.dst v → F i v w'' → E w' w'' → R (i == s || b) (if i = p then v else vp) w'' → Q' .normal a'' w'') → wpList P l.toArray Q' [o] c w') (deps.getD i []) a0) 0 (l.take head.length))
    (hdone : ∀ w' vp, E w.drew w' → R true vp w' → tele (fun j v w => F j v w ∧ (j = p → v = vp)) w' (fun c => wpList P l.toArray Q (l.drop head.length) c w') head a0) :
    (Code.region id l.toArray true).wp P Q a0 w := by
  simp only [Bool.and_eq_true, decide_eq_true_eq, List.all_eq_true] at hbef
  obtain ⟨hs, hbef⟩ := hbef
  have hnh : head.length ≤ l.length := by
    simp only [okAll, Bool.and_eq_true, decide_eq_true_eq] at hok
    exact hok.1.1.1.1.1.1.1.1
  refine wp_region_setX hm head deps hok F E p (fun L v w => R (L.getD s false) v w) hEr hEt hFE ?_ ?_ ?_
  · have : (Array.replicate l.toArray.size false).getD s false = false := by
      rw [Array.getD_eq_getD_getElem?, Array.getElem?_replicate]
      split <;> rfl
    rw [this]
    exact hR0
  · refine steps_imp hstep fun i o hi h w' L vp hE hsz hun hcl hR => ?_
    have hb : i = s ∨ i ∈ bef → L.getD s false = false := by
      rintro (h | h)
      · rw [← h]; exact hun
      · cases hq : L.getD s false with
        | false => rfl
        | true =>
          have := hcl s i hq (hbef i h)
          rw [hun] at this
          cases this
    have h2 := h w' (L.getD s false) vp hE hb hR
    have hset : (L.setIfInBounds i true).getD s false = (i == s || L.getD s false) := by
      by_cases his : i = s
      · subst his
        rw [Array.getD_eq_getD_getElem?]
        simp [show i < L.size by omega]
      · rw [getD_set_ne false his]
        simp [his]
    refine tele_imp (deps.getD i []) _ _ (fun c hc Q' hQ' => hc Q' fun v a'' w'' h1 h3 h4 h5 => hQ' v a'' w'' h1 h3 h4 ?_) _ h2
    show R ((L.setIfInBounds i true).getD s false) _ w''
    rw [hset]
    exact h5
  · intro w' L vp hE hall hR
    rw [hall s hs] at hR
    exact hdone w' vp hE hR
end Go.Proofs.YtefdhlfljpppfaaGreat
namespace Go.Proofs.YtefdhlfljpppfaaGreat
open Go.RowKit
set_option linter.unusedVariables false
set_option linter.unusedSimpArgs false

def ansV (x : Ans) (A : Option Addr) (c : Nat) : List Value := [.int .i64 x.key, .int .i64 x.value, .slice A x.proof.length c]
/-- an answer in three cells -/
def ansR : Rel Ans := fun P x w cs => ∃ A c, cs = ansV x A c ∧ (x.proof.length ≤ c ∧ c ≤ maxLen) ∧ RdP P w A (x.proof.map (.int .i64))
theorem ans_good : Good ansR 3 :=
  ⟨fun ⟨_, _, h, _⟩ => by rw [h]; rfl, fun ⟨A, c, h0, h1, h2⟩ hPQ => ⟨A, c, h0, h1, h2.mono hPQ⟩, fun ⟨A, c, h0, h1, h2⟩ hk => ⟨A, c, h0, h1, h2.keep hk⟩⟩
def ansO : ORel Ans := fun x w cs fp => ∃ A c, cs = ansV x A c ∧ w.ownsRow 0 3 1 (.slice A x.proof.length c) x.proof.length (x.proof.map (.int .i64)) ∧ fp = blk A
theorem ansO_good : OGood ansO ansR :=
  ⟨fun ⟨A, c, h0, h1, h3⟩ => ⟨A, c, h0, own_cap h1, (own_rdP h1).mono fun k hk _ => by rw [h3]; exact mem_blk hk.2⟩,
   fun ⟨A, c, h0, h1, h3⟩ hk => ⟨A, c, h0, own_keep h1 fun g hA hg => hk g (by rw [h3]; exact mem_blk hA) hg, h3⟩,
   fun ⟨A, c, h0, h1, h3⟩ k hk => by
    rw [h3] at hk
    exact (blk_own h1 hk).2.2⟩
theorem RdD.ans {P : Nat → Prop} {w : World} {A : Option Addr} {xs : List Ans} (h : RdD ansR P w A xs) {k : Nat} (hk : k < xs.length) :
    ∃ b off A1 c1, A = some ⟨b, off, none⟩ ∧ P b ∧ b < w.heap.size ∧ w.cell? ⟨b, off + k * 3, none⟩ = some (.int .i64 xs[k].key) ∧ w.cell? ⟨b, off + k * 3 + 1, none⟩ = some (.int .i64 xs[k].value) ∧ w.cell? ⟨b, off + k * 3 + 2, none⟩ = some (.slice A1 xs[k].proof.length c1) ∧
      (xs[k].proof.length ≤ c1 ∧ c1 ≤ maxLen) ∧ RdP P w A1 (xs[k].proof.map (.int .i64)) := by
  obtain ⟨b, off, cs, hA, hp, hb, ⟨A1, c1, rfl, h1, h3⟩, hc⟩ := h.get ans_good (by omega) hk
  exact ⟨b, off, A1, c1, hA, hp, hb, hc 0 _ rfl, hc 1 _ rfl, hc 2 _ rfl, h1, h3⟩
theorem info_ansz : (Tryz.prog.info? 31).map (fun i => (i.zero, i.size, i.bytes)) = some (some (.agg #[.int .i64 0, .int .i64 0, .slice none 0 0]), 3, 40) := by kernel_rfl
theorem el_ans : El Tryz.prog 42 31 3 40 := El.mk_ Tryz.underlying42 info_ansz rfl (by omega)
theorem one_ansV (x : Ans) (A : Option Addr) (c : Nat) : ∀ u ∈ ansV x A c, u.oneCell' = true := by
  intro u hu
  simp [ansV] at hu
  rcases hu with rfl | rfl | rfl <;> rfl
theorem box_new (w : World) (t : TypeId) (z cs : Array Value) : Blk (w.alloc (.cells z t)) w.heap.size t z ∧ Blk ((w.alloc (.cells z t)).setRow w.heap.size cs) w.heap.size t cs ∧ Below w.heap.size w ((w.alloc (.cells z t)).setRow w.heap.size cs) := by
  have h1 : Blk (w.alloc (.cells z t)) w.heap.size t z := Blk.new _ _ _
  exact ⟨h1, blk_setRow h1, below_setRow ((Below.refl _ _).alloc (Nat.le_refl _) _) (Nat.le_refl _) _⟩
/-- are there answers for all keys? -/
def allOk (t : Tr) (n : Int) (ks : List Int) : Bool := treeB t && (decide (ks.length ≤ 32) && ks.all (askOk t n))
def allA (t : Tr) (n : Int) (ks : List Int) : List Ans := if allOk t n ks = true then ks.map (askA t n) else []
theorem allA_no {t : Tr} {n : Int} {ks : List Int} (h : allOk t n ks = false) : allA t n ks = [] := by rw [allA, if_neg (by simp [h])]
theorem allA_yes {t : Tr} {n : Int} {ks : List Int} (h : allOk t n ks = true) : allA t n ks = ks.map (askA t n) := by rw [allA, if_pos h]
theorem allOk_at {t : Tr} {n : Int} {ks : List Int} {k : Nat} (hk : k < ks.length) (h : askOk t n ks[k] = false) : allOk t n ks = false := by
  cases ha : ks.all (askOk t n)
  · simp [allOk, ha]
  · rw [List.all_eq_true] at ha
    rw [ha _ (List.getElem_mem hk)] at h
    cases h
theorem allA_len (t : Tr) (n : Int) (ks : List Int) : (allA t n ks).length ≤ 32 := by
  unfold allA
  split
  · rename_i h
    simp only [allOk, Bool.and_eq_true, decide_eq_true_eq] at h
    simpa using h.2.1
  · simp
def StEL (E : World → World → Prop) : List (Value → World → Prop) → Prop
  | [] => True
  | f :: l => (∀ v a b, E a b → f v a → f v b) ∧ StEL E l
theorem stel_get {E : World → World → Prop} : ∀ {l : List (Value → World → Prop)}, StEL E l → ∀ i v a b, E a b → (l.getD i fun _ _ => True) v a → (l.getD i fun _ _ => True) v b
  | [], _, i => fun _ _ _ _ _ => trivial
  | f :: l, h, 0 => h.1
  | f :: l, h, i + 1 => by simpa using stel_get h.2 i
theorem locE_st {E : World → World → Prop} {fs : List (Value → World → Prop)} (h : StEL E fs) (n : Nat) (i : Nat) (v : Value) (a b : World) (_ : i < n) (hf : locB fs i v a) (hE : E a b) : locB fs i v b := stel_get h i v a b hE hf
theorem EB.setRow {m : Nat} {t : TypeId} {w : World} {g : Nat} {old : Array Value} (h : Blk w g t old) (hm : m ≤ g) (ds : Array Value) : EB m t w (w.setRow g ds) :=
  ⟨rfl, rfl, rfl, by rw [size_setRow]; exact Nat.le_refl _, fun k hk => by
    by_cases hkg : k = g
    · subst hkg; exact .inr ⟨hm, old, h⟩
    · exact .inl (setRow_other w g k ds hkg)⟩
def sAskT (B : Nat) (x : Ans) (ok : Bool) (v : Value) (w : World) : Prop := ∃ A c, v = .tuple #[.agg #[.int .i64 x.key, .int .i64 x.value, .slice A x.proof.length c], .bool ok] ∧ w.ownsRow B 3 1 (.slice A x.proof.length c) x.proof.length (x.proof.map (.int .i64))
def sAsk (B : Nat) (x : Ans) (v : Value) (w : World) : Prop := ∃ A c, v = .agg #[.int .i64 x.key, .int .i64 x.value, .slice A x.proof.length c] ∧ w.ownsRow B 3 1 (.slice A x.proof.length c) x.proof.length (x.proof.map (.int .i64))
def qAsk (B : Nat) (x : Ans) (cs : Array Value) (w : World) : Prop := ∃ A c, cs = #[.int .i64 x.key, .int .i64 x.value, .slice A x.proof.length c] ∧ w.ownsRow B 3 1 (.slice A x.proof.length c) x.proof.length (x.proof.map (.int .i64))
theorem ne_ia : (3 : TypeId) ≠ 31 := by decide
end Go.Proofs.YtefdhlfljpppfaaGreat
namespace Go.Proofs.YtefdhlfljpppfaaGreat
open Go.RowKit
set_option linter.unusedVariables false
set_option linter.unusedSimpArgs false

def eOwn (e : TypeId) (s B : Nat) (v : Value) (w : World) : Prop := ∃ A, v = .slice A 0 0 ∧ w.ownsRow B e s (.slice A 0 0) 0 []
theorem sb_eOwn (e : TypeId) (s B : Nat) : StB (eOwn e s B) := fun _ _ _ hb ⟨A, h1, h2⟩ => ⟨A, h1, own_new h2 hb⟩
def iOwn (B : Nat) (ys : List Int) (v : Value) (w : World) : Prop := ∃ A c, v = .slice A ys.length c ∧ w.ownsRow B 3 1 (.slice A ys.length c) ys.length (ys.map (.int .i64))
theorem sb_iOwn (B : Nat) (ys : List Int) : StB (iOwn B ys) := fun _ _ _ hb ⟨A, c, h1, h2⟩ => ⟨A, c, h1, own_new h2 hb⟩
def baseT (B : Nat) (t : Tr) (v : Value) (w : World) : Prop := ∃ A c A' c', v = .agg #[.slice A t.base.length c, .slice none 0 0, .slice A' t.before.length c'] ∧ w.ownsRow B 85 2 (.slice A t.base.length c) t.base.length (t.base.flatMap encE) ∧ w.ownsRow B 3 1 (.slice A' t.before.length c') t.before.length (t.before.map (.int .i64))
theorem sb_baseT (B : Nat) (t : Tr) : StB (baseT B t) := fun _ _ _ hb ⟨A, c, A', c', h1, h2, h3⟩ => ⟨A, c, A', c', h1, own_new h2 hb, own_new h3 hb⟩
def newBox (B : Nat) (t : TypeId) (z : Array Value) (v : Value) (w : World) : Prop := ∃ g, v = .pointer (some ⟨g, 0, none⟩) ∧ B ≤ g ∧ Blk w g t z
theorem sb_newBox (B : Nat) (t : TypeId) (z : Array Value) : StB (newBox B t z) := fun _ _ _ hb ⟨g, h1, h2, h3⟩ => ⟨g, h1, h2, h3.new_ hb⟩
theorem bthen' {B1 B2 : Nat} {a b c : World} (h1 : Below B1 a b) (h2 : Below B2 b c) (h : B1 ≤ B2 := by omega) : Below B1 a c := h1.trans ⟨h2.os, h2.tape, h2.output, h2.size, fun q hq => h2.block q (Nat.lt_of_lt_of_le hq h)⟩
theorem info_tr : (Tryz.prog.info? 27).map (·.size) = some 3 := by kernel_rfl
theorem ne_ei : (85 : TypeId) ≠ 3 := by decide
theorem ne_et : (85 : TypeId) ≠ 27 := by decide
theorem ne_it : (3 : TypeId) ≠ 27 := by decide
theorem one_ia (xs : List Int) : ∀ u ∈ xs.map (Value.int .i64), u.oneCell' = true := fun u hu => by
  obtain ⟨z, _, rfl⟩ := List.mem_map.1 hu
  rfl
theorem sl3_one (A B C : Option Addr) (n m k c d e : Nat) : (#[Value.slice A n c, .slice B m d, .slice C k e]).all (·.oneCell') = true := by
  rw [Array.all_eq_true_iff_forall_mem]
  intro x hx
  simp at hx
  rcases hx with rfl | rfl | rfl <;> rfl
theorem bkV_one (x : Bk) (A : Option Addr) (c : Nat) : ∀ u ∈ bkV x A c, u.oneCell' = true := by
  intro u hu
  simp [bkV] at hu
  rcases hu with rfl | rfl | rfl | rfl | rfl | rfl <;> rfl
theorem bk6_one (a b c : Int) (A : Option Addr) (n k : Nat) (d e : Int) : (#[Value.int .i64 a, .int .i64 b, .int .i64 c, .slice A n k, .int .i64 d, .int .i64 e]).all (·.oneCell') = true := by
  rw [Array.all_eq_true_iff_forall_mem]
  intro x hx
  simp at hx
  rcases hx with rfl | rfl | rfl | rfl | rfl | rfl <;> rfl
theorem len_acts (al : List Act) : (al.flatMap encA).length = al.length * 4 := by
  induction al with
  | nil => rfl
  | cons e es ih => rw [List.flatMap_cons, List.length_append, ih, List.length_cons]; simp [encA]; omega
theorem one_acts2 (al : List Act) : ∀ u ∈ al.flatMap encA, u.oneCell' = true := by
  intro u hu
  obtain ⟨e, _, h⟩ := List.mem_flatMap.1 hu
  simp [encA] at h
  rcases h with rfl | rfl | rfl | rfl <;> rfl
theorem info_actz : (Tryz.prog.info? 101).map (fun i => (i.zero, i.size, i.bytes)) = some (some (.agg #[.int .i64 0, .int .i64 0, .int .i64 0, .int .i64 0]), 4, 32) := by kernel_rfl
theorem el_actz : El Tryz.prog 48 101 4 32 := El.mk_ Tryz.underlying48 info_actz rfl (by omega)
set_option maxRecDepth 100000 in
set_option maxHeartbeats 8000000 in
theorem copy_spec (t : Tr) (A1 : Option Addr) (c1 : Nat) (A2 : Option Addr) (c2 : Nat) (A3 : Option Addr) (c3 : Nat) (w : World) (h : TrR w t A1 A2 A3) (hb1 : t.base.length ≤ 1099511627776) (hb2 : t.blocks.length ≤ 1099511627776) (hbs : ∀ x ∈ t.blocks, x.list.length ≤ 1099511627776) (hb3 : t.before.length ≤ 1099511627776) :
    Calls Tryz.prog 61 #[.agg (trA t A1 c1 A2 c2 A3 c3)] w fun e w' => ∃ B1 d1 B2 d2 B3 d3 fp, e = .returned (.agg (trA t B1 d1 B2 d2 B3 d3)) ∧ TrO w' w.heap.size t B1 d1 B2 d2 B3 d3 fp ∧ Below w.heap.size w w' := by
  have HBS := hide hbs
  clear hbs
  obtain ⟨W, hW⟩ : ∃ W : World, W = (w.alloc (.cells (trA t A1 c1 A2 c2 A3 c3) 27)).alloc (.cells #[.slice none 0 0, .slice none 0 0, .slice none 0 0] 27) := ⟨_, rfl⟩
  have hb0 : Below w.heap.size w W := by rw [hW]; exact ((Below.refl _ _).alloc (Nat.le_refl _) _).alloc (by simp) _
  have K0 : Blk W w.heap.size 27 (trA t A1 c1 A2 c2 A3 c3) := by rw [hW]; exact (Blk.new _ _ _).alloc _
  have K1 : Blk W (w.heap.size + 1) 27 #[.slice none 0 0, .slice none 0 0, .slice none 0 0] := by
    rw [hW]
    have := Blk.new (w.alloc (.cells (trA t A1 c1 A2 c2 A3 c3) 27)) 27 #[.slice none 0 0, .slice none 0 0, .slice none 0 0]
    simpa using this
  have hW1 := K1.lt
  simp only [trA] at K0 hW ⊢
  have HX := hide (fun (w' : World) (hb : Below W.heap.size W w') => show w'.cell? ⟨w.heap.size, 0, none⟩ = some (.slice A1 t.base.length c1) ∧ w'.cell? ⟨w.heap.size, 1, none⟩ = some (.slice A2 t.blocks.length c2) ∧ w'.cell? ⟨w.heap.size, 2, none⟩ = some (.slice A3 t.before.length c3) ∧ TrR w' t A1 A2 A3 from ⟨(K0.new_ hb).cell 0, (K0.new_ hb).cell 1, (K0.new_ hb).cell 2, h.new (bthen hb0 hb)⟩)
  have HK1 := hide (fun (w' : World) (hb : Below W.heap.size W w') => K1.new_ hb)
  clear h K0 K1
  go_enter Tryz.func61, Tryz.ntmps61
  go_wp2
  rw [← hW]
  have hF : StBL [eOwn 85 2 W.heap.size, bV (.pointer (some ⟨w.heap.size, 0, none⟩)), bV (.slice A1 t.base.length c1), sOwn W.heap.size t.base, eOwn 3 1 W.heap.size, bV (.pointer (some ⟨w.heap.size, 2, none⟩)), bV (.slice A3 t.before.length c3), iOwn W.heap.size t.before, baseT W.heap.size t, newBox W.heap.size 27 #[.slice none 0 0, .slice none 0 0, .slice none 0 0]] :=
    ⟨sb_eOwn _ _ _, sb_V _, sb_V _, sb_Own _ _, sb_eOwn _ _ _, sb_V _, sb_V _, sb_iOwn _ _, sb_baseT _ _, sb_newBox _ _ _, trivial⟩
  go_upto_region 1 with fail
  refine wp_region_loc (by kernel_rfl) [(0, some 6), (1, some 7), (2, some 8), (3, some 9), (4, some 10), (5, some 11), (6, some 12), (7, some 13), (8, some 14), (9, some 3)] [[], [], [(1, some 7)], [(0, some 6), (2, some 8)], [], [], [(5, some 11)], [(4, some 10), (6, some 12)], [(3, some 9), (7, some 13)], []] (by kernel_rfl)
    (locB _) (fun a b => Below a.heap.size a b) noR [0, 0, 0, 0, 0, 0, 0, 0, 0, 0] 0 (by kernel_rfl) (fun _ => Below.refl _ _) (fun _ _ _ => bthen) (locB_st hF _) trivial ?_ ?_
  · refine steps_cons ?s0 ( steps_cons ?s1 ( steps_cons ?s2 ( steps_cons ?s3 ( steps_cons ?s4 ( steps_cons ?s5 ( steps_cons ?s6 ( steps_cons ?s7 ( steps_cons ?s8 ( steps_cons ?s9 steps_nil)))))))))
    case s0 =>
      intro w' m' hE hR
      intro Q hQ
      have hsz := hE.size
      have o0 := own_made (base := W.heap.size) (e := 85) (size := 2) w' #[] 0 hsz (by simp [maxLen]) rfl
      go_wp2
      exact hQ _ _ _ rfl ⟨_, rfl, o0⟩ ((Below.refl _ _).alloc (Nat.le_refl _) _) trivial
    case s1 =>
      intro w' m' hE hR
      intro Q hQ
      go_wp2
      exact hQ _ _ _ rfl rfl (Below.refl _ _) trivial
    case s2 =>
      intro w' m' hE hR
      rintro _ rfl Q hQ
      obtain ⟨y0, y1, y2, y3⟩ := unhide HX w' (below_undrew hE)
      go_wp2
      exact hQ _ _ _ rfl rfl (Below.refl _ _) trivial
    case s3 =>
      intro w' m' hE hR
      rintro _ ⟨AE, rfl, oE⟩ _ rfl Q hQ
      obtain ⟨y0, y1, y2, y3⟩ := unhide HX w' (below_undrew hE)
      have hsz := hE.size
      refine wpList_app0 rfl (.tmp 6) (.tmp 8) 23 rfl el_ent rfl oE rfl y3.b1 (len_ents t.base) (one_ents t.base) (by simp only [maxLen]; omega) (by omega) hsz ?_
      intro A' c' w2 o2 b2
      go_wp2
      exact hQ _ _ _ rfl ⟨A', c', rfl, o2⟩ b2 trivial
    case s4 =>
      intro w' m' hE hR
      intro Q hQ
      have hsz := hE.size
      have o0 := own_made (base := W.heap.size) (e := 3) (size := 1) w' #[] 0 hsz (by simp [maxLen]) rfl
      go_wp2
      exact hQ _ _ _ rfl ⟨_, rfl, o0⟩ ((Below.refl _ _).alloc (Nat.le_refl _) _) trivial
    case s5 =>
      intro w' m' hE hR
      intro Q hQ
      go_wp2
      exact hQ _ _ _ rfl rfl (Below.refl _ _) trivial
    case s6 =>
      intro w' m' hE hR
      rintro _ rfl Q hQ
      obtain ⟨y0, y1, y2, y3⟩ := unhide HX w' (below_undrew hE)
      go_wp2
      exact hQ _ _ _ rfl rfl (Below.refl _ _) trivial
    case s7 =>
      intro w' m' hE hR
      rintro _ ⟨AE, rfl, oE⟩ _ rfl Q hQ
      obtain ⟨y0, y1, y2, y3⟩ := unhide HX w' (below_undrew hE)
      have hsz := hE.size
      refine wpList_app0 rfl (.tmp 10) (.tmp 12) 25 rfl el_int rfl oE rfl y3.b3 (by simp) (one_ia t.before) (by simp only [maxLen]; omega) (by omega) hsz ?_
      intro A' c' w2 o2 b2
      go_wp2
      exact hQ _ _ _ rfl ⟨A', c', rfl, o2⟩ b2 trivial
    case s8 =>
      intro w' m' hE hR
      rintro _ ⟨B1, d1, rfl, o1⟩ _ ⟨B3, d3, rfl, o3⟩ Q hQ
      go_wp2
      exact hQ _ _ _ rfl ⟨B1, d1, B3, d3, rfl, o1, o3⟩ (Below.refl _ _) trivial
    case s9 =>
      intro w' m' hE hR
      intro Q hQ
      have hsz := hE.size
      go_wp2
      exact hQ _ _ _ rfl ⟨w'.heap.size, rfl, hsz, Blk.new _ _ _⟩ ((Below.refl _ _).alloc (Nat.le_refl _) _) trivial
  intro w9 hE _
  rintro v0 - v1 - v2 - v3 - v4 - v5 - v6 - v7 - v8 ⟨B1, d1, B3, d3, rfl, o1, o3⟩ v9 ⟨g, rfl, hg, kg⟩
  change wpList _ _ _ [_] _ _
  simp only [Act.put, List.setIfInBounds_toArray, List.set_cons_succ, List.set_cons_zero]
  have b9 := below_undrew hE
  have hgl := kg.lt
  go_wp2_with (refine wpList_store_row rfl 27 (.tmp 3) (.tmp 14) rfl g #[.slice B1 t.base.length d1, .slice none 0 0, .slice B3 t.before.length d3] rfl rfl 27 #[.slice none 0 0, .slice none 0 0, .slice none 0 0] kg info_tr rfl (sl3_one _ _ _ _ _ _ _ _ _) ?_; refine at_world (C := fun W => wpList _ _ _ _ _ W) (F := fun W2 => Blk W2 g 27 #[.slice B1 t.base.length d1, .slice none 0 0, .slice B3 t.before.length d3] ∧ W2.ownsRow W.heap.size 85 2 (.slice B1 t.base.length d1) t.base.length (t.base.flatMap encE) ∧ W2.ownsRow W.heap.size 3 1 (.slice B3 t.before.length d3) t.before.length (t.before.map (.int .i64)) ∧ Below W.heap.size W W2 ∧ g < W2.heap.size) ⟨blk_setRow kg, own_EB o1 (EB.setRow kg hg _) ne_et, own_EB o3 (EB.setRow kg hg _) ne_it, below_setRow b9 hg _, by rw [size_setRow]; exact hgl⟩ ?_; rintro W2 ⟨kg2, p1, p3, b2, hg2⟩)
  have a13 := own_ne p1 p3 ne_ei
  have HR1 := hide (own_rng p1)
  have HR3 := hide (own_rng p3)
  have HA13 := hide a13
  have HGA1 := hide (show ¬ B1 = some ⟨g, 0, none⟩ from fun e => by
    rcases p1.2 with ⟨hv, _⟩ | ⟨q, cap, cur, hv, _, hh, _⟩
    · injection hv with hv; rw [e] at hv; cases hv
    · injection hv with hv; rw [e] at hv; injection hv with hv; injection hv with hv; subst hv; rw [show W2.heap[g]? = _ from kg2] at hh; injection hh with hh; injection hh with _ h3 _; exact ne_et h3.symm)
  have HGA3 := hide (show ¬ B3 = some ⟨g, 0, none⟩ from fun e => by
    rcases p3.2 with ⟨hv, _⟩ | ⟨q, cap, cur, hv, _, hh, _⟩
    · injection hv with hv; rw [e] at hv; cases hv
    · injection hv with hv; rw [e] at hv; injection hv with hv; injection hv with hv; subst hv; rw [show W2.heap[g]? = _ from kg2] at hh; injection hh with hh; injection hh with _ h3 _; exact ne_it h3.symm)
  have hm0 := b2.size
  have HGW := hide hg
  have hgW : w.heap.size + 1 < g := by omega
  clear a13 o1 o3 kg hgl b9 hE hF hg
  go_loopw [4, 5] (fun i _ wr => ∃ (k : Nat) (A' : Option Addr) (c' : Nat) (vs : List (List Value)) (fs : List (List Nat)), k ≤ t.blocks.length ∧ i = .int .i64 k ∧ AllO bkO wr (t.blocks.take k) vs fs ∧ fs.flatten.Nodup ∧ Hid (∀ q ∈ fs.flatten, W2.heap.size ≤ q ∧ A' ≠ some ⟨q, 0, none⟩) ∧ wr.ownsRow W2.heap.size 50 6 (.slice A' k c') k vs.flatten ∧ Blk wr g 27 #[.slice B1 t.base.length d1, .slice A' k c', .slice B3 t.before.length d3] ∧ wr.ownsRow W.heap.size 85 2 (.slice B1 t.base.length d1) t.base.length (t.base.flatMap encE) ∧ wr.ownsRow W.heap.size 3 1 (.slice B3 t.before.length d3) t.before.length (t.before.map (.int .i64)) ∧ W2.heap.size ≤ wr.heap.size ∧ Below W.heap.size W wr) (fun i _ _ => t.blocks.length - (intOf i).toNat)
  case atStart => exact ⟨0, none, 0, [], [], Nat.zero_le _, rfl, trivial, by simp, hide (by simp), own_nil _ _ _ _, kg2, p1, p3, Nat.le_refl _, b2⟩
  case round =>
    clear kg2 p1 p3 b2
    obtain ⟨k, A', c', vs, fs, hk, rfl, hall, hnd, HF, hown, kg, p1, p3, hwr, hB⟩ := hrel
    obtain ⟨y0, y1, y2, hT⟩ := unhide HX wr hB
    have q0 : wr.cell? ⟨g, 0, none⟩ = some (.slice B1 t.base.length d1) := kg.cell 0
    have q1 : wr.cell? ⟨g, 1, none⟩ = some (.slice A' k c') := kg.cell 1
    have q2 : wr.cell? ⟨g, 2, none⟩ = some (.slice B3 t.before.length d3) := kg.cell 2
    by_cases hlt : k < t.blocks.length
    · have i1 : (k : Int) < (t.blocks.length : Int) := by omega
      obtain ⟨bq, offq, L1, e1, hA2, -, hbb, x0, x1, x2, x3, x4, x5, hl1, r1⟩ := hT.b2.bk hlt
      have hxl := unhide HBS t.blocks[k] (List.getElem_mem hlt)
      have HT := hide (show t.blocks.take (k + 1) = t.blocks.take k ++ [t.blocks[k]] from List.take_succ_eq_append_getElem hlt)
      generalize t.blocks[k] = x at *
      have HA2 := hide hA2
      clear hA2
      rw [unhide HA2] at y1
      have rx := r1.rd
      clear r1 hl1
      have hgwr : g < wr.heap.size := by omega
      have hne : g ≠ wr.heap.size := by omega
      have hne2 : wr.heap.size ≠ g := by omega
      have HRO := hide (own_rng hown)
      go_wp2_with (first | (refine wpList_store_row rfl 50 (.tmp 5) (.tmp 26) rfl wr.heap.size #[.int .i64 x.before, .int .i64 x.height, .int .i64 x.view, .slice L1 x.list.length e1, .int .i64 x.root, .int .i64 x.eff] rfl rfl 50 #[.int .i64 0, .int .i64 0, .int .i64 0, .slice none 0 0, .int .i64 0, .int .i64 0] (box_new wr 50 #[.int .i64 0, .int .i64 0, .int .i64 0, .slice none 0 0, .int .i64 0, .int .i64 0] #[.int .i64 x.before, .int .i64 x.height, .int .i64 x.view, .slice L1 x.list.length e1, .int .i64 x.root, .int .i64 x.eff]).1 info_bkS rfl (bk6_one _ _ _ _ _ _ _ _) ?_; refine at_world (C := fun W => wpList _ _ _ _ _ W) (F := fun W => Blk W wr.heap.size 50 #[.int .i64 x.before, .int .i64 x.height, .int .i64 x.view, .slice L1 x.list.length e1, .int .i64 x.root, .int .i64 x.eff] ∧ Below wr.heap.size wr W) ⟨(box_new wr 50 #[.int .i64 0, .int .i64 0, .int .i64 0, .slice none 0 0, .int .i64 0, .int .i64 0] #[.int .i64 x.before, .int .i64 x.height, .int .i64 x.view, .slice L1 x.list.length e1, .int .i64 x.root, .int .i64 x.eff]).2.1, (box_new wr 50 #[.int .i64 0, .int .i64 0, .int .i64 0, .slice none 0 0, .int .i64 0, .int .i64 0] #[.int .i64 x.before, .int .i64 x.height, .int .i64 x.view, .slice L1 x.list.length e1, .int .i64 x.root, .int .i64 x.eff]).2.2⟩ ?_; rintro w5 ⟨k5, b5⟩; have v3 : w5.cell? ⟨wr.heap.size, 3, none⟩ = some (.slice L1 x.list.length e1) := k5.cell 3; have hl5 := k5.lt; have oe := own_made (base := w5.heap.size) (e := 101) (size := 4) w5 #[] 0 (Nat.le_refl _) (by simp [maxLen]) rfl; have be : Below wr.heap.size wr (w5.alloc (.cells #[] 101)) := bthen b5 ((Below.refl _ _).alloc (Nat.le_refl _) _)) | (at_builtin; refine wpList_app0 rfl (.tmp 27) (.tmp 29) 48 rfl el_actz rfl oe rfl (rx.new be) (len_acts x.list) (one_acts2 x.list) (by simp only [maxLen]; omega) (by omega) (by simp) ?_; intro A7 c7 w7 o7 b7; have b57 := bthen be b7; have k7 := (k5.new_ ((Below.refl _ _).alloc (Nat.le_refl _) _)).new_ b7; have u0 : w7.cell? ⟨wr.heap.size, 0, none⟩ = some _ := k7.cell 0; have u1 : w7.cell? ⟨wr.heap.size, 1, none⟩ = some _ := k7.cell 1; have u2 : w7.cell? ⟨wr.heap.size, 2, none⟩ = some _ := k7.cell 2; have u3 : w7.cell? ⟨wr.heap.size, 3, none⟩ = some _ := k7.cell 3; have u4 : w7.cell? ⟨wr.heap.size, 4, none⟩ = some _ := k7.cell 4; have u5 : w7.cell? ⟨wr.heap.size, 5, none⟩ = some _ := k7.cell 5; have f3 : w7.frozen? ⟨wr.heap.size, 3, none⟩ = false := k7.frozen 3; have kg7 := kg.new_ b57; have g1 : w7.cell? ⟨g, 1, none⟩ = some (.slice A' k c') := kg7.cell 1; have chS : Chg (fun q => q = wr.heap.size) w7 (w7.setCell ⟨wr.heap.size, 3, none⟩ (.slice A7 x.list.length c7)) := (Chg.refl (fun q => q = wr.heap.size) w7).setCell (p := ⟨wr.heap.size, 3, none⟩) (.inl rfl) _; have oA := own_chg (own_new hown b57) chS (fun q hq e => by have := unhide HRO q hq; omega); have o7s := own_chg o7 chS (fun q hq e => by have := own_rng o7 q hq; omega); have hs7 := b57.size; have kg7s := kg7.chg chS hne; have es : (w7.setCell ⟨wr.heap.size, 3, none⟩ (.slice A7 x.list.length c7)).heap.size = w7.heap.size := (by simp); have rl := rd_lit (w7.setCell ⟨wr.heap.size, 3, none⟩ (.slice A7 x.list.length c7)) (bkV x A7 c7) 50; rw [es] at rl; clear es) | (at_builtin; refine wpList_app rfl (.tmp 33) (.tmp 35) 24 rfl el_bk rfl (own_alloc oA _) rfl rl rfl (bkV_one x A7 c7) (by simp only [maxLen]; omega) (by omega) (by simp; omega) ?_; intro A8 c8 w8 o8 ch8 d8 _; have kg8 := (kg7s.alloc (.cells (bkV x A7 c7).toArray 50)).chg ch8 (fun e => by have := unhide HRO _ e; omega); have h1 : w8.cell? ⟨g, 1, none⟩ = some (.slice A' k c') := kg8.cell 1; have h2 : w8.frozen? ⟨g, 1, none⟩ = false := kg8.frozen 1))
      have b37 : Below wr.heap.size wr (w7.setCell ⟨wr.heap.size, 3, none⟩ (.slice A7 x.list.length c7)) := b57.trans (chS.below (fun q hq e => by omega) b57.size)
      have hx : bkO x (w7.setCell ⟨wr.heap.size, 3, none⟩ (.slice A7 x.list.length c7)) (bkV x A7 c7) (blk A7) := ⟨A7, c7, rfl, own_base0 o7s, rfl⟩
      have hfb : ∀ q ∈ blk A7, wr.heap.size ≤ q := fun q hq => by have := (blk_own o7s hq).2.1; have := b5.size; omega
      obtain ⟨hall8, hnd8, hF8, hown8⟩ := grow_step bkO_good bk_good hall hnd (unhide HF) hown hwr b37 hx (blk_nodup _) hfb ch8 d8 (by simpa [bkV] using o8)
      have chG : Chg (fun q => q = g) w8 (w8.setCell ⟨g, 1, none⟩ (.slice A8 (k + 1) c8)) := (Chg.refl (fun q => q = g) w8).setCell (p := ⟨g, 1, none⟩) (.inl rfl) _
      have hall9 := hall8.keep bkO_good (w' := w8.setCell ⟨g, 1, none⟩ (.slice A8 (k + 1) c8)) (fun q hq hqw => chG.block q hqw (fun e => by have := (hF8 q hq).1; omega))
      have hrg8 := own_rng hown8
      have hown9 := own_chg hown8 chG (fun q hq e => by have := hrg8 q hq; omega)
      have kg9 : Blk (w8.setCell ⟨g, 1, none⟩ (.slice A8 (k + 1) c8)) g 27 #[.slice B1 t.base.length d1, .slice A8 (k + 1) c8, .slice B3 t.before.length d3] := kg8.set_ 1 _
      have hr1 := unhide HR1
      have hr3 := unhide HR3
      have far : ∀ q, q < W2.heap.size → ¬ A' = some ⟨q, 0, none⟩ := fun q hq e => by have := unhide HRO q e; omega
      have hga : ∀ q, W.heap.size ≤ q → q < W2.heap.size → q ≠ g → (w8.setCell ⟨g, 1, none⟩ (.slice A8 (k + 1) c8)).heap[q]? = wr.heap[q]? := fun q h1 h2 h3 => by
        have t1 := hs7
        have t2 := chS.size
        rw [chG.block q (by have := ch8.size; simp at this; omega) h3, ch8.block q (by simp; omega) (far q h2), Below.heap_alloc _ _ _ (by omega), chS.block q (by omega) (by omega), b57.block q (by omega)]
      have p19 := own_keep p1 (w' := w8.setCell ⟨g, 1, none⟩ (.slice A8 (k + 1) c8)) (fun q hq hqw => hga q (hr1 q hq).1 (hr1 q hq).2 (fun e => unhide HGA1 (by rw [← e]; exact hq)))
      have p39 := own_keep p3 (w' := w8.setCell ⟨g, 1, none⟩ (.slice A8 (k + 1) c8)) (fun q hq hqw => hga q (hr3 q hq).1 (hr3 q hq).2 (fun e => unhide HGA3 (by rw [← e]; exact hq)))
      have hsz9 : W2.heap.size ≤ (w8.setCell ⟨g, 1, none⟩ (.slice A8 (k + 1) c8)).heap.size := by have := ch8.size; have := chG.size; have := chS.size; simp at *; omega
      have hB9 : Below W.heap.size W (w8.setCell ⟨g, 1, none⟩ (.slice A8 (k + 1) c8)) := ((((bthen hB b57).trans (chS.below (fun q hq e => by omega) (by omega))).alloc (by have := chS.size; omega) _).trans (ch8.below (fun q hq e => by have := unhide HRO q e; omega) (by have := chS.size; simp; omega))).trans (chG.below (fun q hq e => by have := unhide HGW; omega) (by have := ch8.size; have := chS.size; simp at *; omega))
      have HF8h := hide hF8
      go_roundw
      case rel => exact ⟨k + 1, A8, c8, _, _, by omega, by go_num, by rw [unhide HT]; exact hall9, hnd8, HF8h, hown9, kg9, p19, p39, hsz9, hB9⟩
      case measure => simp [intOf]; omega
    · obtain rfl : k = t.blocks.length := by omega
      rw [List.take_length] at hall
      have hgd := grow_done hall hnd (unhide HF) hown
      have kR := unhide HK1 wr hB
      have hwW := hB.size
      go_wp2_with (refine wpList_store_row rfl 27 (.tmp 2) (.tmp 38) rfl (w.heap.size + 1) #[.slice B1 t.base.length d1, .slice A' t.blocks.length c', .slice B3 t.before.length d3] rfl rfl 27 #[.slice none 0 0, .slice none 0 0, .slice none 0 0] kR info_tr rfl (sl3_one _ _ _ _ _ _ _ _ _) ?_)
      refine bodyPost_ret (v := .agg #[.slice B1 t.base.length d1, .slice A' t.blocks.length c', .slice B3 t.before.length d3]) (results_cell_row (p := 2) (ty := 27) rfl _ _ (w.heap.size + 1) 27 #[.slice B1 t.base.length d1, .slice A' t.blocks.length c', .slice B3 t.before.length d3] (0, 0) _ rfl (blk_setRow kR) Tryz.underlying27 rfl info_tr) rfl ?_
      refine ⟨B1, d1, A', c', B3, d3, _, rfl, ⟨own_base (own_setRow p1 (by omega) _) (by omega), hgd.1.keep bkO_good (fun q hq _ => setRow_other wr (w.heap.size + 1) q _ (by have := hgd.2 q hq; omega)), own_base (own_setRow p3 (by omega) _) (by omega), fun q hq => by have := hgd.2 q hq; omega, fun q hq hq2 => ?_, unhide HA13, fun q hq hq2 => ?_⟩, below_setRow (bthen' hb0 hB) (by omega) _⟩
      · have := unhide HR1 q hq
        have := hgd.2 q hq2
        omega
      · have := unhide HR3 q hq
        have := hgd.2 q hq2
        omega
end Go.Proofs.YtefdhlfljpppfaaGreat
namespace Go.Proofs.YtefdhlfljpppfaaGreat
open Go.RowKit
set_option linter.unusedVariables false
set_option linter.unusedSimpArgs false

def keepB (t : Tr) (n : Int) (k : Nat) : Bool := decide ((k : Int) ∈ pathT t n) || decide (n ∈ pathT t (k : Int))
def keptGo (t : Tr) (n : Int) : Nat → List Int
  | 0 => []
  | k + 1 => if keepB t n k = true then keptGo t n k ++ [(k : Int)] else keptGo t n k
/-- the blocks that are kept -/
def keptL (t : Tr) (n : Int) : List Int := if treeB t = true ∧ inB n 0 ((t.blocks.length : Int) - 1) = true then keptGo t n t.blocks.length else []
theorem keptL_yes {t : Tr} {n : Int} (h : treeB t = true) (hn : inB n 0 ((t.blocks.length : Int) - 1) = true) : keptL t n = keptGo t n t.blocks.length := by rw [keptL, if_pos ⟨h, hn⟩]
theorem keptL_no {t : Tr} {n : Int} (h : treeB t = false) : keptL t n = [] := by rw [keptL, if_neg (by simp [h])]
theorem keptL_no2 {t : Tr} {n : Int} (h : inB n 0 ((t.blocks.length : Int) - 1) = false) : keptL t n = [] := by rw [keptL, if_neg (by simp [h])]
theorem keptGo_len (t : Tr) (n : Int) : ∀ k, (keptGo t n k).length ≤ k
  | 0 => Nat.le_refl _
  | k + 1 => by
    have := keptGo_len t n k
    rw [keptGo]
    split <;> simp <;> omega
theorem keptGo_mem (t : Tr) (n : Int) : ∀ k, ∀ x ∈ keptGo t n k, 0 ≤ x ∧ x < k
  | 0, x, h => by cases h
  | k + 1, x, h => by
    rw [keptGo] at h
    split at h
    · rcases List.mem_append.1 h with h | h
      · have := keptGo_mem t n k x h; omega
      · rw [List.mem_singleton] at h; omega
    · have := keptGo_mem t n k x h; omega
theorem keptL_mem {t : Tr} {n x : Int} (h : x ∈ keptL t n) : treeB t = true ∧ 0 ≤ x ∧ x < t.blocks.length := by
  unfold keptL at h
  split at h
  · rename_i hc
    exact ⟨hc.1, keptGo_mem t n _ x h⟩
  · cases h
theorem keptL_len (t : Tr) (n : Int) : (keptL t n).length ≤ t.blocks.length := by
  unfold keptL
  split
  · exact keptGo_len t n _
  · simp
set_option maxRecDepth 100000 in
set_option maxHeartbeats 4000000 in
theorem isBefore_spec (t : Tr) (A1 : Option Addr) (c1 : Nat) (A2 : Option Addr) (c2 : Nat) (A3 : Option Addr) (c3 : Nat) (a b : Int) (w : World) (h : TrR w t A1 A2 A3) (hb1 : t.base.length ≤ 1099511627776) (hb2 : t.blocks.length ≤ 1099511627776) (hbs : ∀ x ∈ t.blocks, x.list.length ≤ 1099511627776) (hb3 : t.before.length ≤ 1099511627776) :
    Calls Tryz.prog 96 #[.agg (trA t A1 c1 A2 c2 A3 c3), .int .i64 a, .int .i64 b] w fun e w' => e = .returned (.bool (decide (a ∈ pathS t b))) ∧ Below w.heap.size w w' := by
  have hb0 : Below w.heap.size w (w.alloc (.cells (trA t A1 c1 A2 c2 A3 c3) 27)) := (Below.refl _ _).alloc (Nat.le_refl _) _
  have k0 := Blk.new w 27 (trA t A1 c1 A2 c2 A3 c3)
  have x0 : (w.alloc (.cells (trA t A1 c1 A2 c2 A3 c3) 27)).cell? ⟨w.heap.size, 0, none⟩ = some (.slice A1 t.base.length c1) := k0.cell 0
  have x1 : (w.alloc (.cells (trA t A1 c1 A2 c2 A3 c3) 27)).cell? ⟨w.heap.size, 1, none⟩ = some (.slice A2 t.blocks.length c2) := k0.cell 1
  have x2 : (w.alloc (.cells (trA t A1 c1 A2 c2 A3 c3) 27)).cell? ⟨w.heap.size, 2, none⟩ = some (.slice A3 t.before.length c3) := k0.cell 2
  have KP := path_spec t A1 c1 A2 c2 A3 c3 b _ (h.new hb0) hb1 hb2 hbs hb3
  simp only [trA] at KP hb0 x0 x1 x2 k0 ⊢
  clear hbs h k0
  go_enter Tryz.func96, Tryz.ntmps96
  go_wp2_with fail
  refine KP.mono ?_
  rintro e w3 ⟨AP, cp, rfl, o3, b3⟩
  have hB := bthen hb0 b3
  have hpl := pathS_len t b
  have rp := own_rd o3
  clear KP x0 x1 x2 hb0 b3
  generalize hps : pathS t b = ps at *
  have HPS := hide hps
  clear hps
  go_wp2
  go_loop [8] (fun i => ∃ (k : Nat), k ≤ ps.length ∧ i = .int .i64 k ∧ Hid (a ∉ ps.take k)) (fun i => ps.length - (intOf i).toNat)
  case atStart => exact ⟨0, Nat.zero_le _, rfl, hide (by simp)⟩
  case round =>
    obtain ⟨k, hk, rfl, HN⟩ := hrel
    by_cases hlt : k < ps.length
    · have i1 : (k : Int) < (ps.length : Int) := by omega
      obtain ⟨bp, offp, rfl, hpb, zp⟩ := rp.int hlt
      have HT := hide (List.take_succ_eq_append_getElem hlt)
      have HM := hide (List.getElem_mem hlt)
      generalize ps[k] = p at *
      by_cases he : p = a
      · have he2 : (p == a) = true := by simpa using he
        have HR := hide (show decide (a ∈ pathS t b) = true by rw [unhide HPS, ← he]; exact decide_eq_true (unhide HM))
        clear he
        go_wp2
        go_ret
        exact ⟨retb (unhide HR).symm, hB⟩
      · have he2 : (p == a) = false := by simpa using he
        have HN2 := hide (show a ∉ ps.take (k + 1) by
          rw [unhide HT, List.mem_append, List.mem_singleton]
          rintro (h | h)
          · exact unhide HN h
          · exact he h.symm)
        clear he
        go_wp2
        go_round
        case rel => exact ⟨k + 1, by omega, by go_num, HN2⟩
        case measure => simp [intOf]; omega
    · obtain rfl : k = ps.length := by omega
      have HR := hide (show decide (a ∈ pathS t b) = false by
        have h1 := unhide HN
        rw [List.take_length] at h1
        rw [unhide HPS]
        exact decide_eq_false h1)
      go_wp2
      go_ret
      exact ⟨retb (unhide HR).symm, hB⟩
set_option maxRecDepth 100000 in
set_option maxHeartbeats 8000000 in
theorem kept_impl (t : Tr) (A1 : Option Addr) (c1 : Nat) (A2 : Option Addr) (c2 : Nat) (A3 : Option Addr) (c3 : Nat) (n : Int) (w : World) (h : TrR w t A1 A2 A3) (hb1 : t.base.length ≤ 1099511627776) (hb2 : t.blocks.length ≤ 1099511627776) (hbs : ∀ x ∈ t.blocks, x.list.length ≤ 1099511627776) (hb3 : t.before.length ≤ 1099511627776) :
    Calls Tryz.prog 26 #[.agg (trA t A1 c1 A2 c2 A3 c3), .int .i64 n] w fun e w' => ∃ A' c', e = .returned (.slice A' (keptL t n).length c') ∧ w'.ownsRow w.heap.size 3 1 (.slice A' (keptL t n).length c') (keptL t n).length ((keptL t n).map (.int .i64)) ∧ Below w.heap.size w w' := by
  have HBS := hide hbs
  clear hbs
  have HR := hide (fun w' (hb : Below w.heap.size w w') => h.new hb)
  have KP := hide (fun m w' (hb : Below w.heap.size w w') hv hn0 hn1 => path_impl t A1 c1 A2 c2 A3 c3 m w' (unhide HR w' hb) hv hn0 hn1)
  have KH := has_impl t A1 c1 A2 c2 A3 c3 n
  simp only [trA] at KP KH ⊢
  have k0 : Blk (w.alloc (.cells #[.slice A1 t.base.length c1, .slice A2 t.blocks.length c2, .slice A3 t.before.length c3] 27)) w.heap.size 27 #[.slice A1 t.base.length c1, .slice A2 t.blocks.length c2, .slice A3 t.before.length c3] := Blk.new _ _ _
  have hb0 : Below w.heap.size w (w.alloc (.cells #[.slice A1 t.base.length c1, .slice A2 t.blocks.length c2, .slice A3 t.before.length c3] 27)) := (Below.refl _ _).alloc (Nat.le_refl _) _
  have hz0 : w.heap.size + 1 ≤ (w.alloc (.cells #[.slice A1 t.base.length c1, .slice A2 t.blocks.length c2, .slice A3 t.before.length c3] 27)).heap.size := by simp
  have KV := treeValid_impl t A1 c1 A2 c2 A3 c3 (w.alloc (.cells #[.slice A1 t.base.length c1, .slice A2 t.blocks.length c2, .slice A3 t.before.length c3] 27)) (unhide HR _ hb0) hb1 hb2 (unhide HBS) hb3
  simp only [trA] at KV
  have x0 : (w.alloc (.cells #[.slice A1 t.base.length c1, .slice A2 t.blocks.length c2, .slice A3 t.before.length c3] 27)).cell? ⟨w.heap.size, 0, none⟩ = some (.slice A1 t.base.length c1) := k0.cell 0
  have x1 : (w.alloc (.cells #[.slice A1 t.base.length c1, .slice A2 t.blocks.length c2, .slice A3 t.before.length c3] 27)).cell? ⟨w.heap.size, 1, none⟩ = some (.slice A2 t.blocks.length c2) := k0.cell 1
  have x2 : (w.alloc (.cells #[.slice A1 t.base.length c1, .slice A2 t.blocks.length c2, .slice A3 t.before.length c3] 27)).cell? ⟨w.heap.size, 2, none⟩ = some (.slice A3 t.before.length c3) := k0.cell 2
  clear h
  go_enter Tryz.func26, Tryz.ntmps26
  go_wp2_with fail
  refine KV.mono ?_
  rintro e w3 ⟨rfl, b3⟩
  replace k0 := k0.new_ b3
  have hw3 : w.heap.size + 1 ≤ w3.heap.size := Nat.le_trans hz0 b3.size
  replace hb0 := bthen hb0 b3
  clear KV x0 x1 x2 b3 hz0
  have x0 : w3.cell? ⟨w.heap.size, 0, none⟩ = some (.slice A1 t.base.length c1) := k0.cell 0
  have x1 : w3.cell? ⟨w.heap.size, 1, none⟩ = some (.slice A2 t.blocks.length c2) := k0.cell 1
  have x2 : w3.cell? ⟨w.heap.size, 2, none⟩ = some (.slice A3 t.before.length c3) := k0.cell 2
  cases hv : treeB t
  · have HA := hide (keptL_no (n := n) hv)
    go_wp2
    go_ret
    rw [unhide HA]
    exact ⟨none, 0, rfl, own_nil _ _ _ _, hb0⟩
  have HV := hide hv
  have hl14 := (treeB_yes hv).2.2.1
  clear hv
  cases hin : inB n 0 ((t.blocks.length : Int) - 1)
  · have HA := hide (keptL_no2 hin)
    go_wp2_with fail
    refine (KH w3 hb2).mono ?_
    rintro e w4 ⟨rfl, b4⟩
    rw [hin]
    replace hb0 := bthen hb0 b4
    go_wp2
    go_ret
    rw [unhide HA]
    exact ⟨none, 0, rfl, own_nil _ _ _ _, hb0⟩
  have HIN := hide hin
  have hib := inB_true.1 hin
  go_wp2_with fail
  refine (KH w3 hb2).mono ?_
  rintro e w4 ⟨rfl, b4⟩
  rw [hin]
  replace k0 := k0.new_ b4
  replace hw3 := Nat.le_trans hw3 b4.size
  replace hb0 := bthen hb0 b4
  have y1 : w4.cell? ⟨w.heap.size, 1, none⟩ = some (.slice A2 t.blocks.length c2) := k0.cell 1
  clear hin
  go_wp2
  go_loopw [5, 6, 19] (fun s _ i wr => ∃ (k : Nat) (A' : Option Addr) (c' : Nat) (ys : List Int), k ≤ t.blocks.length ∧ i = .int .i64 k ∧ s = .slice A' ys.length c' ∧ Hid (ys = keptGo t n k) ∧ ys.length ≤ 14 ∧ wr.ownsRow (w.heap.size + 1) 3 1 (.slice A' ys.length c') ys.length (ys.map (.int .i64)) ∧ Blk wr w.heap.size 27 #[.slice A1 t.base.length c1, .slice A2 t.blocks.length c2, .slice A3 t.before.length c3] ∧ w.heap.size + 1 ≤ wr.heap.size ∧ Below w.heap.size w wr) (fun _ _ i _ => t.blocks.length - (intOf i).toNat)
  case atStart => exact ⟨0, none, 0, [], Nat.zero_le _, rfl, rfl, hide rfl, by simp, own_nil _ _ _ _, k0, hw3, hb0⟩
  case round =>
    clear k0 hw3 hb0 x0 x1 x2 y1
    obtain ⟨k, A', c', ys, hk, rfl, rfl, HY, hyl, hown, kb, hwr, hB⟩ := hrel
    have z0 : wr.cell? ⟨w.heap.size, 0, none⟩ = some (.slice A1 t.base.length c1) := kb.cell 0
    have z1 : wr.cell? ⟨w.heap.size, 1, none⟩ = some (.slice A2 t.blocks.length c2) := kb.cell 1
    have z2 : wr.cell? ⟨w.heap.size, 2, none⟩ = some (.slice A3 t.before.length c3) := kb.cell 2
    by_cases hlt : k < t.blocks.length
    · have i1 : (k : Int) < (t.blocks.length : Int) := by omega
      have HKG := hide (show keptGo t n (k + 1) = if keepB t n k = true then ys ++ [(k : Int)] else ys by rw [keptGo, unhide HY])
      by_cases hm1 : (k : Int) ∈ pathT t n
      · have HM := hide (decide_eq_true hm1)
        have HKB := hide (show keepB t n k = true by simp [keepB, hm1])
        clear hm1
        go_wp2_with fail
        refine (unhide KP n wr hB (unhide HV) (by omega) (by omega)).mono ?_
        rintro e w4 ⟨AP, cp, rfl, oP, b4⟩
        have hpl := pathT_len t n
        have KC := containsI_any AP cp (pathT t n) (k : Int) w4 (own_rd oP) (by omega)
        go_wp2_with fail
        refine KC.mono ?_
        rintro e w' ⟨rfl, rfl⟩
        have hB4 := bthen hB b4
        have kb4 := kb.new_ b4
        have hs4 := b4.size
        have ow4 := own_new hown b4
        clear KC oP
        rw [unhide HM]
        go_wp2_with (at_builtin; refine wpList_app rfl (.tmp 34) (.tmp 36) 25 rfl el_int rfl (own_alloc ow4 _) rfl (rd_lit w4 [.int .i64 (k : Int)] _) rfl (one_ints [(k : Int)]) (by simp only [maxLen]; omega) (by omega) (by simp; omega) ?_; intro A8 c8 w8 o8 ch8 d8 _)
        have hrg := own_rng hown
        have kb8 := (kb4.alloc (.cells #[.int .i64 (k : Int)] 3)).chg ch8 (fun e => by have := hrg _ e; omega)
        have hB8 : Below w.heap.size w w8 := (hB4.alloc (by omega) _).trans (ch8.below (fun q hq e => by have := hrg q e; omega) (by simp; omega))
        have hs8 := ch8.size
        have hz8 : w.heap.size + 1 ≤ w8.heap.size := by simp at hs8; omega
        have HKN := hide (show ys ++ [(k : Int)] = keptGo t n (k + 1) by rw [unhide HKG, if_pos (unhide HKB)])
        have hln : (ys ++ [(k : Int)]).length ≤ 14 := by rw [unhide HKN]; have := keptGo_len t n (k + 1); omega
        go_roundw
        case rel => exact ⟨k + 1, A8, c8, ys ++ [(k : Int)], by omega, by go_num, by simp, HKN, hln, by simpa using o8, kb8, hz8, hB8⟩
        case measure => simp [intOf]; omega
      have HM := hide (decide_eq_false hm1)
      have HM1 := hide hm1
      clear hm1
      by_cases hm2 : n ∈ pathT t (k : Int)
      · have HM2 := hide (decide_eq_true hm2)
        have HKB := hide (show keepB t n k = true by
          have hm1 := unhide HM1
          simp [keepB, hm2])
        clear hm2
        go_wp2_with fail
        refine (unhide KP n wr hB (unhide HV) (by omega) (by omega)).mono ?_
        rintro e w4 ⟨AP, cp, rfl, oP, b4⟩
        have hpl := pathT_len t n
        have KC := containsI_any AP cp (pathT t n) (k : Int) w4 (own_rd oP) (by omega)
        go_wp2_with fail
        refine KC.mono ?_
        rintro e w' ⟨rfl, rfl⟩
        have hB4 := bthen hB b4
        have kb4 := kb.new_ b4
        have hs4 := b4.size
        have ow4 := own_new hown b4
        clear KC oP
        rw [unhide HM]
        have y0 : w4.cell? ⟨w.heap.size, 0, none⟩ = some (.slice A1 t.base.length c1) := kb4.cell 0
        have y1 : w4.cell? ⟨w.heap.size, 1, none⟩ = some (.slice A2 t.blocks.length c2) := kb4.cell 1
        have y2 : w4.cell? ⟨w.heap.size, 2, none⟩ = some (.slice A3 t.before.length c3) := kb4.cell 2
        go_wp2_with fail
        refine (unhide KP (k : Int) w4 hB4 (unhide HV) (by omega) (by omega)).mono ?_
        rintro e w5 ⟨AQ, cq, rfl, oQ, b5⟩
        have hpl2 := pathT_len t (k : Int)
        have KC := containsI_any AQ cq (pathT t (k : Int)) n w5 (own_rd oQ) (by omega)
        go_wp2_with fail
        refine KC.mono ?_
        rintro e w' ⟨rfl, rfl⟩
        clear KC oQ
        have hB5 := bthen hB4 b5
        have kb5 := kb4.new_ b5
        have hs5 := b5.size
        have ow5 := own_new ow4 b5
        rw [unhide HM2]
        go_wp2_with (at_builtin; refine wpList_app rfl (.tmp 34) (.tmp 36) 25 rfl el_int rfl (own_alloc ow5 _) rfl (rd_lit w5 [.int .i64 (k : Int)] _) rfl (one_ints [(k : Int)]) (by simp only [maxLen]; omega) (by omega) (by simp; omega) ?_; intro A8 c8 w8 o8 ch8 d8 _)
        have hrg := own_rng hown
        have kb8 := (kb5.alloc (.cells #[.int .i64 (k : Int)] 3)).chg ch8 (fun e => by have := hrg _ e; omega)
        have hB8 : Below w.heap.size w w8 := (hB5.alloc (by omega) _).trans (ch8.below (fun q hq e => by have := hrg q e; omega) (by simp; omega))
        have hs8 := ch8.size
        have hz8 : w.heap.size + 1 ≤ w8.heap.size := by simp at hs8; omega
        have HKN := hide (show ys ++ [(k : Int)] = keptGo t n (k + 1) by rw [unhide HKG, if_pos (unhide HKB)])
        have hln : (ys ++ [(k : Int)]).length ≤ 14 := by rw [unhide HKN]; have := keptGo_len t n (k + 1); omega
        go_roundw
        case rel => exact ⟨k + 1, A8, c8, ys ++ [(k : Int)], by omega, by go_num, by simp, HKN, hln, by simpa using o8, kb8, hz8, hB8⟩
        case measure => simp [intOf]; omega
      · have HM2 := hide (decide_eq_false hm2)
        have HKN := hide (show ys = keptGo t n (k + 1) by
          have hm1 := unhide HM1
          rw [unhide HKG, if_neg (by simp [keepB, hm1, hm2])])
        clear hm2
        go_wp2_with fail
        refine (unhide KP n wr hB (unhide HV) (by omega) (by omega)).mono ?_
        rintro e w4 ⟨AP, cp, rfl, oP, b4⟩
        have hpl := pathT_len t n
        have KC := containsI_any AP cp (pathT t n) (k : Int) w4 (own_rd oP) (by omega)
        go_wp2_with fail
        refine KC.mono ?_
        rintro e w' ⟨rfl, rfl⟩
        have hB4 := bthen hB b4
        have kb4 := kb.new_ b4
        have hs4 := b4.size
        have ow4 := own_new hown b4
        clear KC oP
        rw [unhide HM]
        have y0 : w4.cell? ⟨w.heap.size, 0, none⟩ = some (.slice A1 t.base.length c1) := kb4.cell 0
        have y1 : w4.cell? ⟨w.heap.size, 1, none⟩ = some (.slice A2 t.blocks.length c2) := kb4.cell 1
        have y2 : w4.cell? ⟨w.heap.size, 2, none⟩ = some (.slice A3 t.before.length c3) := kb4.cell 2
        go_wp2_with fail
        refine (unhide KP (k : Int) w4 hB4 (unhide HV) (by omega) (by omega)).mono ?_
        rintro e w5 ⟨AQ, cq, rfl, oQ, b5⟩
        have hpl2 := pathT_len t (k : Int)
        have KC := containsI_any AQ cq (pathT t (k : Int)) n w5 (own_rd oQ) (by omega)
        go_wp2_with fail
        refine KC.mono ?_
        rintro e w' ⟨rfl, rfl⟩
        clear KC oQ
        have hB5 := bthen hB4 b5
        have kb5 := kb4.new_ b5
        have hs5 := b5.size
        have ow5 := own_new ow4 b5
        rw [unhide HM2]
        go_wp2
        go_roundw
        case rel => exact ⟨k + 1, A', c', ys, by omega, by go_num, rfl, HKN, hyl, ow5, kb5, by omega, hB5⟩
        case measure => simp [intOf]; omega
    · obtain rfl : k = t.blocks.length := by omega
      have HA := hide (show keptL t n = ys by rw [keptL_yes (unhide HV) (unhide HIN), unhide HY])
      go_wp2
      go_ret
      rw [unhide HA]
      exact ⟨A', c', rfl, own_base hown (by omega), hB⟩
set_option maxRecDepth 100000 in
set_option maxHeartbeats 8000000 in
theorem kept_spec (t : Tr) (A1 : Option Addr) (c1 : Nat) (A2 : Option Addr) (c2 : Nat) (A3 : Option Addr) (c3 : Nat) (n : Int) (w : World) (h : TrR w t A1 A2 A3) (hb1 : t.base.length ≤ 1099511627776) (hb2 : t.blocks.length ≤ 1099511627776) (hbs : ∀ x ∈ t.blocks, x.list.length ≤ 1099511627776) (hb3 : t.before.length ≤ 1099511627776) :
    Calls Tryz.prog 60 #[.agg (trA t A1 c1 A2 c2 A3 c3), .int .i64 n] w fun e w' => ∃ A' c', e = .returned (.slice A' (keptL t n).length c') ∧ w'.ownsRow w.heap.size 3 1 (.slice A' (keptL t n).length c') (keptL t n).length ((keptL t n).map (.int .i64)) ∧ Below w.heap.size w w' := by
  have HBS := hide hbs
  clear hbs
  have HR := hide (fun w' (hb : Below w.heap.size w w') => h.new hb)
  have KP := hide (fun a b w' (hb : Below w.heap.size w w') => isBefore_spec t A1 c1 A2 c2 A3 c3 a b w' (unhide HR w' hb) hb1 hb2 (unhide HBS) hb3)
  simp only [trA] at KP ⊢
  have k0 : Blk ((w.alloc (.cells #[.slice A1 t.base.length c1, .slice A2 t.blocks.length c2, .slice A3 t.before.length c3] 27)).alloc (.cells #[] 3)) w.heap.size 27 #[.slice A1 t.base.length c1, .slice A2 t.blocks.length c2, .slice A3 t.before.length c3] := (Blk.new _ _ _).alloc _
  have hb0 : Below w.heap.size w ((w.alloc (.cells #[.slice A1 t.base.length c1, .slice A2 t.blocks.length c2, .slice A3 t.before.length c3] 27)).alloc (.cells #[] 3)) := ((Below.refl _ _).alloc (Nat.le_refl _) _).alloc (by simp) _
  have hz0 : w.heap.size + 1 ≤ ((w.alloc (.cells #[.slice A1 t.base.length c1, .slice A2 t.blocks.length c2, .slice A3 t.before.length c3] 27)).alloc (.cells #[] 3)).heap.size := by simp
  have KV := treeValid_spec t A1 c1 A2 c2 A3 c3 ((w.alloc (.cells #[.slice A1 t.base.length c1, .slice A2 t.blocks.length c2, .slice A3 t.before.length c3] 27)).alloc (.cells #[] 3)) (unhide HR _ hb0) hb1 hb2 (unhide HBS) hb3
  simp only [trA] at KV
  have oe : ((w.alloc (.cells #[.slice A1 t.base.length c1, .slice A2 t.blocks.length c2, .slice A3 t.before.length c3] 27)).alloc (.cells #[] 3)).ownsRow (w.heap.size + 1) 3 1 (.slice (some ⟨w.heap.size + 1, 0, none⟩) 0 0) 0 [] := by
    have := own_made (base := w.heap.size + 1) (e := 3) (size := 1) (w.alloc (.cells #[.slice A1 t.base.length c1, .slice A2 t.blocks.length c2, .slice A3 t.before.length c3] 27)) #[] 0 (by simp) (by simp [maxLen]) rfl
    simpa using this
  have x0 : ((w.alloc (.cells #[.slice A1 t.base.length c1, .slice A2 t.blocks.length c2, .slice A3 t.before.length c3] 27)).alloc (.cells #[] 3)).cell? ⟨w.heap.size, 0, none⟩ = some (.slice A1 t.base.length c1) := k0.cell 0
  have x1 : ((w.alloc (.cells #[.slice A1 t.base.length c1, .slice A2 t.blocks.length c2, .slice A3 t.before.length c3] 27)).alloc (.cells #[] 3)).cell? ⟨w.heap.size, 1, none⟩ = some (.slice A2 t.blocks.length c2) := k0.cell 1
  have x2 : ((w.alloc (.cells #[.slice A1 t.base.length c1, .slice A2 t.blocks.length c2, .slice A3 t.before.length c3] 27)).alloc (.cells #[] 3)).cell? ⟨w.heap.size, 2, none⟩ = some (.slice A3 t.before.length c3) := k0.cell 2
  clear h
  go_enter Tryz.func60, Tryz.ntmps60
  go_wp2_with fail
  refine KV.mono ?_
  rintro e w3 ⟨rfl, b3⟩
  replace k0 := k0.new_ b3
  have hw3 : w.heap.size + 1 ≤ w3.heap.size := Nat.le_trans hz0 b3.size
  replace hb0 := bthen hb0 b3
  replace oe := own_new oe b3
  clear KV x0 x1 x2 b3 hz0
  have x0 : w3.cell? ⟨w.heap.size, 0, none⟩ = some (.slice A1 t.base.length c1) := k0.cell 0
  have x1 : w3.cell? ⟨w.heap.size, 1, none⟩ = some (.slice A2 t.blocks.length c2) := k0.cell 1
  have x2 : w3.cell? ⟨w.heap.size, 2, none⟩ = some (.slice A3 t.before.length c3) := k0.cell 2
  cases hv : treeB t
  · have HA := hide (keptL_no (n := n) hv)
    go_wp2
    go_ret
    rw [unhide HA]
    exact ⟨_, _, rfl, own_base oe (by omega), hb0⟩
  have HV := hide hv
  have hl14 := (treeB_yes hv).2.2.1
  clear hv
  cases hin : inB n 0 ((t.blocks.length : Int) - 1)
  · have HA := hide (keptL_no2 hin)
    go_wp2_with (go_at_call 41; refine (l1In_any _ _ _ _).mono ?_; rintro e w' ⟨rfl, rfl⟩; rw [hin])
    go_ret
    rw [unhide HA]
    exact ⟨_, _, rfl, own_base oe (by omega), hb0⟩
  have HIN := hide hin
  have hib := inB_true.1 hin
  go_wp2_with (go_at_call 41; refine (l1In_any _ _ _ _).mono ?_; rintro e w' ⟨rfl, rfl⟩; rw [hin])
  clear hin
  go_loopw [5, 6] (fun s i wr => ∃ (k : Nat) (A' : Option Addr) (c' : Nat) (ys : List Int), k ≤ t.blocks.length ∧ i = .int .i64 k ∧ s = .slice A' ys.length c' ∧ Hid (ys = keptGo t n k) ∧ ys.length ≤ 14 ∧ wr.ownsRow (w.heap.size + 1) 3 1 (.slice A' ys.length c') ys.length (ys.map (.int .i64)) ∧ Blk wr w.heap.size 27 #[.slice A1 t.base.length c1, .slice A2 t.blocks.length c2, .slice A3 t.before.length c3] ∧ w.heap.size + 1 ≤ wr.heap.size ∧ Below w.heap.size w wr) (fun _ i _ => t.blocks.length - (intOf i).toNat)
  case atStart => exact ⟨0, _, _, [], Nat.zero_le _, rfl, rfl, hide rfl, by simp, by simpa using oe, k0, hw3, hb0⟩
  case round =>
    clear k0 hw3 hb0 x0 x1 x2 oe
    obtain ⟨k, A', c', ys, hk, rfl, rfl, HY, hyl, hown, kb, hwr, hB⟩ := hrel
    have z0 : wr.cell? ⟨w.heap.size, 0, none⟩ = some (.slice A1 t.base.length c1) := kb.cell 0
    have z1 : wr.cell? ⟨w.heap.size, 1, none⟩ = some (.slice A2 t.blocks.length c2) := kb.cell 1
    have z2 : wr.cell? ⟨w.heap.size, 2, none⟩ = some (.slice A3 t.before.length c3) := kb.cell 2
    by_cases hlt : k < t.blocks.length
    · have i1 : (k : Int) < (t.blocks.length : Int) := by omega
      have HKG := hide (show keptGo t n (k + 1) = if keepB t n k = true then ys ++ [(k : Int)] else ys by rw [keptGo, unhide HY])
      by_cases hm1 : (k : Int) ∈ pathS t n
      · have HM := hide (decide_eq_true hm1)
        have HKB := hide (show keepB t n k = true by rw [show pathS t n = pathT t n by unfold pathS; rw [if_pos (unhide HV)]] at hm1; simp [keepB, hm1])
        clear hm1
        go_wp2_with fail
        refine (unhide KP (k : Int) n wr hB).mono ?_
        rintro e w4 ⟨rfl, b4⟩
        have hB4 := bthen hB b4
        have kb4 := kb.new_ b4
        have hs4 := b4.size
        have ow4 := own_new hown b4
        rw [unhide HM]
        go_wp2_with (at_builtin; refine wpList_app rfl (.tmp 38) (.tmp 40) 25 rfl el_int rfl (own_alloc ow4 _) rfl (rd_lit w4 [.int .i64 (k : Int)] _) rfl (one_ints [(k : Int)]) (by simp only [maxLen]; omega) (by omega) (by simp; omega) ?_; intro A8 c8 w8 o8 ch8 d8 _)
        have hrg := own_rng hown
        have kb8 := (kb4.alloc (.cells #[.int .i64 (k : Int)] 3)).chg ch8 (fun e => by have := hrg _ e; omega)
        have hB8 : Below w.heap.size w w8 := (hB4.alloc (by omega) _).trans (ch8.below (fun q hq e => by have := hrg q e; omega) (by simp; omega))
        have hs8 := ch8.size
        have hz8 : w.heap.size + 1 ≤ w8.heap.size := by simp at hs8; omega
        have HKN := hide (show ys ++ [(k : Int)] = keptGo t n (k + 1) by rw [unhide HKG, if_pos (unhide HKB)])
        have hln : (ys ++ [(k : Int)]).length ≤ 14 := by rw [unhide HKN]; have := keptGo_len t n (k + 1); omega
        go_roundw
        case rel => exact ⟨k + 1, A8, c8, ys ++ [(k : Int)], by omega, by go_num, by simp, HKN, hln, by simpa using o8, kb8, hz8, hB8⟩
        case measure => simp [intOf]; omega
      have HM := hide (decide_eq_false hm1)
      have HM1 := hide hm1
      clear hm1
      by_cases hm2 : n ∈ pathS t (k : Int)
      · have HM2 := hide (decide_eq_true hm2)
        have HKB := hide (show keepB t n k = true by
          have e1 : pathS t n = pathT t n := by unfold pathS; rw [if_pos (unhide HV)]
          have e2 : pathS t (k : Int) = pathT t (k : Int) := by unfold pathS; rw [if_pos (unhide HV)]
          have hm1 := unhide HM1
          rw [e1] at hm1
          rw [e2] at hm2
          simp [keepB, hm2])
        clear hm2
        go_wp2_with fail
        refine (unhide KP (k : Int) n wr hB).mono ?_
        rintro e w4 ⟨rfl, b4⟩
        have hB4 := bthen hB b4
        have kb4 := kb.new_ b4
        have hs4 := b4.size
        have ow4 := own_new hown b4
        rw [unhide HM]
        have y0 : w4.cell? ⟨w.heap.size, 0, none⟩ = some (.slice A1 t.base.length c1) := kb4.cell 0
        have y1 : w4.cell? ⟨w.heap.size, 1, none⟩ = some (.slice A2 t.blocks.length c2) := kb4.cell 1
        have y2 : w4.cell? ⟨w.heap.size, 2, none⟩ = some (.slice A3 t.before.length c3) := kb4.cell 2
        go_wp2_with fail
        refine (unhide KP n (k : Int) w4 hB4).mono ?_
        rintro e w5 ⟨rfl, b5⟩
        have hB5 := bthen hB4 b5
        have kb5 := kb4.new_ b5
        have hs5 := b5.size
        have ow5 := own_new ow4 b5
        rw [unhide HM2]
        go_wp2_with (at_builtin; refine wpList_app rfl (.tmp 38) (.tmp 40) 25 rfl el_int rfl (own_alloc ow5 _) rfl (rd_lit w5 [.int .i64 (k : Int)] _) rfl (one_ints [(k : Int)]) (by simp only [maxLen]; omega) (by omega) (by simp; omega) ?_; intro A8 c8 w8 o8 ch8 d8 _)
        have hrg := own_rng hown
        have kb8 := (kb5.alloc (.cells #[.int .i64 (k : Int)] 3)).chg ch8 (fun e => by have := hrg _ e; omega)
        have hB8 : Below w.heap.size w w8 := (hB5.alloc (by omega) _).trans (ch8.below (fun q hq e => by have := hrg q e; omega) (by simp; omega))
        have hs8 := ch8.size
        have hz8 : w.heap.size + 1 ≤ w8.heap.size := by simp at hs8; omega
        have HKN := hide (show ys ++ [(k : Int)] = keptGo t n (k + 1) by rw [unhide HKG, if_pos (unhide HKB)])
        have hln : (ys ++ [(k : Int)]).length ≤ 14 := by rw [unhide HKN]; have := keptGo_len t n (k + 1); omega
        go_roundw
        case rel => exact ⟨k + 1, A8, c8, ys ++ [(k : Int)], by omega, by go_num, by simp, HKN, hln, by simpa using o8, kb8, hz8, hB8⟩
        case measure => simp [intOf]; omega
      · have HM2 := hide (decide_eq_false hm2)
        have HKN := hide (show ys = keptGo t n (k + 1) by
          have e1 : pathS t n = pathT t n := by unfold pathS; rw [if_pos (unhide HV)]
          have e2 : pathS t (k : Int) = pathT t (k : Int) := by unfold pathS; rw [if_pos (unhide HV)]
          have hm1 := unhide HM1
          rw [e1] at hm1
          rw [e2] at hm2
          rw [unhide HKG, if_neg (by simp [keepB, hm1, hm2])])
        clear hm2
        go_wp2_with fail
        refine (unhide KP (k : Int) n wr hB).mono ?_
        rintro e w4 ⟨rfl, b4⟩
        have hB4 := bthen hB b4
        have kb4 := kb.new_ b4
        have hs4 := b4.size
        have ow4 := own_new hown b4
        rw [unhide HM]
        have y0 : w4.cell? ⟨w.heap.size, 0, none⟩ = some (.slice A1 t.base.length c1) := kb4.cell 0
        have y1 : w4.cell? ⟨w.heap.size, 1, none⟩ = some (.slice A2 t.blocks.length c2) := kb4.cell 1
        have y2 : w4.cell? ⟨w.heap.size, 2, none⟩ = some (.slice A3 t.before.length c3) := kb4.cell 2
        go_wp2_with fail
        refine (unhide KP n (k : Int) w4 hB4).mono ?_
        rintro e w5 ⟨rfl, b5⟩
        have hB5 := bthen hB4 b5
        have kb5 := kb4.new_ b5
        have hs5 := b5.size
        have ow5 := own_new ow4 b5
        rw [unhide HM2]
        go_wp2
        go_roundw
        case rel => exact ⟨k + 1, A', c', ys, by omega, by go_num, rfl, HKN, hyl, ow5, kb5, by omega, hB5⟩
        case measure => simp [intOf]; omega
    · obtain rfl : k = t.blocks.length := by omega
      have HA := hide (show keptL t n = ys by rw [keptL_yes (unhide HV) (unhide HIN), unhide HY])
      go_wp2
      go_ret
      rw [unhide HA]
      exact ⟨A', c', rfl, own_base hown (by omega), hB⟩
end Go.Proofs.YtefdhlfljpppfaaGreat
namespace Go.Proofs.YtefdhlfljpppfaaGreat
open Go.RowKit
set_option linter.unusedVariables false
set_option linter.unusedSimpArgs false

theorem path_self {t : Tr} (h : treeB t = true) {n : Int} (h0 : 0 ≤ n) (h1 : n < t.blocks.length) : n ∈ pathT t n := by
  rw [pathT_step h h0 h1]; simp
theorem path_ne {t : Tr} {n : Int} {x : Int} (h : x ∈ pathT t n) : 0 ≤ n ∧ n < t.blocks.length := by
  by_cases hr : 0 ≤ n ∧ n < t.blocks.length
  · exact hr
  · rw [pathT_out t hr] at h; cases h
/-- what is on the way to a block is on the way to those behind it -/
theorem path_trans {t : Tr} (h : treeB t = true) {a b : Int} (hab : a ∈ pathT t b) : ∀ (m : Nat) (c : Int), c < m → b ∈ pathT t c → a ∈ pathT t c
  | 0, c, hc, hbc => by have := path_ne hbc; omega
  | m + 1, c, hc, hbc => by
    obtain ⟨h0, h1⟩ := path_ne hbc
    have hp := pAt_lt h (k := c.toNat) (by omega)
    rw [pathT_step h h0 h1] at hbc ⊢
    rcases List.mem_append.1 hbc with hb | hb
    · exact List.mem_append_left _ (path_trans h hab m _ (by omega) hb)
    · rw [List.mem_singleton] at hb
      subst hb
      rw [← pathT_step h h0 h1]
      exact hab
theorem path_le {t : Tr} (h : treeB t = true) {a : Int} : ∀ (m : Nat) (c : Int), c < m → a ∈ pathT t c → a ≤ c
  | 0, c, hc, hac => by have := path_ne hac; omega
  | m + 1, c, hc, hac => by
    obtain ⟨h0, h1⟩ := path_ne hac
    have hp := pAt_lt h (k := c.toNat) (by omega)
    rw [pathT_step h h0 h1] at hac
    rcases List.mem_append.1 hac with hb | hb
    · have := path_le h m _ (by omega) hb; omega
    · rw [List.mem_singleton] at hb; omega
theorem path_up {t : Tr} (h : treeB t = true) {k : Nat} (hk : k < t.blocks.length) (h0 : 0 ≤ pAt t k) : pAt t k ∈ pathT t (k : Int) := by
  have hp := pAt_lt h hk
  rw [pathT_step h (by omega) (by omega)]
  refine List.mem_append_left _ ?_
  rw [Int.toNat_natCast]
  exact path_self h h0 (by omega)
def leavesGo (t : Tr) : Nat → List Int
  | 0 => []
  | n + 1 => if (n : Int) ∈ t.before then leavesGo t n else leavesGo t n ++ [(n : Int)]
/-- the blocks with nothing behind them -/
def leavesL (t : Tr) : List Int := if treeB t = true then leavesGo t t.blocks.length else []
theorem leavesL_yes {t : Tr} (h : treeB t = true) : leavesL t = leavesGo t t.blocks.length := by rw [leavesL, if_pos h]
theorem leavesL_no {t : Tr} (h : treeB t = false) : leavesL t = [] := by rw [leavesL, if_neg (by simp [h])]
theorem leavesGo_mem {t : Tr} {x : Int} : ∀ n, x ∈ leavesGo t n ↔ (0 ≤ x ∧ x < n ∧ x ∉ t.before)
  | 0 => by simp [leavesGo]; omega
  | n + 1 => by
    have ih := leavesGo_mem (t := t) (x := x) n
    rw [leavesGo]
    split
    · rename_i hm
      rw [ih]
      constructor
      · intro h; exact ⟨h.1, by omega, h.2.2⟩
      · intro h
        refine ⟨h.1, ?_, h.2.2⟩
        have : x ≠ n := fun e => h.2.2 (e ▸ hm)
        omega
    · rename_i hm
      rw [List.mem_append, List.mem_singleton, ih]
      constructor
      · rintro (h | h)
        · exact ⟨h.1, by omega, h.2.2⟩
        · subst h; exact ⟨by omega, by omega, hm⟩
      · intro h
        by_cases he : x = n
        · exact .inr he
        · exact .inl ⟨h.1, by omega, h.2.2⟩
theorem leavesGo_len (t : Tr) : ∀ n, (leavesGo t n).length ≤ n
  | 0 => Nat.le_refl _
  | n + 1 => by
    have := leavesGo_len t n
    rw [leavesGo]
    split <;> simp <;> omega
theorem leavesL_len (t : Tr) : (leavesL t).length ≤ t.blocks.length := by
  unfold leavesL
  split
  · exact leavesGo_len t _
  · simp
theorem leavesL_mem {t : Tr} (h : treeB t = true) {x : Int} : x ∈ leavesL t ↔ (0 ≤ x ∧ x < t.blocks.length ∧ x ∉ t.before) := by
  rw [leavesL_yes h]; exact leavesGo_mem _
theorem before_get {t : Tr} (h : treeB t = true) {n : Int} (hm : n ∈ t.before) : ∃ k, k < t.blocks.length ∧ pAt t k = n := by
  obtain ⟨k, hk, e⟩ := List.getElem_of_mem hm
  have hl := (treeB_yes h).2.2.2.1
  exact ⟨k, by omega, by rw [pAt_get t hk]; exact e⟩
/-- every block is on the way to a leaf -/
theorem leaf_above {t : Tr} (h : treeB t = true) : ∀ (d n : Nat), n < t.blocks.length → t.blocks.length ≤ n + d → ∃ x ∈ leavesL t, (n : Int) ∈ pathT t x
  | 0, n, h1, h2 => by omega
  | d + 1, n, h1, h2 => by
    by_cases hm : (n : Int) ∈ t.before
    · obtain ⟨k, hk, hp⟩ := before_get h hm
      have hlt := pAt_lt h hk
      obtain ⟨x, hx, hxk⟩ := leaf_above h d k hk (by omega)
      obtain ⟨hx0, hx1, _⟩ := (leavesL_mem h).1 hx
      refine ⟨x, hx, path_trans h ?_ (x.toNat + 1) x (by omega) hxk⟩
      have := path_up h hk (by omega)
      rwa [hp] at this
    · exact ⟨n, (leavesL_mem h).2 ⟨by omega, by omega, hm⟩, path_self h (by omega) (by omega)⟩
theorem leaf_some {t : Tr} (h : treeB t = true) {n : Nat} (hn : n < t.blocks.length) : ∃ x ∈ leavesL t, (n : Int) ∈ pathT t x := leaf_above h t.blocks.length n hn (by omega)
end Go.Proofs.YtefdhlfljpppfaaGreat
