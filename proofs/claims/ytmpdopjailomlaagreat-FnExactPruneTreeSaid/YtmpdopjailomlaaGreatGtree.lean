/- A region that draws its order and writes: as in XLoc, with what is owned told by the operations that have come up. No program is in sight here. Ways to a block, of both sides (printed by gen_in.py from xpath.in). Ways to a block, of the reference. The values and the store after a block (printed by gen_in.py from xstorei.in). The store after a block, of the reference (printed by gen_in.py from xstores.in). Answer by value, in the laws: to, sz, eq. Printed by gen_val.py. The answer to a question for a key after a block, of both sides (printed by gen_in.py from xask.in). -/
import Derived.Test.YtmpdopjailomlaaGreatLocB
import Derived.Test.YtmpdopjailomlaaGreatBTree
import Derived.Test.YtmpdopjailomlaaGreatBTreeS
import Derived.Test.YtmpdopjailomlaaGreatSerial
import Derived.Test.YtmpdopjailomlaaGreatRunSer
import Derived.Test.YtmpdopjailomlaaGreatPut
import Derived.Test.YtmpdopjailomlaaGreatBlk
import Derived.Test.YtmpdopjailomlaaGreatRootS
import Derived.Test.YtmpdopjailomlaaGreatDiffs
namespace Go.Proofs.YtmpdopjailomlaaGreat
open Go.RowKit
set_option linter.unusedVariables false
set_option linter.unusedSimpArgs false

/-- the operations of the head have come up in part; then those of the tail, in order -/
def LInvS (P : Program) (l : List Oper) (nh : Nat) (a0 : Go.Act) (w0 : World) (F : Nat → Value → World → Prop) (E : World → World → Prop) (R : Array Bool → World → Prop)
    (Q : Exit → Go.Act → World → Prop) (listed : Array Bool) (a : Go.Act) (w : World) : Prop :=
  listed.size = l.length ∧ (∀ i j, listed.getD i false = true → has (clOf l) i j = true → listed.getD j false = true) ∧
  ((∃ i, i < nh ∧ listed.getD i false = false ∧ ∃ vs, Agree l nh a0 listed vs a ∧ (∀ j, j < nh → listed.getD j false = true → F j (vs j) w) ∧ E w0 w ∧ R listed w) ∨
   (∃ k, nh + k ≤ l.length ∧ (∀ i, listed.getD i false = true ↔ i < nh + k) ∧ wpList P l.toArray Q (l.drop (nh + k)) a w))

theorem wp_region_set {P : Program} {id : Nat} {l : List Oper} {Q : Exit → Go.Act → World → Prop} {a0 : Go.Act} {w : World} (hm : P.follows .mixedOrders = true)
    (head : List (Nat × Option Tmp)) (deps : List (List (Nat × Option Tmp))) (hok : okAll l head deps = true)
    (F : Nat → Value → World → Prop) (E : World → World → Prop) (R : Array Bool → World → Prop)
    (hEr : ∀ w, E w w) (hEt : ∀ a b c, E a b → E b c → E a c) (hFE : ∀ i v a b, i < head.length → F i v a → E a b → F i v b)
    (hR0 : R (Array.replicate l.toArray.size false) w.drew)
    (hstep : steps (fun i o => ∀ w' (L : Array Bool), E w.drew w' → L.size = l.length → L.getD i false = false → (∀ i' j, L.getD i' false = true → has (clOf l) i' j = true → L.getD j false = true) → R L w' → tele F w' (fun c => ∀ Q' : Exit → Go.Act → World → Prop, (∀ v a'' w'', a'' = c.put o.dst v → F i v w'' → E w' w'' → R (L.setIfInBounds i true) w'' → Q' .normal a'' w'') → wpList P l.toArray Q' [o] c w') (deps.getD i []) a0) 0 (l.take head.length))
    (hdone : ∀ w' (L : Array Bool), E w.drew w' → (∀ j, j < head.length → L.getD j false = true) → R L w' → tele F w' (fun c => wpList P l.toArray Q (l.drop head.length) c w') head a0) :
    (Code.region id l.toArray true).wp P Q a0 w := by
  simp only [okAll, Bool.and_eq_true, decide_eq_true_eq] at hok
  obtain ⟨⟨⟨⟨⟨⟨⟨⟨hnh, hCl0⟩, hDeps⟩, hLook⟩, hDst⟩, hTail⟩, hSel⟩, hPairs⟩, hHead⟩ := hok
  simp only [okHead, Bool.and_eq_true, beq_iff_eq, List.all_eq_true] at hHead
  obtain ⟨hHead1, hHead2⟩ := hHead
  have pair1 : ∀ i, i < head.length → ∀ p ∈ deps.getD i [], dstOf l p.1 = p.2 := by
    intro i hi p hp
    simp only [okPairs, List.all_eq_true, List.mem_range] at hPairs
    simpa using hPairs i hi p hp
  have fst1 : ∀ i, (fsts deps).getD i [] = (deps.getD i []).map Prod.fst := by
    intro i
    unfold fsts
    rw [List.getD_eq_getElem?_getD, List.getD_eq_getElem?_getD, List.getElem?_map]
    cases deps[i]? <;> rfl
  generalize hnhe : head.length = nh at *
  simp only [okCl, Bool.and_eq_true] at hCl0
  obtain ⟨hBack, hCl⟩ := hCl0
  -- the checks, as facts
  have cl1 : ∀ i j, i < l.length → has (clOf l) i j = true → ∃ o, l[i]? = some o ∧ ∃ e ∈ o.after, Region.binds .any e = true ∧ (e.on = j ∨ has (clOf l) e.on j = true) := by
    intro i j hi hj
    simp only [List.all_eq_true, List.mem_range] at hCl
    have h1 := hCl i hi
    rw [List.getElem?_eq_getElem hi] at h1
    simp only [Option.map_some, Option.getD_some, beq_iff_eq] at h1
    unfold has at hj
    rw [h1] at hj
    rcases clRow_from _ _ hj with h | ⟨e, he, hb, h⟩
    · simp at h
    · exact ⟨l[i], List.getElem?_eq_getElem hi, e, by simpa using he, hb, h⟩
  have back1 : ∀ i (hi : i < l.length), ∀ e ∈ (l[i]).after, Region.binds .any e = true → e.on < i := by
    intro i hi e he hb
    simp only [List.all_eq_true, List.mem_range] at hBack
    have h1 := hBack i hi
    rw [List.getElem?_eq_getElem hi] at h1
    simp only [Option.map_some, Option.getD_some] at h1
    have h2 := Array.all_eq_true_iff_forall_mem.1 h1 e he
    simpa [hb] using h2
  have gd : ∀ (L : Array Bool) j, j < L.size → L.getD j true = L.getD j false := by
    intro L j hj
    rw [Array.getD_eq_getD_getElem?, Array.getD_eq_getD_getElem?]
    simp [hj]
  have dep1 : ∀ i j, i < nh → j ∈ (fsts deps).getD i [] → j < nh ∧ has (clOf l) i j = true := by
    intro i j hi hj
    simp only [okDeps, List.all_eq_true, List.mem_range] at hDeps
    have h1 := hDeps i hi j hj
    simpa using h1
  have look1 : ∀ i o t j, i < nh → l[i]? = some o → t ∈ o.looksAt l.toArray → j < nh → dstOf l j = some t → j ∈ (fsts deps).getD i [] ∨ has (clOf l) j i = true ∨ j = i := by
    intro i o t j hi ho ht hj hd
    simp only [okLook, List.all_eq_true, List.mem_range] at hLook
    have h1 := hLook i hi
    rw [ho] at h1
    simp only [Option.map_some, Option.getD_some, List.all_eq_true, List.mem_range] at h1
    have h2 := h1 t ht j hj
    rw [hd] at h2
    simp at h2
    rcases h2 with (h2 | h2) | h2
    · exact .inl (by simpa using h2)
    · exact .inr (.inl (by simpa using h2))
    · exact .inr (.inr h2)
  have dst1 : ∀ i j t, i < nh → j < nh → dstOf l i = some t → dstOf l j = some t → i = j := by
    intro i j t hi hj h1 h2
    simp only [okDst, List.all_eq_true, List.mem_range] at hDst
    have h3 := hDst i hi j hj
    rw [h1, h2] at h3
    simpa using h3
  have tail1 : ∀ i j, i < l.length → nh ≤ i → j < i → has (clOf l) i j = true := by
    intro i j hi hn hj
    simp only [okTail, List.all_eq_true, List.mem_range] at hTail
    have h1 := hTail i hi
    simp only [Bool.or_eq_true, decide_eq_true_eq, List.all_eq_true, List.mem_range] at h1
    exact (h1.resolve_left (by omega)) j hj
  refine wp_region_any hm (wpAny_inv (I := LInvS P l nh a0 w.drew F E R Q) ?_ ?_ _ _ _ _ ?_ ?_)
  · -- a step
    rintro listed a w' i ⟨hsz, hcl, hI⟩ hr
    obtain ⟨hun, hil⟩ := ready_get hr
    have hil : i < l.length := by simpa using hil
    have ho : l.toArray[i]? = some l[i] := by simp [hil]
    have hol : l[i]? = some l[i] := List.getElem?_eq_getElem hil
    have hall : ∀ j, has (clOf l) i j = true → listed.getD j false = true := by
      intro j hj
      obtain ⟨o, ho', e, he, hb, h2⟩ := cl1 i j hil hj
      rw [hol] at ho'
      injection ho' with ho'
      subst ho'
      have h3 := ready_after hr ho e he hb
      rcases h2 with h2 | h2
      · rwa [h2] at h3
      · exact hcl _ _ h3 h2
    have hcl' : ∀ i' j, (listed.setIfInBounds i true).getD i' false = true → has (clOf l) i' j = true → (listed.setIfInBounds i true).getD j false = true := by
      intro i' j h1 h2
      rw [set_get hun] at h1 ⊢
      rcases h1 with h1 | h1
      · subst h1; exact .inr (hall j h2)
      · exact .inr (hcl _ _ h1 h2)
    have hunl : listed.getD i false = false := by rw [Array.getD_eq_getD_getElem?, hun]; rfl
    rcases hI with ⟨i0, hi0, hi0u, vs, hag, hF, hE, hR⟩ | ⟨k, hk, hlk, hwp⟩
    · have hinh : i < nh := by
        rcases Nat.lt_or_ge i nh with h | h
        · exact h
        · have := hall i0 (tail1 i i0 hil h (by omega))
          rw [hi0u] at this
          cases this
      have hst := steps_get hstep (show (l.take nh)[i]? = some l[i] by rw [List.getElem?_take]; simp [hinh, hil])
      rw [Nat.zero_add] at hst
      have hgo := tele_fill vs _ (pair1 i hinh) _ (hst w' listed hE hsz hunl hcl hR) (fun j hj => by rw [← fst1] at hj; exact hF j (dep1 i j hinh hj).1 (hall j (dep1 i j hinh hj).2))
      replace hgo := hgo (LPost fun a'' w'' => ∃ v, a'' = (fillA l vs a0 ((deps.getD i []).map Prod.fst)).put (l[i]).dst v ∧ F i v w'' ∧ E w' w'' ∧ R (listed.setIfInBounds i true) w'') (fun v a'' w'' h1 h2 h3 h4 => ⟨v, h1, h2, h3, h4⟩)
      rw [← fst1] at hgo
      -- the frames agree on what is looked at
      have hlook : ∀ t ∈ (l[i]).looksAt l.toArray, a.tmps[t]? = (fillA l vs a0 ((fsts deps).getD i [])).tmps[t]? := by
        intro t ht
        by_cases hex : ∃ j ∈ (fsts deps).getD i [], dstOf l j = some t
        · obtain ⟨j, hj, hd⟩ := hex
          obtain ⟨hjn, hjc⟩ := dep1 i j hinh hj
          rw [hag.new t j hjn (by rw [gd _ _ (by omega)]; exact hall j hjc) hd]
          exact (fill_get vs _ _ hj hd (fun j' hj' hd' => dst1 _ _ t (dep1 i j' hinh hj').1 hjn hd' hd)).symm
        · rw [fill_other vs _ _ (fun j hj hd => hex ⟨j, hj, hd⟩)]
          refine hag.old t fun j hj hlj hd => ?_
          rcases look1 i _ t j hinh hol ht hj hd with h | h | h
          · exact hex ⟨j, h, hd⟩
          · have hlj' : listed.getD j false = true := by rw [← gd _ _ (by omega)]; exact hlj
            have := hcl _ _ hlj' h
            rw [hunl] at this
            cases this
          · subst h
            rw [gd _ _ (by omega), hunl] at hlj
            cases hlj
      have hop : ∀ x ∈ (l[i]).op.operands, a.eval x = (fillA l vs a0 ((fsts deps).getD i [])).eval x := fun x hx => eval_of_get fun t e => hlook t (by
        subst e
        exact List.mem_append_left _ (List.mem_filterMap.2 ⟨.tmp t, by simpa using hx, rfl⟩))
      have hwant : Region.wanted l[i] (yielded l.toArray a.tmps) = Region.wanted l[i] (yielded l.toArray (fillA l vs a0 ((fsts deps).getD i [])).tmps) := by
        unfold Region.wanted
        cases hg : (l[i]).guard with
        | none => rfl
        | some gw =>
          obtain ⟨g, want⟩ := gw
          have hy : yielded l.toArray a.tmps g = yielded l.toArray (fillA l vs a0 ((fsts deps).getD i [])).tmps g := by
            unfold yielded
            cases ht : (l.toArray[g]?).bind (·.dst) with
            | none => rfl
            | some t =>
              have := hlook t (by simp only [Oper.looksAt, hg]; exact List.mem_append_right _ (by rw [ht]; simp))
              simp only [Option.bind_some, this]
          simp only [hy]
      -- the new state
      have hnew : ∀ v w'', F i v w'' → E w' w'' → R (listed.setIfInBounds i true) w'' → LInvS P l nh a0 w.drew F E R Q (listed.setIfInBounds i true) (a.put (l[i]).dst v) w'' := by
        intro v w'' hFv hEv hRv
        have hdi : dstOf l i = (l[i]).dst := by simp [dstOf, hol]
        have hag' : Agree l nh a0 (listed.setIfInBounds i true) (fun j => if j = i then v else vs j) (a.put (l[i]).dst v) := by
          refine ⟨(put_size _ _ _).trans hag.size, (put_defers _ _ _).trans hag.defers, fun t ht => ?_, fun t j hj hlj hd => ?_⟩
          · have h1 : (l[i]).dst ≠ some t := by
              rw [← hdi]
              exact ht i hinh (by rw [Array.getD_eq_getD_getElem?]; simp [show i < listed.size by omega])
            have h2 : (a.put (l[i]).dst v).tmps[t]? = a.tmps[t]? := by
              cases hx : (l[i]).dst with
              | none => rfl
              | some d => rw [hx] at h1; simp only [Go.Act.put]; rw [Array.getElem?_setIfInBounds_ne (fun e => h1 (by rw [e]))]
            rw [h2]
            refine hag.old t fun j hj hlj => ht j hj ?_
            rw [Array.getD_eq_getD_getElem?] at hlj ⊢
            by_cases hji : i = j
            · subst hji; simp [show i < listed.size by omega]
            · rw [Array.getElem?_setIfInBounds_ne hji]; exact hlj
          · by_cases hji : j = i
            · subst hji
              rw [hdi] at hd
              rw [hd, put_get, if_pos rfl]
              by_cases hts : t < a.tmps.size
              · have : t < a0.tmps.size := by rw [← hag.size]; exact hts
                simp [hts, this]
              · have h1 : a.tmps.size ≤ t := Nat.not_lt.1 hts
                have h2 : a0.tmps.size ≤ t := by rw [← hag.size]; exact h1
                rw [Array.getElem?_eq_none h1, Array.getElem?_eq_none h2]
            · have h2 : (a.put (l[i]).dst v).tmps[t]? = a.tmps[t]? := by
                cases hx : (l[i]).dst with
                | none => rfl
                | some d =>
                  simp only [Go.Act.put]
                  rw [Array.getElem?_setIfInBounds_ne]
                  intro e
                  subst e
                  exact hji (dst1 j i d hj hinh hd (hdi.trans hx))
              rw [h2, if_neg hji]
              refine hag.new t j hj ?_ hd
              rw [Array.getD_eq_getD_getElem?] at hlj ⊢
              rwa [Array.getElem?_setIfInBounds_ne (fun e => hji e.symm)] at hlj
        have hF' : ∀ j, j < nh → (listed.setIfInBounds i true).getD j false = true → F j (if j = i then v else vs j) w'' := by
          intro j hj hlj
          by_cases hji : j = i
          · subst hji; rw [if_pos rfl]; exact hFv
          · rw [if_neg hji]
            rw [set_get hun] at hlj
            exact hFE j _ _ _ hj (hF j hj (hlj.resolve_left hji)) hEv
        refine ⟨by simpa using hsz, hcl', ?_⟩
        by_cases hex : ∃ j, j < nh ∧ (listed.setIfInBounds i true).getD j false = false
        · obtain ⟨j, hj, hju⟩ := hex
          exact .inl ⟨j, hj, hju, _, hag', hF', hEt _ _ _ hE hEv, hRv⟩
        · have hfull : ∀ j, j < nh → (listed.setIfInBounds i true).getD j false = true := by
            intro j hj
            cases hq : (listed.setIfInBounds i true).getD j false with
            | false => exact absurd ⟨j, hj, hq⟩ hex
            | true => rfl
          refine .inr ⟨0, by omega, fun j => ⟨fun hlj => ?_, fun hj => hfull j (by omega)⟩, ?_⟩
          · rcases Nat.lt_or_ge j nh with h | h
            · omega
            · rw [set_get hun] at hlj
              rcases hlj with hlj | hlj
              · omega
              · have hjl : j < l.length := by
                  rw [Array.getD_eq_getD_getElem?] at hlj
                  cases hq : listed[j]? with
                  | none => rw [hq] at hlj; cases hlj
                  | some b => have := (Array.getElem?_eq_some_iff.1 hq).1; omega
                have := hcl j i0 hlj (tail1 j i0 hjl h (by omega))
                rw [hi0u] at this
                cases this
          · have hfin := tele_fill (fun j => if j = i then v else vs j) _ (by simpa using hHead2) _ (hdone w'' _ (hEt _ _ _ hE hEv) hfull hRv) (fun j hj => by rw [hHead1] at hj; exact hF' j (List.mem_range.1 hj) (hfull j (List.mem_range.1 hj)))
            rw [hHead1] at hfin
            have hact : a.put (l[i]).dst v = fillA l (fun j => if j = i then v else vs j) a0 (List.range nh) := by
              have h1 : (a.put (l[i]).dst v).defers = (fillA l (fun j => if j = i then v else vs j) a0 (List.range nh)).defers := hag'.defers.trans (fill_defers _ _ _).symm
              have h2 : (a.put (l[i]).dst v).tmps = (fillA l (fun j => if j = i then v else vs j) a0 (List.range nh)).tmps := by
                refine Array.ext_getElem? fun t => ?_
                by_cases hex : ∃ j, j < nh ∧ dstOf l j = some t
                · obtain ⟨j, hj, hd⟩ := hex
                  rw [hag'.new t j hj (by rw [gd _ _ (by simp; omega)]; exact hfull j hj) hd]
                  exact (fill_get (fun j => if j = i then v else vs j) _ _ (List.mem_range.2 hj) hd (fun j' hj' hd' => dst1 _ _ t (List.mem_range.1 hj') hj hd' hd)).symm
                · rw [fill_other _ _ _ (fun j hj hd => hex ⟨j, List.mem_range.1 hj, hd⟩)]
                  exact hag'.old t fun j hj _ hd => hex ⟨j, hj, hd⟩
              cases hA : a.put (l[i]).dst v
              cases hB : fillA l (fun j => if j = i then v else vs j) a0 (List.range nh)
              rw [hA, hB] at h1 h2
              simp only [] at h1 h2
              rw [h1, h2]
            rw [hact]
            exact hfin
      -- the operation itself
      unfold wpOp
      rw [ho]
      simp only []
      unfold wpList at hgo
      rw [← hwant] at hgo
      split
      · rename_i hw
        rw [if_pos hw] at hgo
        rcases hgo with hgo | ⟨_, x, y, hgo⟩
        · refine .inl (Oper.wp_mono ?_ (wp_move (G := fun v w'' => F i v w'' ∧ E w' w'' ∧ R (listed.setIfInBounds i true) w'') (Region.noSelect_spec hSel i l[i] · · ho) ?_ hop ?_))
          · rintro a'' w'' ⟨v, rfl, h1, h2, h3⟩
            exact hnew v w'' h1 h2 h3
          · rw [fill_size, hag.size]
          · exact hgo
        · exact absurd hgo (by simp [LPost])
      · rename_i hw
        rw [if_neg hw] at hgo
        obtain ⟨v, h0, h1, h2, h3⟩ : ∃ v, _ = (fillA l vs a0 ((fsts deps).getD i [])).put (l[i]).dst v ∧ F i v w' ∧ E w' w' ∧ R _ w' := hgo
        have := put_same (a := a) (by rw [fill_size, hag.size]) h0
        rw [this]
        exact hnew v w' h1 h2 h3
    · have hin : i = nh + k := by
        have h1 : ¬ i < nh + k := fun h => by have := (hlk i).2 h; rw [hunl] at this; cases this
        rcases Nat.lt_or_ge (nh + k) i with h | h
        · have := (hlk (nh + k)).1 (hall (nh + k) (tail1 i (nh + k) hil (by omega) h))
          omega
        · omega
      subst hin
      have hdrop : l.drop (nh + k) = l[nh + k] :: l.drop (nh + k + 1) := List.drop_eq_getElem_cons hil
      rw [hdrop] at hwp
      unfold wpList at hwp
      have hgoal : ∀ a' w'', wpList P l.toArray Q (l.drop (nh + k + 1)) a' w'' → LInvS P l nh a0 w.drew F E R Q (listed.setIfInBounds (nh + k) true) a' w'' := by
        intro a' w'' h
        refine ⟨by simpa using hsz, hcl', .inr ⟨k + 1, by omega, fun j => ?_, h⟩⟩
        rw [set_get hun, hlk]
        omega
      unfold wpOp
      rw [ho]
      simp only []
      split
      · rename_i hw
        rw [if_pos hw] at hwp
        exact hwp.imp (Oper.wp_mono hgoal) (fun h => h)
      · rename_i hw
        rw [if_neg hw] at hwp
        exact hgoal _ _ hwp
  · -- the end
    rintro listed a w' ⟨hsz, hcl, hI⟩ hr
    have hno : ∀ i, i < l.length → listed.getD i false = false → (∀ j, j < i → listed.getD j false = true) → False := by
      intro i hi hu hj
      have : i ∈ Region.ready .any l.toArray listed := by
        rw [mem_ready]
        refine ⟨by rw [Array.getD_eq_getD_getElem?] at hu ⊢; simp [show i < listed.size by omega] at hu ⊢; exact hu, l[i], by simp [hi], fun e he hb => hj _ (back1 i hi e he hb)⟩
      rw [hr] at this
      cases this
    have hmin : ∀ n, n ≤ l.length → (∀ j, j < n → listed.getD j false = true) := by
      intro n
      induction n with
      | zero => intro _ j hj; omega
      | succ n ih =>
        intro hn j hj
        have h1 := ih (by omega)
        by_cases hjn : j = n
        · subst hjn
          cases hq : listed.getD j false with
          | true => rfl
          | false => exact (hno j (by omega) hq h1).elim
        · exact h1 j (by omega)
    rcases hI with ⟨i0, hi0, hi0u, _⟩ | ⟨k, hk, hlk, hwp⟩
    · have := hmin l.length (Nat.le_refl _) i0 (by omega)
      rw [hi0u] at this
      cases this
    · have : nh + k = l.length := by
        rcases Nat.lt_or_ge (nh + k) l.length with h | h
        · have := (hlk (nh + k)).1 (hmin l.length (Nat.le_refl _) _ h)
          omega
        · omega
      rw [this, List.drop_length] at hwp
      exact hwp
  · have : unl (Array.replicate l.toArray.size false) ≤ (Array.replicate l.toArray.size false).toList.length := List.length_filter_le _ _
    simpa using this
  · have hno : ∀ j, (Array.replicate l.toArray.size false).getD j false = false := by
      intro j
      rw [Array.getD_eq_getD_getElem?, Array.getElem?_replicate]
      split <;> rfl
    refine ⟨by simp, fun i j h _ => (by rw [hno] at h; cases h), ?_⟩
    rcases Nat.eq_zero_or_pos nh with h0 | h0
    · subst h0
      refine .inr ⟨0, by omega, fun i => ⟨fun h => (by rw [hno] at h; cases h), fun h => by omega⟩, ?_⟩
      have : head = [] := List.eq_nil_of_length_eq_zero hnhe
      subst this
      exact hdone _ _ (hEr _) (fun j hj => by simp at hj) hR0
    · refine .inl ⟨0, h0, hno 0, fun _ => undef, ⟨rfl, rfl, fun _ _ => rfl, fun t j hj h => ?_⟩, fun j hj h => (by rw [hno] at h; cases h), hEr _, ?_⟩
      · rw [gd _ _ (by simp; omega), hno] at h
        cases h
      · exact hR0
theorem steps_imp {p q : Nat → Oper → Prop} {l : List Oper} : ∀ {k : Nat}, steps p k l → (∀ i o, k ≤ i → p i o → q i o) → steps q k l := by
  induction l with
  | nil => intro k _ _; trivial
  | cons x l ih => exact fun h hi => ⟨hi _ _ (Nat.le_refl _) h.1, ih h.2 fun i o hk => hi i o (by omega)⟩
theorem tele_imp {F : Nat → Value → World → Prop} {w : World} (ps : List (Nat × Option Tmp)) : ∀ (b1 b2 : Go.Act → Prop), (∀ c, b1 c → b2 c) → ∀ c, tele F w b1 ps c → tele F w b2 ps c := by
  induction ps with
  | nil => exact fun b1 b2 h c => h c
  | cons p ps ih => exact fun b1 b2 h c hc v hv => ih b1 b2 h _ (hc v hv)

/-- one operation writes: the operations of `bef` come up before it -/
theorem wp_region_one {P : Program} {id : Nat} {l : List Oper} {Q : Exit → Go.Act → World → Prop} {a0 : Go.Act} {w : World} (hm : P.follows .mixedOrders = true)
    (head : List (Nat × Option Tmp)) (deps : List (List (Nat × Option Tmp))) (hok : okAll l head deps = true) (s : Nat) (bef : List Nat) (hbef : (decide (s < head.length) && bef.all fun j => has (clOf l) s j) = true)
    (F : Nat → Value → World → Prop) (E : World → World → Prop) (R : Bool → World → Prop)
    (hEr : ∀ w, E w w) (hEt : ∀ a b c, E a b → E b c → E a c) (hFE : ∀ i v a b, i < head.length → F i v a → E a b → F i v b)
    (hR0 : R false w.drew)
    (hstep : steps (fun i o => ∀ w' b, E w.drew w' → (i = s ∨ i ∈ bef → b = false) → R b w' → tele F w' (fun c => ∀ Q' : Exit → Go.Act → World → Prop, (∀ v a'' w'', a'' = c.put o.dst v → F i v w'' → E w' w'' → R (i == s || b) w'' → Q' .normal a'' w'') → wpList P l.toArray Q' [o] c w') (deps.getD i []) a0) 0 (l.take head.length))
    (hdone : ∀ w', E w.drew w' → R true w' → tele F w' (fun c => wpList P l.toArray Q (l.drop head.length) c w') head a0) :
    (Code.region id l.toArray true).wp P Q a0 w := by
  simp only [Bool.and_eq_true, decide_eq_true_eq, List.all_eq_true] at hbef
  obtain ⟨hs, hbef⟩ := hbef
  have hnh : head.length ≤ l.length := by
    simp only [okAll, Bool.and_eq_true, decide_eq_true_eq] at hok
    exact hok.1.1.1.1.1.1.1.1
  refine wp_region_set hm head deps hok F E (fun L w => R (L.getD s false) w) hEr hEt hFE ?_ ?_ ?_
  · have : (Array.replicate l.toArray.size false).getD s false = false := by
      rw [Array.getD_eq_getD_getElem?, Array.getElem?_replicate]
      split <;> rfl
    rw [this]
    exact hR0
  · refine steps_imp hstep fun i o hi h w' L hE hsz hun hcl hR => ?_
    have hb : i = s ∨ i ∈ bef → L.getD s false = false := by
      rintro (h | h)
      · rw [← h]; exact hun
      · cases hq : L.getD s false with
        | false => rfl
        | true =>
          have := hcl s i hq (hbef i h)
          rw [hun] at this
          cases this
    have h2 := h w' (L.getD s false) hE hb hR
    have hset : (L.setIfInBounds i true).getD s false = (i == s || L.getD s false) := by
      by_cases his : i = s
      · subst his
        rw [Array.getD_eq_getD_getElem?]
        simp [show i < L.size by omega]
      · rw [getD_set_ne false his]
        simp [his]
    refine tele_imp (deps.getD i []) _ _ (fun c hc Q' hQ' => hc Q' fun v a'' w'' h1 h3 h4 h5 => hQ' v a'' w'' h1 h3 h4 ?_) _ h2
    show R ((L.setIfInBounds i true).getD s false) w''
    rw [hset]
    exact h5
  · intro w' L hE hall hR
    rw [hall s hs] at hR
    exact hdone w' hE hR
/-- facts of the value alone -/
def StV (f : Value → World → Prop) : Prop := ∀ v a b, f v a → f v b
def pV (p : Value → Prop) (v : Value) (_ : World) : Prop := p v
def StVL : List (Value → World → Prop) → Prop
  | [] => True
  | f :: l => StV f ∧ StVL l
theorem stvl_get : ∀ {l : List (Value → World → Prop)}, StVL l → ∀ i, StV (l.getD i fun _ _ => True)
  | [], _, i => fun _ _ _ _ => trivial
  | f :: l, h, 0 => h.1
  | f :: l, h, i + 1 => by simpa using stvl_get h.2 i
theorem locV_st {fs : List (Value → World → Prop)} {E : World → World → Prop} (h : StVL fs) (n : Nat) (i : Nat) (v : Value) (a b : World) (_ : i < n) (hf : locB fs i v a) (_ : E a b) : locB fs i v b := stvl_get h i v a b hf
end Go.Proofs.YtmpdopjailomlaaGreat
namespace Go.Proofs.YtmpdopjailomlaaGreat
open Go.RowKit
set_option linter.unusedVariables false
set_option linter.unusedSimpArgs false

def wayT (t : Tr) : Nat → Int → List Int
  | 0, _ => []
  | f + 1, n => if inB n 0 ((t.blocks.length : Int) - 1) = true then wayT t f (pAt t n.toNat) ++ [n] else []
/-- the numbers of the blocks on the way to a block -/
def pathT (t : Tr) (n : Int) : List Int := wayT t 15 n
theorem pAt_lt {t : Tr} (h : treeB t = true) {k : Nat} (hk : k < t.blocks.length) : -1 ≤ pAt t k ∧ pAt t k < k := by
  obtain ⟨_, _, _, _, _, h0, _, h1⟩ := treeB_yes h
  rcases Nat.eq_zero_or_pos k with hz | hz
  · subst hz; omega
  · have := h1 k hz hk
    rw [nodeOk, Bool.and_eq_true] at this
    have := inB_true.1 this.1
    omega
theorem wayT_out (t : Tr) (f : Nat) {n : Int} (h : ¬ (0 ≤ n ∧ n < t.blocks.length)) : wayT t f n = [] := by
  cases f with
  | zero => rfl
  | succ f =>
    rw [wayT, if_neg]
    intro hi
    have := inB_true.1 hi
    omega
theorem wayT_fuel {t : Tr} (h : treeB t = true) : ∀ (f g : Nat) (n : Int), n < f → n < g → wayT t f n = wayT t g n
  | 0, g, n, h1, _ => by rw [wayT_out t 0 (by omega), wayT_out t g (by omega)]
  | f, 0, n, _, h2 => by rw [wayT_out t 0 (by omega), wayT_out t f (by omega)]
  | f + 1, g + 1, n, h1, h2 => by
    by_cases hr : 0 ≤ n ∧ n < t.blocks.length
    · have hi : inB n 0 ((t.blocks.length : Int) - 1) = true := inB_true.2 (by omega)
      have hp := pAt_lt h (k := n.toNat) (by omega)
      rw [wayT, wayT, if_pos hi, if_pos hi, wayT_fuel h f g _ (by omega) (by omega)]
    · rw [wayT_out t _ hr, wayT_out t _ hr]
theorem pathT_out (t : Tr) {n : Int} (h : ¬ (0 ≤ n ∧ n < t.blocks.length)) : pathT t n = [] := wayT_out t 15 h
theorem pathT_step {t : Tr} (h : treeB t = true) {n : Int} (h0 : 0 ≤ n) (h1 : n < t.blocks.length) : pathT t n = pathT t (pAt t n.toNat) ++ [n] := by
  obtain ⟨_, _, hl, _⟩ := treeB_yes h
  have hi : inB n 0 ((t.blocks.length : Int) - 1) = true := inB_true.2 (by omega)
  have hp := pAt_lt h (k := n.toNat) (by omega)
  unfold pathT
  rw [wayT, if_pos hi, wayT_fuel h 14 15 _ (by omega) (by omega)]
theorem wayT_len (t : Tr) : ∀ (f : Nat) (n : Int), (wayT t f n).length ≤ f
  | 0, _ => Nat.le_refl _
  | f + 1, n => by
    rw [wayT]
    split
    · have := wayT_len t f (pAt t n.toNat)
      simp
      omega
    · simp
theorem pathT_len (t : Tr) (n : Int) : (pathT t n).length ≤ 15 := wayT_len t 15 n
theorem wayT_mem {t : Tr} : ∀ (f : Nat) (n x : Int), x ∈ wayT t f n → 0 ≤ x ∧ x < t.blocks.length
  | 0, _, _, h => by cases h
  | f + 1, n, x, h => by
    rw [wayT] at h
    split at h
    · rename_i hi
      have := inB_true.1 hi
      rcases List.mem_append.1 h with h | h
      · exact wayT_mem f _ _ h
      · rw [List.mem_singleton] at h; subst h; omega
    · cases h
theorem pathT_mem {t : Tr} {n x : Int} (h : x ∈ pathT t n) : 0 ≤ x ∧ x < t.blocks.length := wayT_mem 15 n x h
theorem rev_ext {xs ys : List Int} (hl : ys.length = xs.length) (h : ∀ k (h1 : k < ys.length), ys[k] = xs[xs.length - 1 - k]'(by omega)) : ys = xs.reverse := by
  refine List.ext_getElem (by simpa using hl) fun k h1 h2 => ?_
  rw [h k h1, List.getElem_reverse]
/-- is half of a list the other way round? -/
def HalfRev (xs ys : List Int) (i : Nat) : Prop := ys.length = xs.length ∧ ∀ k, k < xs.length → ys.getD k 0 = if k < i ∨ xs.length - 1 - k < i then xs.getD (xs.length - 1 - k) 0 else xs.getD k 0
theorem halfRev_zero (xs : List Int) : HalfRev xs xs 0 := ⟨rfl, fun k hk => by simp⟩
theorem halfRev_step {xs ys : List Int} {i j : Nat} (h : HalfRev xs ys i) (hj : i + j + 1 = xs.length) (hij : i < j) : HalfRev xs ((ys.set i (ys.getD j 0)).set j (ys.getD i 0)) (i + 1) := by
  refine ⟨by simpa using h.1, fun k hk => ?_⟩
  have h1 := h.2 k hk
  have hi := h.2 i (by omega)
  have hj2 := h.2 j (by omega)
  have hl := h.1
  rw [if_neg (by omega)] at hi hj2
  by_cases hkj : k = j
  · subst hkj
    rw [if_pos (by omega)]
    simp only [List.getD_eq_getElem?_getD, List.getElem?_set] at *
    rw [show xs.length - 1 - k = i by omega]
    simp [show k < ys.length by omega]
    exact hi
  · by_cases hki : k = i
    · subst hki
      rw [if_pos (by omega)]
      simp only [List.getD_eq_getElem?_getD, List.getElem?_set] at *
      rw [show xs.length - 1 - k = j by omega]
      simp [show ¬ j = k by omega, show k < ys.length by omega]
      exact hj2
    · have : ((ys.set i (ys.getD j 0)).set j (ys.getD i 0)).getD k 0 = ys.getD k 0 := by
        simp only [List.getD_eq_getElem?_getD, List.getElem?_set, if_neg (Ne.symm hkj), if_neg (Ne.symm hki)]
      rw [this, h1]
      by_cases hc : k < i ∨ xs.length - 1 - k < i
      · rw [if_pos hc, if_pos (by omega)]
      · rw [if_neg hc, if_neg (by omega)]
theorem halfRev_done {xs ys : List Int} {i : Nat} (h : HalfRev xs ys i) (hi : xs.length ≤ 2 * i + 1) : ys = xs.reverse := by
  refine rev_ext h.1 fun k hk => ?_
  have h1 := h.2 k (by have := h.1; omega)
  have hl := h.1
  have e1 : ys.getD k 0 = ys[k] := by simp [List.getD_eq_getElem?_getD, hk]
  have e2 : xs.getD (xs.length - 1 - k) 0 = xs[xs.length - 1 - k]'(by omega) := by
    rw [List.getD_eq_getElem?_getD, List.getElem?_eq_getElem (by omega), Option.getD_some]
  rw [← e1, h1, ← e2]
  by_cases hc : k < i ∨ xs.length - 1 - k < i
  · rw [if_pos hc]
  · rw [if_neg hc]
    congr 1
    omega
set_option maxRecDepth 100000 in
set_option maxHeartbeats 4000000 in
theorem reverse_any (A : Option Addr) (c : Nat) (xs : List Int) (base : Nat) (w : World) (h : w.ownsRow base 3 1 (.slice A xs.length c) xs.length (xs.map (.int .i64))) (hb : xs.length ≤ 1000) :
    Calls Tryz.prog 117 #[.slice A xs.length c] w fun e w' => e = .returned (.tuple #[]) ∧ w'.ownsRow base 3 1 (.slice A xs.length c) xs.length (xs.reverse.map (.int .i64)) ∧ Chg (fun q => A = some ⟨q, 0, none⟩) w w' := by
  go_enter Tryz.func117, Tryz.ntmps117
  go_wp2
  go_loopw [2, 3] (fun i j wr => ∃ (k : Nat) (ys : List Int), k ≤ xs.length ∧ i = .int .i64 k ∧ j = .int .i64 ((xs.length : Int) - 1 - k) ∧ Hid (HalfRev xs ys k) ∧ wr.ownsRow base 3 1 (.slice A xs.length c) xs.length (ys.map (.int .i64)) ∧ Chg (fun q => A = some ⟨q, 0, none⟩) w wr) (fun i _ _ => xs.length - (intOf i).toNat)
  case atStart => exact ⟨0, xs, Nat.zero_le _, rfl, by go_num, hide (halfRev_zero xs), h, Chg.refl _ _⟩
  case round =>
    obtain ⟨k, ys, hk, rfl, rfl, HH, hown, hch⟩ := hrel
    by_cases hlt : 2 * k + 1 < xs.length
    · obtain ⟨j, hj⟩ : ∃ j : Nat, k + j + 1 = xs.length := ⟨xs.length - 1 - k, by omega⟩
      have hkj : k < j := by omega
      have hjn : (xs.length : Int) - 1 - (k : Int) = (j : Int) := by omega
      rw [hjn]
      have hyl : ys.length = xs.length := (unhide HH).1
      have HX := hide (halfRev_step (unhide HH) hj hkj)
      have HC := hide (fun (w' : World) (g : Nat) (ho : w'.ownsRow base 3 1 (.slice (some ⟨g, 0, none⟩) xs.length c) xs.length (ys.map (.int .i64))) => (⟨by rw [own_cell ho k (by simp; omega)]; simp [List.getD_eq_getElem?_getD, show k < ys.length by omega], by rw [own_cell ho j (by simp; omega)]; simp [List.getD_eq_getElem?_getD, show j < ys.length by omega]⟩ : w'.cell? ⟨g, k, none⟩ = some (.int .i64 (ys.getD k 0)) ∧ w'.cell? ⟨g, j, none⟩ = some (.int .i64 (ys.getD j 0))))
      have HJ := hide hj
      have i1 : (k : Int) < (xs.length : Int) := by omega
      have i2 : (j : Int) < (xs.length : Int) := by omega
      have i3 : (k : Int) < (j : Int) := by omega
      have i4 : j < xs.length := by omega
      have i5 : k < xs.length := by omega
      obtain ⟨g, rfl⟩ : ∃ g, A = some ⟨g, 0, none⟩ := by
        obtain ⟨g, off, e, _⟩ := own_rd hown (by simp; omega)
        rcases hown.2 with ⟨hv, hn⟩ | ⟨g', cap, cur, hv, _⟩
        · rw [e] at hv; cases hv
        · injection hv with hv
          exact ⟨g', hv⟩
      have HYL := hide hyl
      generalize ys.getD k 0 = yk at *
      generalize ys.getD j 0 = yj at *
      clear hj hyl hjn hlt
      go_wp2
      have hF : StVL [bV (.slice (some ⟨g, 0, none⟩) xs.length c), bV (.int .i64 (k : Int)), bV (.slice (some ⟨g, 0, none⟩) xs.length c), bV (.int .i64 (j : Int)), bV (.slice (some ⟨g, 0, none⟩) xs.length c), bV (.int .i64 (j : Int)), bV (.pointer (some ⟨g, j, none⟩)), bV (.int .i64 yj), bV (.slice (some ⟨g, 0, none⟩) xs.length c), bV (.int .i64 (k : Int)), bV (.pointer (some ⟨g, k, none⟩)), bV (.int .i64 yk), bV (.pointer (some ⟨g, k, none⟩)), fun _ _ => True] := ⟨fun _ _ _ h => h, fun _ _ _ h => h, fun _ _ _ h => h, fun _ _ _ h => h, fun _ _ _ h => h, fun _ _ _ h => h, fun _ _ _ h => h, fun _ _ _ h => h, fun _ _ _ h => h, fun _ _ _ h => h, fun _ _ _ h => h, fun _ _ _ h => h, fun _ _ _ h => h, fun _ _ _ h => h, trivial⟩
      go_upto_region 3 with fail
      refine wp_region_one (by kernel_rfl) [(0, some 14), (1, some 15), (2, some 16), (3, some 17), (4, some 18), (5, some 19), (6, some 20), (7, some 21), (8, some 22), (9, some 23), (10, some 24), (11, some 25), (12, some 26), (13, none)] [[], [], [], [], [], [], [(4, some 18), (5, some 19)], [(6, some 20)], [], [], [(8, some 22), (9, some 23)], [(10, some 24)], [(0, some 14), (1, some 15)], [(7, some 21), (12, some 26)]] (by kernel_rfl) 13 [7, 11] (by kernel_rfl)
        (locB [bV (.slice (some ⟨g, 0, none⟩) xs.length c), bV (.int .i64 (k : Int)), bV (.slice (some ⟨g, 0, none⟩) xs.length c), bV (.int .i64 (j : Int)), bV (.slice (some ⟨g, 0, none⟩) xs.length c), bV (.int .i64 (j : Int)), bV (.pointer (some ⟨g, j, none⟩)), bV (.int .i64 yj), bV (.slice (some ⟨g, 0, none⟩) xs.length c), bV (.int .i64 (k : Int)), bV (.pointer (some ⟨g, k, none⟩)), bV (.int .i64 yk), bV (.pointer (some ⟨g, k, none⟩)), fun _ _ => True]) (fun a b => Chg (fun q => q = g) a b) (fun b w => w.ownsRow base 3 1 (.slice (some ⟨g, 0, none⟩) xs.length c) xs.length ((if b = true then ys.set k yj else ys).map (.int .i64))) (fun _ => Chg.refl _ _) (fun _ _ _ h1 h2 => h1.trans h2) (locV_st hF _) hown ?_ ?_
      · refine steps_cons ?s0 ( steps_cons ?s1 ( steps_cons ?s2 ( steps_cons ?s3 ( steps_cons ?s4 ( steps_cons ?s5 ( steps_cons ?s6 ( steps_cons ?s7 ( steps_cons ?s8 ( steps_cons ?s9 ( steps_cons ?s10 ( steps_cons ?s11 ( steps_cons ?s12 ( steps_cons ?s13 steps_nil)))))))))))))
        case s0 =>
          intro w' b hE hbx hR
          clear hbx
          intro Q hQ
          go_wp2
          exact hQ _ _ _ rfl rfl (Chg.refl _ _) hR
        case s1 =>
          intro w' b hE hbx hR
          clear hbx
          intro Q hQ
          go_wp2
          exact hQ _ _ _ rfl rfl (Chg.refl _ _) hR
        case s2 =>
          intro w' b hE hbx hR
          clear hbx
          intro Q hQ
          go_wp2
          exact hQ _ _ _ rfl rfl (Chg.refl _ _) hR
        case s3 =>
          intro w' b hE hbx hR
          clear hbx
          intro Q hQ
          go_wp2
          exact hQ _ _ _ rfl rfl (Chg.refl _ _) hR
        case s4 =>
          intro w' b hE hbx hR
          clear hbx
          intro Q hQ
          go_wp2
          exact hQ _ _ _ rfl rfl (Chg.refl _ _) hR
        case s5 =>
          intro w' b hE hbx hR
          clear hbx
          intro Q hQ
          go_wp2
          exact hQ _ _ _ rfl rfl (Chg.refl _ _) hR
        case s6 =>
          intro w' b hE hbx hR
          clear hbx
          rintro _ rfl _ rfl Q hQ
          go_wp2
          exact hQ _ _ _ rfl rfl (Chg.refl _ _) hR
        case s7 =>
          intro w' b hE hb hR
          obtain rfl := hb (by simp)
          rintro _ rfl Q hQ
          obtain ⟨z1, z2⟩ := unhide HC w' g hR
          go_wp2
          exact hQ _ _ _ rfl rfl (Chg.refl _ _) hR
        case s8 =>
          intro w' b hE hbx hR
          clear hbx
          intro Q hQ
          go_wp2
          exact hQ _ _ _ rfl rfl (Chg.refl _ _) hR
        case s9 =>
          intro w' b hE hbx hR
          clear hbx
          intro Q hQ
          go_wp2
          exact hQ _ _ _ rfl rfl (Chg.refl _ _) hR
        case s10 =>
          intro w' b hE hbx hR
          clear hbx
          rintro _ rfl _ rfl Q hQ
          go_wp2
          exact hQ _ _ _ rfl rfl (Chg.refl _ _) hR
        case s11 =>
          intro w' b hE hb hR
          obtain rfl := hb (by simp)
          rintro _ rfl Q hQ
          obtain ⟨z1, z2⟩ := unhide HC w' g hR
          go_wp2
          exact hQ _ _ _ rfl rfl (Chg.refl _ _) hR
        case s12 =>
          intro w' b hE hbx hR
          clear hbx
          rintro _ rfl _ rfl Q hQ
          go_wp2
          exact hQ _ _ _ rfl rfl (Chg.refl _ _) hR
        case s13 =>
          intro w' b hE hb hR
          obtain rfl := hb (by simp)
          rintro _ rfl _ rfl Q hQ
          obtain ⟨z1, z2⟩ := unhide HC w' g hR
          have z3 := own_frozen hR k
          go_wp2
          refine hQ undef _ _ rfl trivial (Chg.setCell (S := fun q => q = g) (p := ⟨g, k, none⟩) (Chg.refl (fun q => q = g) w') (.inl rfl) _) ?_
          show World.ownsRow _ _ _ _ _ _ (List.map _ (ys.set k yj))
          rw [List.map_set]
          exact own_set hR k _
      intro w9 hE hR
      change w9.ownsRow _ _ _ _ _ (List.map _ (ys.set k yj)) at hR
      rintro v0 - v1 - v2 hv2 v3 hv3 v4 - v5 - v6 - v7 - v8 - v9 - v10 - v11 hv11 v12 - v13 -
      obtain rfl : v2 = _ := hv2
      obtain rfl : v3 = _ := hv3
      obtain rfl : v11 = _ := hv11
      have z2 := own_cell hR j (by rw [List.length_map, List.length_set, unhide HYL]; exact i4)
      have z3 := own_frozen hR j
      change wpList _ _ _ [_, _] _ _
      simp only [Act.put, List.setIfInBounds_toArray, List.set_cons_succ, List.set_cons_zero]
      go_wp2
      go_roundw
      case rel =>
        have hj := unhide HJ
        refine ⟨k + 1, _, by omega, by go_num, by go_num, HX, ?_, ?_⟩
        · rw [List.map_set]
          exact own_set hR j _
        · exact hch.trans ((Chg.setCell (S := fun q => q = g) (p := ⟨g, j, none⟩) (chg_undrew hE) (.inl rfl) _).mono (fun q _ hq => by rw [hq]))
      case measure => simp [intOf]; omega
    · have HE := hide (halfRev_done (unhide HH) (by omega))
      have i3 : ¬ (k : Int) < (xs.length : Int) - 1 - (k : Int) := by omega
      rw [unhide HE] at hown
      go_wp2
      go_end0
      exact ⟨rfl, by simpa [List.map_reverse] using hown, hch⟩
theorem pAt_cell {w : World} {t : Tr} {A3 : Option Addr} (h : Rd w A3 (t.before.map (Value.int .i64))) {k : Nat} (hk : k < t.before.length) :
    ∃ b off, A3 = some ⟨b, off, none⟩ ∧ b < w.heap.size ∧ w.cell? ⟨b, off + k, none⟩ = some (.int .i64 (pAt t k)) := by
  rw [pAt_get t hk]
  exact h.int hk
set_option maxRecDepth 100000 in
set_option maxHeartbeats 4000000 in
theorem path_impl (t : Tr) (A1 : Option Addr) (c1 : Nat) (A2 : Option Addr) (c2 : Nat) (A3 : Option Addr) (c3 : Nat) (n : Int) (w : World) (h : TrR w t A1 A2 A3) (hv : treeB t = true) (hn0 : -1 ≤ n) (hn1 : n < t.blocks.length) :
    Calls Tryz.prog 87 #[.agg (trA t A1 c1 A2 c2 A3 c3), .int .i64 n] w fun e w' => ∃ A' c', e = .returned (.slice A' (pathT t n).length c') ∧ w'.ownsRow w.heap.size 3 1 (.slice A' (pathT t n).length c') (pathT t n).length ((pathT t n).map (.int .i64)) ∧ Below w.heap.size w w' := by
  obtain ⟨-, -, hl14, hln, -⟩ := treeB_yes hv
  have HV := hide hv
  have HLN := hide hln
  clear hv hln
  obtain ⟨W, hW⟩ : ∃ W : World, W = w.alloc (.cells (trA t A1 c1 A2 c2 A3 c3) 31) := ⟨_, rfl⟩
  have hb0 : Below w.heap.size w W := by rw [hW]; exact (Below.refl _ _).alloc (Nat.le_refl _) _
  have K0 : Blk W w.heap.size 31 (trA t A1 c1 A2 c2 A3 c3) := by rw [hW]; exact Blk.new _ _ _
  have r3 := h.b3.new hb0
  have hWs : w.heap.size < W.heap.size := K0.lt
  simp only [trA] at K0 hW ⊢
  have BX := hide (fun w' (hb : Below W.heap.size W w') => show w'.cell? ⟨w.heap.size, 2, none⟩ = some (.slice A3 t.before.length c3) from (K0.new_ hb).cell 2)
  clear h K0
  go_enter Tryz.func87, Tryz.ntmps87
  go_wp2
  rw [← hW]
  go_loopw [1, 5] (fun i s wr => ∃ (m : Int) (A' : Option Addr) (c' : Nat) (ys : List Int), -1 ≤ m ∧ m < t.blocks.length ∧ i = .int .i64 m ∧ s = .slice A' ys.length c' ∧ Hid (ys ++ (pathT t m).reverse = (pathT t n).reverse) ∧ wr.ownsRow W.heap.size 3 1 (.slice A' ys.length c') ys.length (ys.map (.int .i64)) ∧ Below W.heap.size W wr) (fun i _ _ => (intOf i + 1).toNat)
  case atStart => exact ⟨n, none, 0, [], hn0, hn1, rfl, rfl, hide (by simp), own_nil _ _ _ _, Below.refl _ _⟩
  case round =>
    obtain ⟨m, A', c', ys, hm0, hm1, rfl, rfl, HH, hown, hbel⟩ := hrel
    have hbsz := hbel.size
    by_cases hlt : 0 ≤ m
    · obtain ⟨q, rfl⟩ := Int.eq_ofNat_of_zero_le hlt
      have hlp : q < t.before.length := by have := unhide HLN; omega
      have i1' : (q : Int) < (t.before.length : Int) := by omega
      have HP := hide (pAt_lt (unhide HV) (k := q) (by omega))
      have hstep := pathT_step (unhide HV) hlt hm1
      rw [show ((q : Int)).toNat = q by simp] at hstep
      have HX := hide (show ys ++ [(q : Int)] ++ (pathT t (pAt t q)).reverse = (pathT t n).reverse by
        rw [← unhide HH, hstep]
        simp)
      have HYL := hide (show ys.length ≤ 15 by
        have h1 := congrArg List.length (unhide HH)
        have := pathT_len t n
        simp only [List.length_append, List.length_reverse] at h1
        omega)
      have hyl := unhide HYL
      have HC := hide (fun (w' : World) (hb : Below W.heap.size W w') => pAt_cell (r3.new hb) hlp)
      clear hstep
      go_wp2_with (at_builtin; refine wpList_app rfl (.tmp 13) (.tmp 15) 24 rfl el_int rfl (own_alloc hown _) rfl (rd_lit wr [.int .i64 (q : Int)] _) rfl (one_ints [(q : Int)]) (by simp only [maxLen]; omega) (by omega) (by simp; omega) ?_; intro A4 c4 w4 o4 ch4 d4 _; have hbel4 : Below W.heap.size W w4 := app_below hbel hown ch4 (Nat.le_refl _); obtain ⟨bz, oz, hze, hzb, zp⟩ := unhide HC w4 hbel4; have y2 := unhide BX w4 hbel4; rw [hze] at y2; clear hze)
      go_roundw
      case rel =>
        have hp := unhide HP
        refine ⟨_, A4, c4, ys ++ [(q : Int)], hp.1, by omega, rfl, by simp, HX, by simpa using o4, hbel4⟩
      case measure =>
        have hp := unhide HP
        simp [intOf]
        omega
    · have HE := hide (show ys.reverse = pathT t n by
        have h1 := unhide HH
        rw [pathT_out t (n := m) (by omega)] at h1
        simpa using congrArg List.reverse h1)
      have hle : ys.length = (pathT t n).length := by rw [← unhide HE]; simp
      have HYL := hide (show ys.length ≤ 1000 by have := pathT_len t n; omega)
      have HLE := hide hle
      clear hle
      go_wp2_with fail
      refine (reverse_any A' c' ys W.heap.size wr hown (unhide HYL)).mono ?_
      rintro e w3 ⟨rfl, o3, ch3⟩
      rw [unhide HE] at o3
      rw [unhide HLE] at o3 ⊢
      go_wp2
      go_ret
      exact ⟨A', c', rfl, own_base o3 (by omega), bthen hb0 (app_below' hbel hown ch3 (Nat.le_refl _))⟩
theorem has_impl (t : Tr) (A1 : Option Addr) (c1 : Nat) (A2 : Option Addr) (c2 : Nat) (A3 : Option Addr) (c3 : Nat) (n : Int) (w : World) (hb2 : t.blocks.length ≤ 1099511627776) :
    Calls Tryz.prog 41 #[.agg (trA t A1 c1 A2 c2 A3 c3), .int .i64 n] w fun e w' => e = .returned (.bool (inB n 0 ((t.blocks.length : Int) - 1))) ∧ Below w.heap.size w w' := by
  have hb0 : Below w.heap.size w (w.alloc (.cells (trA t A1 c1 A2 c2 A3 c3) 31)) := (Below.refl _ _).alloc (Nat.le_refl _) _
  have y1 : (w.alloc (.cells (trA t A1 c1 A2 c2 A3 c3) 31)).cell? ⟨w.heap.size, 1, none⟩ = some (.slice A2 t.blocks.length c2) := (Blk.new w 31 (trA t A1 c1 A2 c2 A3 c3)).cell 1
  simp only [trA] at hb0 y1 ⊢
  go_enter Tryz.func41, Tryz.ntmps41
  go_wp2_with (go_at_call 80; refine (in_any _ _ _ _).mono ?_; rintro e w' ⟨rfl, rfl⟩)
  go_ret
  exact ⟨rfl, hb0⟩
end Go.Proofs.YtmpdopjailomlaaGreat
namespace Go.Proofs.YtmpdopjailomlaaGreat
open Go.RowKit
set_option linter.unusedVariables false
set_option linter.unusedSimpArgs false

/-- the way, nothing for an invalid tree -/
def pathS (t : Tr) (n : Int) : List Int := if treeB t = true then pathT t n else []
theorem pathS_len (t : Tr) (n : Int) : (pathS t n).length ≤ 15 := by
  unfold pathS
  split
  · exact pathT_len t n
  · simp
theorem pathS_mem {t : Tr} {n x : Int} (h : x ∈ pathS t n) : treeB t = true ∧ 0 ≤ x ∧ x < t.blocks.length := by
  unfold pathS at h
  split at h
  · rename_i hv; exact ⟨hv, pathT_mem h⟩
  · cases h
set_option maxRecDepth 100000 in
set_option maxHeartbeats 4000000 in
theorem path_spec (t : Tr) (A1 : Option Addr) (c1 : Nat) (A2 : Option Addr) (c2 : Nat) (A3 : Option Addr) (c3 : Nat) (n : Int) (w : World) (h : TrR w t A1 A2 A3) (hb1 : t.base.length ≤ 1099511627776) (hb2 : t.blocks.length ≤ 1099511627776) (hbs : ∀ x ∈ t.blocks, x.list.length ≤ 1099511627776) (hb3 : t.before.length ≤ 1099511627776) :
    Calls Tryz.prog 92 #[.agg (trA t A1 c1 A2 c2 A3 c3), .int .i64 n] w fun e w' => ∃ A' c', e = .returned (.slice A' (pathS t n).length c') ∧ w'.ownsRow w.heap.size 3 1 (.slice A' (pathS t n).length c') (pathS t n).length ((pathS t n).map (.int .i64)) ∧ Below w.heap.size w w' := by
  have HBS := hide hbs
  clear hbs
  obtain ⟨W, hW⟩ : ∃ W : World, W = w.alloc (.cells (trA t A1 c1 A2 c2 A3 c3) 31) := ⟨_, rfl⟩
  have hb0 : Below w.heap.size w W := by rw [hW]; exact (Below.refl _ _).alloc (Nat.le_refl _) _
  have K0 : Blk W w.heap.size 31 (trA t A1 c1 A2 c2 A3 c3) := by rw [hW]; exact Blk.new _ _ _
  have HR := hide (h.new hb0)
  have hWs : w.heap.size < W.heap.size := K0.lt
  simp only [trA] at K0 hW ⊢
  have BX := hide (fun w' (hb : Below W.heap.size W w') => show w'.cell? ⟨w.heap.size, 0, none⟩ = some (.slice A1 t.base.length c1) ∧ w'.cell? ⟨w.heap.size, 1, none⟩ = some (.slice A2 t.blocks.length c2) ∧ w'.cell? ⟨w.heap.size, 2, none⟩ = some (.slice A3 t.before.length c3) from ⟨(K0.new_ hb).cell 0, (K0.new_ hb).cell 1, (K0.new_ hb).cell 2⟩)
  have HWE := hide (show W.heap.size = w.heap.size + 1 by rw [hW]; simp)
  have o0 := own_made (base := W.heap.size) (e := 3) (size := 1) W #[] 0 (Nat.le_refl _) (by simp [maxLen]) rfl
  have b0 : Below W.heap.size W (W.alloc (.cells #[] 3)) := (Below.refl _ _).alloc (Nat.le_refl _) _
  clear h K0
  go_enter Tryz.func92, Tryz.ntmps92
  go_wp2
  rw [← hW]
  go_loopw [1, 5] (fun i s wr => ∃ (m : Int) (A' : Option Addr) (c' : Nat) (ys : List Int), i = .int .i64 m ∧ s = .slice A' ys.length c' ∧ Hid (treeB t = true → pathT t m ++ ys = pathT t n) ∧ Hid (treeB t = false → ys = []) ∧ wr.ownsRow W.heap.size 3 1 (.slice A' ys.length c') ys.length (ys.map (.int .i64)) ∧ Below W.heap.size W wr) (fun i _ _ => (intOf i + 1).toNat)
  case atStart => exact ⟨n, _, _, [], rfl, rfl, hide (fun _ => by simp), hide (fun _ => rfl), by simpa [unhide HWE] using o0, b0⟩
  case round =>
    clear o0 b0
    obtain ⟨m, A', c', ys, rfl, rfl, HH, HZ, hown, hbel⟩ := hrel
    obtain ⟨z0, z1, z2⟩ := unhide BX wr hbel
    have K := treeValid_spec t A1 c1 A2 c2 A3 c3 wr ((unhide HR).new hbel) hb1 hb2 (unhide HBS) hb3
    simp only [trA] at K
    cases hv : treeB t
    · have HP := hide (show pathS t n = ys by rw [unhide HZ hv]; unfold pathS; rw [if_neg (by simp [hv])])
      rw [hv] at K
      clear hv
      go_wp2_with fail
      refine K.mono ?_
      rintro e w3 ⟨rfl, b3⟩
      have hbel3 := bthen hbel b3
      have o3 := own_new hown b3
      go_wp2
      go_ret
      rw [unhide HP]
      exact ⟨A', c', rfl, own_base o3 (by omega), bthen hb0 hbel3⟩
    have HV := hide hv
    rw [hv] at K
    clear hv
    cases hin : inB m 0 ((t.blocks.length : Int) - 1)
    · have HP := hide (show pathS t n = ys by
        have h1 := unhide HH (unhide HV)
        rw [pathT_out t (n := m) (fun hc => by rw [inB_true.2 (by omega)] at hin; cases hin), List.nil_append] at h1
        unfold pathS
        rw [if_pos (unhide HV), h1])
      go_wp2_with fail
      refine K.mono ?_
      rintro e w3 ⟨rfl, b3⟩
      have hbel3 := bthen hbel b3
      have o3 := own_new hown b3
      obtain ⟨z0, z1, z2⟩ := unhide BX w3 hbel3
      go_wp2_with (go_at_call 52; refine (l1In_any _ _ _ _).mono ?_; rintro e w' ⟨rfl, rfl⟩; rw [hin])
      go_ret
      rw [unhide HP]
      exact ⟨A', c', rfl, own_base o3 (by omega), bthen hb0 hbel3⟩
    have hib := inB_true.1 hin
    obtain ⟨q, rfl⟩ := Int.eq_ofNat_of_zero_le hib.1
    have hlt : q < t.blocks.length := by omega
    have hlp : q < t.before.length := by have := (treeB_yes (unhide HV)).2.2.2.1; omega
    have i1' : (q : Int) < (t.before.length : Int) := by omega
    have HP := hide (pAt_lt (unhide HV) (k := q) hlt)
    have hstep := pathT_step (unhide HV) hib.1 (show (q : Int) < t.blocks.length by omega)
    rw [show ((q : Int)).toNat = q by simp] at hstep
    have HX := hide (fun (_ : True) => show pathT t (pAt t q) ++ ((q : Int) :: ys) = pathT t n by
      rw [← unhide HH (unhide HV), hstep]
      simp)
    have HYL := hide (show ys.length ≤ 15 by
      have h1 := congrArg List.length (unhide HH (unhide HV))
      have := pathT_len t n
      simp only [List.length_append] at h1
      omega)
    have hyl := unhide HYL
    clear hstep hib
    go_wp2_with fail
    refine K.mono ?_
    rintro e w3 ⟨rfl, b3⟩
    have hbel3 := bthen hbel b3
    have o3 := own_new hown b3
    obtain ⟨z0, z1, z2⟩ := unhide BX w3 hbel3
    have hs3 := hbel3.size
    have ol := own_made (base := W.heap.size) (e := 3) (size := 1) w3 #[.int .i64 (q : Int)] 1 hs3 (by simp [maxLen]) rfl
    have bl : Below W.heap.size W (w3.alloc (.cells #[.int .i64 (q : Int)] 3)) := hbel3.alloc hs3 _
    have HC := hide (fun (w' : World) (hb : Below W.heap.size W w') => pAt_cell ((unhide HR).new hb).b3 hlp)
    go_wp2_with (first | (go_at_call 52; refine (l1In_any _ _ _ _).mono ?_; rintro e w' ⟨rfl, rfl⟩; rw [hin]) | (at_builtin; refine wpList_app rfl (.tmp 18) (.tmp 19) 24 rfl el_int rfl ol rfl (own_rd (own_alloc o3 _)) (by simp) (one_ints ys) (by simp only [maxLen]; omega) (by omega) (by simp; omega) ?_; intro A4 c4 w4 o4 ch4 d4 _; have hbel4 : Below W.heap.size W w4 := app_below' bl ol ch4 (Nat.le_refl _); obtain ⟨bz, oz, hze, hzb, zp⟩ := unhide HC w4 hbel4; obtain ⟨y0, y1, y2⟩ := unhide BX w4 hbel4; rw [hze] at y2; clear hze))
    go_roundw
    case rel =>
      have hp := unhide HP
      exact ⟨_, A4, c4, (q : Int) :: ys, rfl, by simp [Nat.add_comm], HX, hide (fun h => by cases h), by simpa [Nat.add_comm] using o4, hbel4⟩
    case measure =>
      have hp := unhide HP
      simp [intOf]
      omega
end Go.Proofs.YtmpdopjailomlaaGreat
namespace Go.Proofs.YtmpdopjailomlaaGreat
open Go.RowKit
set_option linter.unusedVariables false
set_option linter.unusedSimpArgs false

/-- the values after some blocks -/
def afterV (t : Tr) (ns : List Int) : List Int := ns.foldl (fun v k => runAllV v (bAt t k.toNat).list) (valsL t.base)
theorem afterV_snoc (t : Tr) (ns : List Int) (k : Int) : afterV t (ns ++ [k]) = runAllV (afterV t ns) (bAt t k.toNat).list := by simp [afterV]
theorem blk_acts {t : Tr} (h : treeB t = true) {k : Nat} (hk : k < t.blocks.length) : actsB (bAt t k).list = true := by
  have h1 := (treeB_yes h).2.2.2.2.2.2.1 k hk
  rw [sumOk, Bool.and_eq_true] at h1
  have h2 := h1.1
  unfold blkB at h2
  simp only [Bool.and_eq_true] at h2
  exact h2.2.2.2.2.2
theorem valOk_after {t : Tr} (h : treeB t = true) (ns : List Int) (hn : ∀ k ∈ ns, 0 ≤ k ∧ k < t.blocks.length) : valOk (afterV t ns) := by
  have h0 : valOk (valsL t.base) := valOk_vals (storeB_def _ ▸ (treeB_yes h).1) (by omega)
  unfold afterV
  generalize valsL t.base = v at h0
  induction ns generalizing v with
  | nil => exact h0
  | cons k ns ih =>
    have hk := hn k (by simp)
    exact ih (fun x hx => hn x (by simp [hx])) _ (valOk_runAll h0 (acts_all (blk_acts h (by omega))))
/-- the store after a block -/
def storeT (t : Tr) (n : Int) : List Ent := if treeB t = true ∧ inB n 0 ((t.blocks.length : Int) - 1) = true then storeL (afterV t (pathT t n)) else []
theorem storeT_yes {t : Tr} {n : Int} (h : treeB t = true) (hn : inB n 0 ((t.blocks.length : Int) - 1) = true) : storeT t n = storeL (afterV t (pathT t n)) := by rw [storeT, if_pos ⟨h, hn⟩]
theorem storeT_no {t : Tr} {n : Int} (h : treeB t = false) : storeT t n = [] := by rw [storeT, if_neg (by simp [h])]
theorem storeT_no2 {t : Tr} {n : Int} (h : inB n 0 ((t.blocks.length : Int) - 1) = false) : storeT t n = [] := by rw [storeT, if_neg (by simp [h])]
theorem storeT_len (t : Tr) (n : Int) : (storeT t n).length ≤ 32 := by
  unfold storeT
  split
  · exact storeL_len _
  · simp
theorem wpList_drop_all {P : Program} {ops : Array Oper} {Q : Exit → Go.Act → World → Prop} {l : List Oper} {n : Nat} {a : Go.Act} {w : World} (hl : l.drop n = []) (h : Q .normal a w) : wpList P ops Q (l.drop n) a w := by
  rw [hl]
  exact h
set_option maxRecDepth 100000 in
set_option maxHeartbeats 8000000 in
theorem after_impl (t : Tr) (A1 : Option Addr) (c1 : Nat) (A2 : Option Addr) (c2 : Nat) (A3 : Option Addr) (c3 : Nat) (n : Int) (w : World) (h : TrR w t A1 A2 A3) (hv : treeB t = true) (hn0 : -1 ≤ n) (hn1 : n < t.blocks.length) :
    Calls Tryz.prog 95 #[.agg (trA t A1 c1 A2 c2 A3 c3), .int .i64 n] w fun e w' => e = .returned (.agg (vA (afterV t (pathT t n)))) ∧ Below w.heap.size w w' := by
  have HV := hide hv
  have hb1 : t.base.length ≤ 32 := store_len (treeB_yes hv).1
  have hkb : ∀ e ∈ t.base, 0 ≤ e.k ∧ e.k ≤ 31 := fun e he => by have := evOk_all (treeB_yes hv).1 e he; omega
  have HKB := hide hkb
  clear hv hkb
  have HR := hide (fun w' (hb : Below w.heap.size w w') => h.new hb)
  obtain ⟨W, hW⟩ : ∃ W : World, W = (w.alloc (.cells (trA t A1 c1 A2 c2 A3 c3) 31)).alloc (.cells zA 90) := ⟨_, rfl⟩
  have hb0 : Below w.heap.size w W := by rw [hW]; exact ((Below.refl _ _).alloc (Nat.le_refl _) _).alloc (by simp) _
  have K0 : Blk W w.heap.size 31 (trA t A1 c1 A2 c2 A3 c3) := by rw [hW]; exact (Blk.new _ _ _).alloc _
  have K1 : Blk W (w.heap.size + 1) 90 zA := by
    rw [hW]
    have := Blk.new (w.alloc (.cells (trA t A1 c1 A2 c2 A3 c3) 31)) 90 zA
    simpa using this
  have x1 : W.cell? ⟨w.heap.size, 0, none⟩ = some (.slice A1 t.base.length c1) := K0.cell 0
  have hW1 := K1.lt
  have KV := valuesOf_any A1 c1 t.base W ((unhide HR W hb0).b1) (by omega) (unhide HKB)
  simp only [trA] at K0 hW ⊢
  clear h
  subst hW
  go_enter Tryz.func95, Tryz.ntmps95
  go_wp2_with fail
  refine KV.mono ?_
  rintro e w3 ⟨rfl, b3⟩
  have hb3 := bthen hb0 b3
  have hs3 := b3.size
  replace K0 := K0.new_ b3
  replace K1 := K1.new_ b3
  clear x1 KV b3 hb0
  have kv0 := (one_vals w3 90 (valsL t.base)).1
  have kv := (one_vals w3 90 (valsL t.base)).2.1
  have bv := (one_vals w3 90 (valsL t.base)).2.2
  have hls : (vA (valsL t.base)).size = 32 := by rw [vA_size, valsL_len]
  have hgl : w.heap.size + 1 < w3.heap.size := by omega
  replace K0 := K0.new_ bv
  replace K1 := K1.new_ bv
  have hb4 := bthen hb3 bv
  have z0 : ((w3.alloc (.cells zA 90)).setRow w3.heap.size (vA (valsL t.base))).cell? ⟨w.heap.size, 0, none⟩ = some (.slice A1 t.base.length c1) := K0.cell 0
  have z1 : ((w3.alloc (.cells zA 90)).setRow w3.heap.size (vA (valsL t.base))).cell? ⟨w.heap.size, 1, none⟩ = some (.slice A2 t.blocks.length c2) := K0.cell 1
  have z2 : ((w3.alloc (.cells zA 90)).setRow w3.heap.size (vA (valsL t.base))).cell? ⟨w.heap.size, 2, none⟩ = some (.slice A3 t.before.length c3) := K0.cell 2
  unfold zA at z0 z1 z2
  go_wp2_with (refine wpList_store_row rfl 90 (.tmp 5) (.tmp 10) rfl w3.heap.size (vA (valsL t.base)) rfl rfl 90 zA kv0 (by rw [hls]; exact info_vals) (by rw [hls]; rfl) (vA_one _) ?_)
  have KP := path_impl t A1 c1 A2 c2 A3 c3 n _ (unhide HR _ hb4) (unhide HV) hn0 hn1
  simp only [trA] at KP
  refine KP.mono ?_
  rintro e w5 ⟨A', c', rfl, o5, b5⟩
  have hb5 := bthen hb4 b5
  replace K0 := K0.new_ b5
  replace K1 := K1.new_ b5
  have kv5 := kv.new_ b5
  have HPR := hide (fun (w' : World) (hc : Chg (fun q => q = w3.heap.size) w5 w') => own_rd (own_chg o5 hc (fun q hq e => by have := own_rng o5 q hq; rw [size_setRow] at this; simp at this; omega)))
  have HPM := hide (fun x (hx : x ∈ pathT t n) => pathT_mem (t := t) (n := n) hx)
  have hpl := pathT_len t n
  obtain ⟨g, hg⟩ : ∃ g, g = w3.heap.size := ⟨_, rfl⟩
  rw [← hg] at kv5 hgl HPR
  clear kv kv0 bv z0 z1 z2 o5 KP hls
  have HGE := hide (show w.heap.size ≤ g by omega)
  have hgn0 : w.heap.size ≠ g := by omega
  have hgn1 : w.heap.size + 1 ≠ g := by omega
  generalize hps : pathT t n = ps at *
  have HPS := hide hps
  clear b5 hb4 hb3 hs3 hW1 hps
  rw [← hg]
  clear hg
  go_wp2
  go_loopw [7, 15, 19] (fun _ i _ wr => ∃ (k : Nat), k ≤ ps.length ∧ i = .int .i64 k ∧ Blk wr g 90 (vA (afterV t (ps.take k))) ∧ Chg (fun q => q = g) w5 wr) (fun _ i _ _ => ps.length - (intOf i).toNat)
  case atStart => exact ⟨0, Nat.zero_le _, rfl, kv5, Chg.refl _ _⟩
  case round =>
    obtain ⟨k, hk, rfl, kv, hch⟩ := hrel
    have k0 := K0.chg hch hgn0
    have hbw : Below w.heap.size w wr := hb5.trans (hch.below (fun q hq e => by have := unhide HGE; omega) hb5.size)
    by_cases hlt : k < ps.length
    · have i1 : (k : Int) < (ps.length : Int) := by omega
      obtain ⟨bp, offp, rfl, hpb, zp⟩ := (unhide HPR wr hch).int hlt
      have hpm := unhide HPM ps[k] (List.getElem_mem hlt)
      have HT := hide (show afterV t (ps.take (k + 1)) = runAllV (afterV t (ps.take k)) (bAt t ps[k].toNat).list by rw [List.take_succ_eq_append_getElem hlt, afterV_snoc])
      have HVO := hide (valOk_after (unhide HV) (ps.take k) (fun x hx => unhide HPM x (List.mem_of_mem_take hx)))
      generalize ps[k] = p at *
      obtain ⟨q, rfl⟩ := Int.eq_ofNat_of_zero_le hpm.1
      rw [show ((q : Int)).toNat = q by simp] at HT
      have hqn : q < t.blocks.length := by omega
      have i2 : (q : Int) < (t.blocks.length : Int) := by omega
      have hacts := blk_acts (unhide HV) hqn
      rw [bAt_get t hqn] at HT hacts
      obtain ⟨bq, offq, L1, e1, hA2, -, hbb, -, -, -, d3, -, -, -, q1⟩ := (unhide HR w (Below.refl _ _)).b2.bk hqn
      generalize t.blocks[q] = x at *
      have hl10 := (actsB_yes hacts).1
      have HAC := hide (acts_all hacts)
      have HX := hide (fun (w' : World) (hc : Chg (fun q => q = g) wr w') => show w'.cell? ⟨w.heap.size, 1, none⟩ = some (.slice A2 t.blocks.length c2) ∧ w'.cell? ⟨bq, offq + q * 6 + 3, none⟩ = some (.slice L1 x.list.length e1) ∧ Rd w' L1 (x.list.flatMap encA) from by
        have hb' : Below w.heap.size w w' := hbw.trans (hc.below (fun q hq e => by have := unhide HGE; omega) hbw.size)
        exact ⟨(k0.chg hc hgn0).cell 1, (hb'.cell (p := ⟨bq, offq + q * 6 + 3, none⟩) hbb).trans d3, q1.rd.new hb'⟩)
      have hcl := (unhide HVO).1
      have hcn : (runAllV (afterV t (ps.take k)) x.list).length = 32 := (valOk_runAll (unhide HVO) (unhide HAC)).1
      generalize hcur : afterV t (ps.take k) = cur at *
      have hsV : (vA cur).size = 32 := by rw [vA_size, hcl]
      have HA2 := hide hA2
      generalize hnw : runAllV cur x.list = nw at *
      have HNW := hide hnw
      have hsN : (vA nw).size = 32 := by rw [vA_size, hcn]
      clear hacts hA2 d3 q1 hcur hnw hpm hcn
      go_wp2
      have hF : StVL [bV (.agg (vA cur)), bV (.pointer (some ⟨w.heap.size, 1, none⟩)), bV (.slice (some ⟨bq, offq, none⟩) t.blocks.length c2), bV (.int .i64 (q : Int)), bV (.pointer (some ⟨bq, offq + q * 6, none⟩)), bV (.pointer (some ⟨bq, offq + q * 6 + 3, none⟩)), bV (.slice L1 x.list.length e1), pV (fun v => ∃ A9 c9 n9, v = .tuple #[.agg (vA nw), .slice A9 n9 c9]), pV (fun v => ∃ A9 c9 n9, v = .tuple #[.agg (vA nw), .slice A9 n9 c9]), bV (.agg (vA nw)), pV (fun _ => True), pV (fun _ => True)] := ⟨fun _ _ _ h => h, fun _ _ _ h => h, fun _ _ _ h => h, fun _ _ _ h => h, fun _ _ _ h => h, fun _ _ _ h => h, fun _ _ _ h => h, fun _ _ _ h => h, fun _ _ _ h => h, fun _ _ _ h => h, fun _ _ _ h => h, fun _ _ _ h => h, trivial⟩
      go_upto_region 5 with fail
      refine wp_region_one (by kernel_rfl) [(0, some 20), (1, some 21), (2, some 22), (3, some 23), (4, some 24), (5, some 25), (6, some 26), (7, some 27), (8, some 19), (9, some 28), (10, some 29), (11, none)] [[], [], [(1, some 21)], [], [(2, some 22), (3, some 23)], [(4, some 24)], [(5, some 25)], [(0, some 20), (6, some 26)], [(7, some 27)], [(8, some 19)], [(8, some 19)], [(9, some 28)]] (by kernel_rfl) 11 [0] (by kernel_rfl)
        (locB [bV (.agg (vA cur)), bV (.pointer (some ⟨w.heap.size, 1, none⟩)), bV (.slice (some ⟨bq, offq, none⟩) t.blocks.length c2), bV (.int .i64 (q : Int)), bV (.pointer (some ⟨bq, offq + q * 6, none⟩)), bV (.pointer (some ⟨bq, offq + q * 6 + 3, none⟩)), bV (.slice L1 x.list.length e1), pV (fun v => ∃ A9 c9 n9, v = .tuple #[.agg (vA nw), .slice A9 n9 c9]), pV (fun v => ∃ A9 c9 n9, v = .tuple #[.agg (vA nw), .slice A9 n9 c9]), bV (.agg (vA nw)), pV (fun _ => True), pV (fun _ => True)]) (fun a b => Chg (fun q => q = g) a b) (fun b w => Blk w g 90 (vA (cond b nw cur))) (fun _ => Chg.refl _ _) (fun _ _ _ h1 h2 => h1.trans h2) (locV_st hF _) kv ?_ ?_
      · refine steps_cons ?s0 ( steps_cons ?s1 ( steps_cons ?s2 ( steps_cons ?s3 ( steps_cons ?s4 ( steps_cons ?s5 ( steps_cons ?s6 ( steps_cons ?s7 ( steps_cons ?s8 ( steps_cons ?s9 ( steps_cons ?s10 ( steps_cons ?s11 steps_nil)))))))))))
        case s0 =>
          intro w' b hE hb hR
          obtain rfl := hb (by simp)
          intro Q hQ
          refine wpList_load_row rfl 90 (.tmp 5) rfl g rfl 90 (vA cur) (0, 0) _ hR Tryz.underlying90 rfl (by rw [hsV]; exact info_vals) ?_
          go_wp2
          exact hQ _ _ _ rfl rfl (Chg.refl _ _) hR
        case s1 =>
          intro w' b hE hbx hR
          clear hbx
          intro Q hQ
          go_wp2
          exact hQ _ _ _ rfl rfl (Chg.refl _ _) hR
        case s2 =>
          intro w' b hE hbx hR
          clear hbx
          rintro _ rfl Q hQ
          obtain ⟨y1, y2, y3⟩ := unhide HX w' (chg_undrew hE)
          rw [unhide HA2] at y1
          go_wp2
          exact hQ _ _ _ rfl rfl (Chg.refl _ _) hR
        case s3 =>
          intro w' b hE hbx hR
          clear hbx
          intro Q hQ
          go_wp2
          exact hQ _ _ _ rfl rfl (Chg.refl _ _) hR
        case s4 =>
          intro w' b hE hbx hR
          clear hbx
          rintro _ rfl _ rfl Q hQ
          go_wp2
          exact hQ _ _ _ rfl rfl (Chg.refl _ _) hR
        case s5 =>
          intro w' b hE hbx hR
          clear hbx
          rintro _ rfl Q hQ
          go_wp2
          exact hQ _ _ _ rfl rfl (Chg.refl _ _) hR
        case s6 =>
          intro w' b hE hbx hR
          clear hbx
          rintro _ rfl Q hQ
          obtain ⟨y1, y2, y3⟩ := unhide HX w' (chg_undrew hE)
          rw [unhide HA2] at y1
          go_wp2
          exact hQ _ _ _ rfl rfl (Chg.refl _ _) hR
        case s7 =>
          intro w' b hE hbx hR
          clear hbx
          rintro _ rfl _ rfl Q hQ
          obtain ⟨y1, y2, y3⟩ := unhide HX w' (chg_undrew hE)
          rw [unhide HA2] at y1
          have K := runAll_any cur L1 e1 x.list w' (unhide HVO) y3 (unhide HAC) (by omega)
          rw [unhide HNW] at K
          go_wp2_with fail
          refine K.mono ?_
          rintro e w1 ⟨A9, c9, rfl, -, -, b1⟩
          go_wp2
          exact hQ _ _ _ rfl ⟨_, _, _, rfl⟩ (Chg.of_new b1) (hR.new_ b1)
        case s8 =>
          intro w' b hE hbx hR
          clear hbx
          rintro _ ⟨A9, c9, n9, rfl⟩ Q hQ
          go_wp2
          exact hQ _ _ _ rfl ⟨_, _, _, rfl⟩ (Chg.refl _ _) hR
        case s9 =>
          intro w' b hE hbx hR
          clear hbx
          rintro _ ⟨A9, c9, n9, rfl⟩ Q hQ
          go_wp2
          exact hQ _ _ _ rfl rfl (Chg.refl _ _) hR
        case s10 =>
          intro w' b hE hbx hR
          clear hbx
          rintro _ ⟨A9, c9, n9, rfl⟩ Q hQ
          go_wp2
          exact hQ _ _ _ rfl trivial (Chg.refl _ _) hR
        case s11 =>
          intro w' b hE hb hR
          obtain rfl := hb (by simp)
          rintro _ rfl Q hQ
          refine wpList_store_row rfl 90 (.tmp 5) (.tmp 28) rfl g (vA nw) rfl rfl 90 (vA cur) hR (by rw [hsN]; exact info_vals) (by rw [hsV, hsN]) (vA_one _) ?_
          go_wp2
          exact hQ undef _ _ rfl trivial ⟨rfl, rfl, rfl, by rw [size_setRow]; exact Nat.le_refl _, fun j _ hj => setRow_other _ g j _ hj⟩ (blk_setRow hR)
      intro w9 hE hR
      rintro v0 - v1 - v2 - v3 - v4 - v5 - v6 - v7 - v8 - v9 - v10 - v11 -
      refine wpList_drop_all rfl ?_
      simp only [Act.put, List.setIfInBounds_toArray, List.set_cons_succ, List.set_cons_zero]
      go_wp2
      go_roundw
      case rel => exact ⟨k + 1, by omega, by go_num, by rw [unhide HT]; exact hR, hch.trans (chg_undrew hE)⟩
      case measure => simp [intOf]; omega
    · obtain rfl : k = ps.length := by omega
      rw [List.take_length] at kv
      have kR := K1.chg hch hgn1
      have hsV : (vA (afterV t ps)).size = 32 := by rw [vA_size, (valOk_after (unhide HV) ps (unhide HPM)).1]
      have hgz : zA.size = 32 := rfl
      have hkr := blk_setRow (ds := vA (afterV t ps)) kR
      go_wp2_with (first | (refine wpList_load_row rfl 90 (.tmp 5) rfl g rfl 90 (vA (afterV t ps)) (0, 0) _ kv Tryz.underlying90 rfl (by rw [hsV]; exact info_vals) ?_) | (refine wpList_store_row rfl 90 (.tmp 4) (.tmp 31) rfl (w.heap.size + 1) (vA (afterV t ps)) rfl rfl 90 zA kR (by rw [hsV]; exact info_vals) (by rw [hsV]; rfl) (vA_one _) ?_))
      refine bodyPost_ret (v := .agg (vA (afterV t ps))) (results_cell_row (p := 4) (ty := 90) rfl _ _ (w.heap.size + 1) 90 (vA (afterV t ps)) (0, 0) _ rfl hkr Tryz.underlying90 rfl (by rw [hsV]; exact info_vals)) rfl ⟨by rw [unhide HPS], ?_⟩
      exact ⟨hbw.os, hbw.tape, hbw.output, by rw [size_setRow]; exact hbw.size, fun q hq => (setRow_other wr (w.heap.size + 1) q _ (by omega)).trans (hbw.block q hq)⟩
set_option maxRecDepth 100000 in
set_option maxHeartbeats 4000000 in
theorem storeOf_impl (t : Tr) (A1 : Option Addr) (c1 : Nat) (A2 : Option Addr) (c2 : Nat) (A3 : Option Addr) (c3 : Nat) (n : Int) (w : World) (h : TrR w t A1 A2 A3) (hb1 : t.base.length ≤ 1099511627776) (hb2 : t.blocks.length ≤ 1099511627776) (hbs : ∀ x ∈ t.blocks, x.list.length ≤ 1099511627776) (hb3 : t.before.length ≤ 1099511627776) :
    Calls Tryz.prog 57 #[.agg (trA t A1 c1 A2 c2 A3 c3), .int .i64 n] w fun e w' => ∃ A' c', e = .returned (.slice A' (storeT t n).length c') ∧ w'.ownsRow w.heap.size 99 2 (.slice A' (storeT t n).length c') (storeT t n).length ((storeT t n).flatMap encE) ∧ Below w.heap.size w w' := by
  have HBS := hide hbs
  clear hbs
  obtain ⟨W, hW⟩ : ∃ W : World, W = w.alloc (.cells (trA t A1 c1 A2 c2 A3 c3) 31) := ⟨_, rfl⟩
  have hb0 : Below w.heap.size w W := by rw [hW]; exact (Below.refl _ _).alloc (Nat.le_refl _) _
  have K0 : Blk W w.heap.size 31 (trA t A1 c1 A2 c2 A3 c3) := by rw [hW]; exact Blk.new _ _ _
  have HR := hide (fun w' (hb : Below W.heap.size W w') => h.new (bthen hb0 hb))
  have hWs : w.heap.size < W.heap.size := K0.lt
  have BX := hide (fun w' (hb : Below W.heap.size W w') => show w'.cell? ⟨w.heap.size, 0, none⟩ = some (.slice A1 t.base.length c1) ∧ w'.cell? ⟨w.heap.size, 1, none⟩ = some (.slice A2 t.blocks.length c2) ∧ w'.cell? ⟨w.heap.size, 2, none⟩ = some (.slice A3 t.before.length c3) from ⟨(K0.new_ hb).cell 0, (K0.new_ hb).cell 1, (K0.new_ hb).cell 2⟩)
  have KV := treeValid_impl t A1 c1 A2 c2 A3 c3 W (unhide HR _ (Below.refl _ _)) hb1 hb2 (unhide HBS) hb3
  have KH := hide (fun w' => has_impl t A1 c1 A2 c2 A3 c3 n w' hb2)
  have KA := hide (fun w' (hb : Below W.heap.size W w') hv hn0 hn1 => after_impl t A1 c1 A2 c2 A3 c3 n w' (unhide HR w' hb) hv hn0 hn1)
  obtain ⟨x0, x1, x2⟩ := unhide BX W (Below.refl _ _)
  simp only [trA] at K0 hW KV KH KA ⊢
  clear h K0
  subst hW
  go_enter Tryz.func57, Tryz.ntmps57
  go_wp2_with fail
  refine KV.mono ?_
  rintro e w3 ⟨rfl, b3⟩
  clear KV x0 x1 x2
  obtain ⟨z0, z1, z2⟩ := unhide BX w3 b3
  cases hv : treeB t
  · have HP := hide (storeT_no (n := n) hv)
    go_wp2
    go_ret
    rw [unhide HP]
    exact ⟨none, 0, rfl, own_nil _ _ _ _, bthen hb0 b3⟩
  have HV := hide hv
  clear hv
  cases hin : inB n 0 ((t.blocks.length : Int) - 1)
  · have HP := hide (storeT_no2 hin)
    go_wp2_with fail
    refine (unhide KH w3).mono ?_
    rintro e w4 ⟨rfl, b4⟩
    rw [hin]
    go_wp2
    go_ret
    rw [unhide HP]
    exact ⟨none, 0, rfl, own_nil _ _ _ _, bthen hb0 (bthen b3 b4)⟩
  have HP := hide (storeT_yes (unhide HV) hin)
  have hib := inB_true.1 hin
  have HAL := hide (valOk_after (unhide HV) (pathT t n) (fun x hx => pathT_mem hx)).1
  have hb0n : -1 ≤ n := by omega
  have hb1n : n < (t.blocks.length : Int) := by omega
  clear hib
  go_wp2_with fail
  refine (unhide KH w3).mono ?_
  rintro e w4 ⟨rfl, b4⟩
  rw [hin]
  have b34 := bthen b3 b4
  obtain ⟨z0, z1, z2⟩ := unhide BX w4 b34
  go_wp2_with fail
  refine (unhide KA w4 b34 (unhide HV) hb0n hb1n).mono ?_
  rintro e w5 ⟨rfl, b5⟩
  have b45 := bthen b34 b5
  have hs5 := b45.size
  go_wp2_with fail
  refine (store_any (afterV t (pathT t n)) w5 (unhide HAL)).mono ?_
  rintro e w6 ⟨A', c', rfl, o6, b6⟩
  rw [← unhide HP] at o6 ⊢
  go_wp2
  go_ret
  exact ⟨A', c', rfl, own_base o6 (by omega), bthen hb0 (bthen b45 b6)⟩
end Go.Proofs.YtmpdopjailomlaaGreat
namespace Go.Proofs.YtmpdopjailomlaaGreat
open Go.RowKit
set_option linter.unusedVariables false
set_option linter.unusedSimpArgs false

def sTup (B : Nat) (s : List Ent) (v : Value) (w : World) : Prop := ∃ A c u, v = .tuple #[.slice A s.length c, u] ∧ w.ownsRow B 99 2 (.slice A s.length c) s.length (s.flatMap encE)
def sOwn (B : Nat) (s : List Ent) (v : Value) (w : World) : Prop := ∃ A c, v = .slice A s.length c ∧ w.ownsRow B 99 2 (.slice A s.length c) s.length (s.flatMap encE)
theorem sb_Tup (B : Nat) (s : List Ent) : StB (sTup B s) := fun _ _ _ hb ⟨A, c, u, h1, h2⟩ => ⟨A, c, u, h1, own_new h2 hb⟩
theorem sb_Own (B : Nat) (s : List Ent) : StB (sOwn B s) := fun _ _ _ hb ⟨A, c, h1, h2⟩ => ⟨A, c, h1, own_new h2 hb⟩
theorem serial_step {v : List Int} {al : List Act} (hv : valOk v) (ha : actsB al = true) : serialS (storeL v) al = storeL (runAllV v al) := by
  rw [serialS, if_pos ⟨(storeL_ok hv).1, ha⟩, vals_store hv]
theorem len_ents (es : List Ent) : (es.flatMap encE).length = es.length * 2 := by
  induction es with
  | nil => rfl
  | cons e es ih => rw [List.flatMap_cons, List.length_append, ih, List.length_cons]; simp [encE]; omega
set_option maxRecDepth 100000 in
set_option maxHeartbeats 8000000 in
theorem storeOf_spec (t : Tr) (A1 : Option Addr) (c1 : Nat) (A2 : Option Addr) (c2 : Nat) (A3 : Option Addr) (c3 : Nat) (n : Int) (w : World) (h : TrR w t A1 A2 A3) (hb1 : t.base.length ≤ 1099511627776) (hb2 : t.blocks.length ≤ 1099511627776) (hbs : ∀ x ∈ t.blocks, x.list.length ≤ 1099511627776) (hb3 : t.before.length ≤ 1099511627776) :
    Calls Tryz.prog 53 #[.agg (trA t A1 c1 A2 c2 A3 c3), .int .i64 n] w fun e w' => ∃ A' c', e = .returned (.slice A' (storeT t n).length c') ∧ w'.ownsRow w.heap.size 99 2 (.slice A' (storeT t n).length c') (storeT t n).length ((storeT t n).flatMap encE) ∧ Below w.heap.size w w' := by
  have HBS := hide hbs
  clear hbs
  obtain ⟨W, hW⟩ : ∃ W : World, W = w.alloc (.cells (trA t A1 c1 A2 c2 A3 c3) 31) := ⟨_, rfl⟩
  have hb0 : Below w.heap.size w W := by rw [hW]; exact (Below.refl _ _).alloc (Nat.le_refl _) _
  have K0 : Blk W w.heap.size 31 (trA t A1 c1 A2 c2 A3 c3) := by rw [hW]; exact Blk.new _ _ _
  have HR := hide (fun w' (hb : Below W.heap.size W w') => h.new (bthen hb0 hb))
  have hWs : w.heap.size < W.heap.size := K0.lt
  have BX := hide (fun w' (hb : Below W.heap.size W w') => show w'.cell? ⟨w.heap.size, 0, none⟩ = some (.slice A1 t.base.length c1) ∧ w'.cell? ⟨w.heap.size, 1, none⟩ = some (.slice A2 t.blocks.length c2) ∧ w'.cell? ⟨w.heap.size, 2, none⟩ = some (.slice A3 t.before.length c3) from ⟨(K0.new_ hb).cell 0, (K0.new_ hb).cell 1, (K0.new_ hb).cell 2⟩)
  have KV := path_spec t A1 c1 A2 c2 A3 c3 n W (unhide HR _ (Below.refl _ _)) hb1 hb2 (unhide HBS) hb3
  obtain ⟨x0, x1, x2⟩ := unhide BX W (Below.refl _ _)
  simp only [trA] at K0 hW KV ⊢
  clear h K0
  subst hW
  go_enter Tryz.func53, Tryz.ntmps53
  go_wp2_with fail
  refine KV.mono ?_
  rintro e w3 ⟨AP, cp, rfl, o3, b3⟩
  clear KV x0 x1 x2
  have hpl := pathS_len t n
  have HPM := hide (fun x (hx : x ∈ pathS t n) => pathS_mem (t := t) (n := n) hx)
  have HPS := hide (show storeT t n = if pathS t n = [] then [] else storeL (afterV t (pathS t n)) from by
    unfold pathS
    cases hv : treeB t
    · rw [storeT_no hv]; simp
    · cases hin : inB n 0 ((t.blocks.length : Int) - 1)
      · rw [storeT_no2 hin, pathT_out t (fun hc => by rw [inB_true.2 (by omega)] at hin; cases hin)]; simp
      · have hib := inB_true.1 hin
        rw [storeT_yes hv hin, if_pos rfl, if_neg]
        rw [pathT_step hv (by omega) (by omega)]
        simp)
  have b03 := b3
  have hs3 := b3.size
  have rp := own_rd o3
  have HAP := hide (own_rng o3)
  generalize hps : pathS t n = ps at *
  have o4 := own_made (base := w.heap.size) (e := 99) (size := 2) w3 #[] 0 (by omega) (by simp [maxLen]) rfl
  have b4 : Below (w.alloc (.cells #[.slice A1 t.base.length c1, .slice A2 t.blocks.length c2, .slice A3 t.before.length c3] 31)).heap.size (w.alloc (.cells #[.slice A1 t.base.length c1, .slice A2 t.blocks.length c2, .slice A3 t.before.length c3] 31)) (w3.alloc (.cells #[] 99)) := b3.alloc hs3 _
  rcases ps with _ | ⟨p0, ps'⟩
  · have HP := hide (show storeT t n = [] by rw [unhide HPS, if_pos rfl])
    clear o3 HAP rp HPS hps
    go_wp2
    go_loopw [6, 7] (fun s i wr => ∃ (c' : Nat), i = .int .i64 0 ∧ s = .slice (some ⟨w3.heap.size, 0, none⟩) 0 c' ∧ wr.ownsRow w.heap.size 99 2 (.slice (some ⟨w3.heap.size, 0, none⟩) 0 c') 0 [] ∧ Below w.heap.size w wr) (fun _ _ _ => 0)
    case atStart => exact ⟨_, rfl, rfl, by simpa using o4, bthen hb0 b4⟩
    case round =>
      clear o4
      obtain ⟨c', rfl, rfl, hown, hbel⟩ := hrel
      go_wp2
      go_ret
      rw [unhide HP]
      exact ⟨_, _, rfl, hown, hbel⟩
  have hne : (p0 :: ps') ≠ [] := by simp
  generalize hpp : p0 :: ps' = ps at *
  have hp0 : 0 < ps.length := by rw [← hpp]; simp
  have hp00 : (0 : Int) < (ps.length : Int) := by omega
  have HP := hide (show storeT t n = storeL (afterV t ps) by rw [unhide HPS, if_neg hne])
  have HV := hide (show treeB t = true from (unhide HPM p0 (by rw [← hpp]; simp)).1)
  clear hpp hne HPS p0 ps' hps
  have HPL := hide (fun (w' : World) (hb : Below w3.heap.size w3 w') => (own_rd (own_new o3 hb) : Rd w' AP (ps.map (.int .i64))))
  have HB5 := hide (store_vals (treeB_yes (unhide HV)).1)
  have hbl := store_len (treeB_yes (unhide HV)).1
  have HR3 := hide (fun w' (hb : Below w3.heap.size w3 w') => unhide HR w' (bthen b03 hb))
  have BX3 := hide (fun w' (hb : Below w3.heap.size w3 w') => unhide BX w' (bthen b03 hb))
  have b34 : Below w3.heap.size w3 (w3.alloc (.cells #[] 99)) := (Below.refl _ _).alloc (Nat.le_refl _) _
  have o4' := own_made (base := w3.heap.size) (e := 99) (size := 2) w3 #[] 0 (Nat.le_refl _) (by simp [maxLen]) rfl
  obtain ⟨z0, z1, z2⟩ := unhide BX3 _ b34
  have hw3 : w.heap.size ≤ w3.heap.size := by omega
  have hb3' := bthen hb0 b3
  clear BX HR o3 b3 b4 hb0 rp b03 o4
  go_wp2_with (at_builtin; refine wpList_app rfl (.tmp 17) (.tmp 19) 28 rfl el_ent rfl o4' rfl ((unhide HR3 _ b34).b1) (len_ents t.base) (one_ents t.base) (by simp only [maxLen]; omega) (by omega) (by simp) ?_; intro A4 c4 w4 o5 ch4 d4 _)
  have b4 : Below w3.heap.size w3 w4 := app_below' b34 o4' ch4 (Nat.le_refl _)
  have o6 : w4.ownsRow w3.heap.size 99 2 (.slice A4 t.base.length c4) t.base.length (t.base.flatMap encE) := by simpa using o5
  have hAF : afterV t (ps.take 0) = valsL t.base := rfl
  have HBS0 := hide (show t.base = storeL (afterV t (ps.take 0)) by rw [hAF, unhide HB5])
  clear o4' o5 ch4 d4 hAF b34 z0 z1 z2
  go_loopw [6, 7, 8, 9, 27] (fun s i _ _ _ wr => ∃ (k : Nat) (A' : Option Addr) (c' : Nat) (cur : List Ent), k ≤ ps.length ∧ i = .int .i64 k ∧ s = .slice A' cur.length c' ∧ Hid (cur = storeL (afterV t (ps.take k))) ∧ cur.length ≤ 32 ∧ wr.ownsRow w3.heap.size 99 2 (.slice A' cur.length c') cur.length (cur.flatMap encE) ∧ Below w3.heap.size w3 wr) (fun _ i _ _ _ _ => ps.length - (intOf i).toNat)
  case atStart => exact ⟨0, A4, c4, t.base, Nat.zero_le _, rfl, rfl, HBS0, hbl, o6, b4⟩
  case round =>
    clear o6 b4 HBS0
    obtain ⟨k, A', c', cur, hk, rfl, rfl, HC, hcl, hown, hbel⟩ := hrel
    have hsz := hbel.size
    by_cases hlt : k < ps.length
    · have i1 : (k : Int) < (ps.length : Int) := by omega
      obtain ⟨bp, offp, hAPe, hpb, zp⟩ := (unhide HPL w3 (Below.refl _ _)).int hlt
      have hpm := (unhide HPM ps[k] (List.getElem_mem hlt)).2
      have HT := hide (show afterV t (ps.take (k + 1)) = runAllV (afterV t (ps.take k)) (bAt t ps[k].toNat).list by rw [List.take_succ_eq_append_getElem hlt, afterV_snoc])
      have HVO := hide (valOk_after (unhide HV) (ps.take k) (fun x hx => (unhide HPM x (List.mem_of_mem_take hx)).2))
      generalize ps[k] = p at *
      obtain ⟨q, rfl⟩ := Int.eq_ofNat_of_zero_le hpm.1
      rw [show ((q : Int)).toNat = q by simp] at HT
      have hqn : q < t.blocks.length := by omega
      have i2 : (q : Int) < (t.blocks.length : Int) := by omega
      have hacts := blk_acts (unhide HV) hqn
      rw [bAt_get t hqn] at HT hacts
      obtain ⟨bq, offq, L1, e1, hA2, -, hbb, -, -, -, d3, -, -, -, q1⟩ := (unhide HR3 w3 (Below.refl _ _)).b2.bk hqn
      generalize t.blocks[q] = x at *
      have hl10 := (actsB_yes hacts).1
      have HSS := hide (show serialS cur x.list = storeL (afterV t (ps.take (k + 1))) by rw [unhide HC, serial_step (unhide HVO) hacts, unhide HT])
      have HX := hide (fun (w' : World) (hb : Below wr.heap.size wr w') => show w'.cell? ⟨w.heap.size, 1, none⟩ = some (.slice A2 t.blocks.length c2) ∧ w'.cell? ⟨bq, offq + q * 6 + 3, none⟩ = some (.slice L1 x.list.length e1) ∧ w'.cell? ⟨bp, offp + k, none⟩ = some (.int .i64 (q : Int)) ∧ Rd w' L1 (x.list.flatMap encA) ∧ Rd w' A' (cur.flatMap encE) ∧ Below w3.heap.size w3 w' from by
        have hb' := bthen hbel hb
        exact ⟨(unhide BX3 w' hb').2.1, (hb'.cell (p := ⟨bq, offq + q * 6 + 3, none⟩) hbb).trans d3, (hb'.cell (p := ⟨bp, offp + k, none⟩) hpb).trans zp, q1.rd.new hb', (own_rd hown).new hb, hb'⟩)
      have HA2 := hide hA2
      have HAE := hide hAPe
      have hnl : (serialS cur x.list).length ≤ 32 := serialS_len cur x.list
      generalize hnx : serialS cur x.list = nx at *
      have HNX := hide hnx
      clear hacts hA2 hAPe d3 q1 zp hpm hnx
      rw [unhide HAE]
      go_wp2
      have hF : StBL [bV (.slice A' cur.length c'), bV (.pointer (some ⟨w.heap.size, 1, none⟩)), bV (.slice (some ⟨bq, offq, none⟩) t.blocks.length c2), bV (.slice (some ⟨bp, offp, none⟩) ps.length cp), bV (.int .i64 (k : Int)), bV (.pointer (some ⟨bp, offp + k, none⟩)), bV (.int .i64 (q : Int)), bV (.pointer (some ⟨bq, offq + q * 6, none⟩)), bV (.pointer (some ⟨bq, offq + q * 6 + 3, none⟩)), bV (.slice L1 x.list.length e1), sTup w3.heap.size nx, sTup w3.heap.size nx, sOwn w3.heap.size nx, (fun _ _ => True), sOwn w3.heap.size nx] :=
        ⟨sb_V _, sb_V _, sb_V _, sb_V _, sb_V _, sb_V _, sb_V _, sb_V _, sb_V _, sb_V _, sb_Tup _ _, sb_Tup _ _, sb_Own _ _, sb_True, sb_Own _ _, trivial⟩
      go_upto_region 8 with fail
      refine wp_region_loc (by kernel_rfl) [(0, some 28), (1, some 29), (2, some 30), (3, some 31), (4, some 32), (5, some 33), (6, some 34), (7, some 35), (8, some 36), (9, some 37), (10, some 38), (11, some 27), (12, some 39), (13, some 40), (14, some 8)] [[], [], [(1, some 29)], [], [], [(3, some 31), (4, some 32)], [(5, some 33)], [(2, some 30), (6, some 34)], [(7, some 35)], [(8, some 36)], [(0, some 28), (9, some 37)], [(10, some 38)], [(11, some 27)], [(11, some 27)], [(12, some 39)]] (by kernel_rfl)
        (locB _) (fun a b => Below a.heap.size a b) noR [0, 0, 0, 0, 0, 0, 0, 0, 0, 0, 0, 0, 0, 0, 0] 0 (by kernel_rfl) (fun _ => Below.refl _ _) (fun _ _ _ => bthen) (locB_st hF _) trivial ?_ ?_
      · refine steps_cons ?s0 ( steps_cons ?s1 ( steps_cons ?s2 ( steps_cons ?s3 ( steps_cons ?s4 ( steps_cons ?s5 ( steps_cons ?s6 ( steps_cons ?s7 ( steps_cons ?s8 ( steps_cons ?s9 ( steps_cons ?s10 ( steps_cons ?s11 ( steps_cons ?s12 ( steps_cons ?s13 ( steps_cons ?s14 steps_nil))))))))))))))
        case s0 =>
          intro w' m' hE hR
          intro Q hQ
          go_wp2
          exact hQ _ _ _ rfl rfl (Below.refl _ _) trivial
        case s1 =>
          intro w' m' hE hR
          intro Q hQ
          go_wp2
          exact hQ _ _ _ rfl rfl (Below.refl _ _) trivial
        case s2 =>
          intro w' m' hE hR
          rintro _ rfl Q hQ
          obtain ⟨y1, y2, y3, y4, y5, y6⟩ := unhide HX w' (below_undrew hE)
          rw [unhide HA2] at y1
          go_wp2
          exact hQ _ _ _ rfl rfl (Below.refl _ _) trivial
        case s3 =>
          intro w' m' hE hR
          intro Q hQ
          go_wp2
          exact hQ _ _ _ rfl rfl (Below.refl _ _) trivial
        case s4 =>
          intro w' m' hE hR
          intro Q hQ
          go_wp2
          exact hQ _ _ _ rfl rfl (Below.refl _ _) trivial
        case s5 =>
          intro w' m' hE hR
          rintro _ rfl _ rfl Q hQ
          go_wp2
          exact hQ _ _ _ rfl rfl (Below.refl _ _) trivial
        case s6 =>
          intro w' m' hE hR
          rintro _ rfl Q hQ
          obtain ⟨y1, y2, y3, y4, y5, y6⟩ := unhide HX w' (below_undrew hE)
          rw [unhide HA2] at y1
          go_wp2
          exact hQ _ _ _ rfl rfl (Below.refl _ _) trivial
        case s7 =>
          intro w' m' hE hR
          rintro _ rfl _ rfl Q hQ
          go_wp2
          exact hQ _ _ _ rfl rfl (Below.refl _ _) trivial
        case s8 =>
          intro w' m' hE hR
          rintro _ rfl Q hQ
          go_wp2
          exact hQ _ _ _ rfl rfl (Below.refl _ _) trivial
        case s9 =>
          intro w' m' hE hR
          rintro _ rfl Q hQ
          obtain ⟨y1, y2, y3, y4, y5, y6⟩ := unhide HX w' (below_undrew hE)
          rw [unhide HA2] at y1
          go_wp2
          exact hQ _ _ _ rfl rfl (Below.refl _ _) trivial
        case s10 =>
          intro w' m' hE hR
          rintro _ rfl _ rfl Q hQ
          obtain ⟨y1, y2, y3, y4, y5, y6⟩ := unhide HX w' (below_undrew hE)
          rw [unhide HA2] at y1
          have hs6 := y6.size
          have K := runSerial_own A' c' cur L1 e1 x.list w' y5 (by omega) y4 (by omega)
          rw [unhide HNX] at K
          go_wp2_with fail
          refine K.mono ?_
          rintro e w1 ⟨A8, c8, A9, c9, fp, rfl, o8, -, -, b1⟩
          go_wp2
          exact hQ _ _ _ rfl ⟨A8, c8, _, rfl, own_base o8 (by omega)⟩ b1 trivial
        case s11 =>
          intro w' m' hE hR
          rintro _ ⟨A8, c8, u8, rfl, o8⟩ Q hQ
          go_wp2
          exact hQ _ _ _ rfl ⟨A8, c8, u8, rfl, o8⟩ (Below.refl _ _) trivial
        case s12 =>
          intro w' m' hE hR
          rintro _ ⟨A8, c8, u8, rfl, o8⟩ Q hQ
          go_wp2
          exact hQ _ _ _ rfl ⟨A8, c8, rfl, o8⟩ (Below.refl _ _) trivial
        case s13 =>
          intro w' m' hE hR
          rintro _ ⟨A8, c8, u8, rfl, o8⟩ Q hQ
          go_wp2
          exact hQ _ _ _ rfl trivial (Below.refl _ _) trivial
        case s14 =>
          intro w' m' hE hR
          rintro _ ⟨A8, c8, rfl, o8⟩ Q hQ
          go_wp2
          exact hQ _ _ _ rfl ⟨A8, c8, rfl, o8⟩ (Below.refl _ _) trivial
      intro w9 hE _
      rintro v0 - v1 - v2 - v3 - v4 - v5 - v6 - v7 - v8 - v9 - v10 - v11 - v12 - v13 - v14 ⟨A8, c8, rfl, o8⟩
      change wpList _ _ _ [_] _ _
      simp only [Act.put, List.setIfInBounds_toArray, List.set_cons_succ, List.set_cons_zero]
      have b9 := below_undrew hE
      go_wp2
      go_roundw
      case rel => exact ⟨k + 1, A8, c8, nx, by omega, by go_num, rfl, HSS, hnl, o8, bthen hbel b9⟩
      case measure => simp [intOf]; omega
    · obtain rfl : k = ps.length := by omega
      have HE := hide (show cur = storeT t n by rw [unhide HC, List.take_length, unhide HP])
      go_wp2
      go_ret
      rw [← unhide HE]
      exact ⟨A', c', rfl, own_base hown hw3, bthen hb3' hbel⟩
end Go.Proofs.YtmpdopjailomlaaGreat
namespace Go.Proofs.YtmpdopjailomlaaGreat
open Go.RowKit
set_option linter.unusedVariables false
set_option linter.unusedSimpArgs false

set_option maxHeartbeats 1000000 in
theorem eqAnswer_any (x y : Ans) (A2 : Option Addr) (c2 : Nat) (B2 : Option Addr) (d2 : Nat) (w : World) (h2 : Rd w A2 (x.proof.map (.int .i64))) (k2 : Rd w B2 (y.proof.map (.int .i64))) (hb2 : x.proof.length ≤ 4611686018427387904) :
    Calls Tryz.prog 16 #[.agg #[.int .i64 x.key, .int .i64 x.value, .slice A2 x.proof.length c2], .agg #[.int .i64 y.key, .int .i64 y.value, .slice B2 y.proof.length d2]] w fun e w' => e = .returned (.bool (decide (x = y))) ∧ Below w.heap.size w w' := by
  have hB : Below w.heap.size w ((w.alloc (.cells #[.int .i64 x.key, .int .i64 x.value, .slice A2 x.proof.length c2] 39)).alloc (.cells #[.int .i64 y.key, .int .i64 y.value, .slice B2 y.proof.length d2] 39)) := ((Below.refl _ _).alloc (Nat.le_refl _) _).alloc (by simp) _
  have K0 := (Blk.new w 39 #[.int .i64 x.key, .int .i64 x.value, .slice A2 x.proof.length c2]).alloc (.cells #[.int .i64 y.key, .int .i64 y.value, .slice B2 y.proof.length d2] 39)
  have K1 := Blk.new (w.alloc (.cells #[.int .i64 x.key, .int .i64 x.value, .slice A2 x.proof.length c2] 39)) 39 #[.int .i64 y.key, .int .i64 y.value, .slice B2 y.proof.length d2]
  simp only [World.size_alloc] at K1
  by_cases e0 : x.key = y.key
  rotate_left
  · have HE := hide (show ¬ x = y from fun h => e0 (by rw [h]))
    have H0 := hide e0
    have g0 : (x.key != y.key) = true := by simpa using e0
    clear e0
    go_enter Tryz.func16, Tryz.ntmps16
    go_wp2
    go_ret
    exact ⟨retb (by rw [decide_eq_false (unhide HE)]), hB⟩
  have H0 := hide e0
  have g0 : (x.key != y.key) = false := by simpa using e0
  clear e0
  by_cases e1 : x.value = y.value
  rotate_left
  · have HE := hide (show ¬ x = y from fun h => e1 (by rw [h]))
    have H1 := hide e1
    have g1 : (x.value != y.value) = true := by simpa using e1
    clear e1
    go_enter Tryz.func16, Tryz.ntmps16
    go_wp2
    go_ret
    exact ⟨retb (by rw [decide_eq_false (unhide HE)]), hB⟩
  have H1 := hide e1
  have g1 : (x.value != y.value) = false := by simpa using e1
  clear e1
  by_cases e2 : x.proof = y.proof
  rotate_left
  · have HE := hide (show ¬ x = y from fun h => e2 (by rw [h]))
    have H2 := hide e2
    clear e2
    go_enter Tryz.func16, Tryz.ntmps16
    go_wp2_with fail
    refine (eqIntS_any A2 B2 c2 d2 _ _ _ (h2.new hB) (k2.new hB) hb2).mono ?_
    rintro e u2 ⟨rfl, m2, rfl⟩
    replace hB := below_drewN hB m2
    replace K0 := K0.drewN m2
    replace K1 := K1.drewN m2
    rw [decide_eq_false (unhide H2)]
    go_wp2
    go_ret
    exact ⟨retb (by rw [decide_eq_false (unhide HE)]), hB⟩
  have H2 := hide e2
  clear e2
  have HE := hide (show x = y by have e0 := unhide H0; have e1 := unhide H1; have e2 := unhide H2; cases x; cases y; simp_all)
  go_enter Tryz.func16, Tryz.ntmps16
  go_wp2_with fail
  refine (eqIntS_any A2 B2 c2 d2 _ _ _ (h2.new hB) (k2.new hB) hb2).mono ?_
  rintro e u2 ⟨rfl, m2, rfl⟩
  replace hB := below_drewN hB m2
  replace K0 := K0.drewN m2
  replace K1 := K1.drewN m2
  rw [decide_eq_true (unhide H2)]
  go_wp2
  go_ret
  exact ⟨retb (by rw [decide_eq_true (unhide HE)]), hB⟩
end Go.Proofs.YtmpdopjailomlaaGreat
namespace Go.Proofs.YtmpdopjailomlaaGreat
open Go.RowKit
set_option linter.unusedVariables false
set_option linter.unusedSimpArgs false

def askOk (t : Tr) (n key : Int) : Bool := treeB t && (inB n 0 ((t.blocks.length : Int) - 1) && inB key 0 31)
def askA (t : Tr) (n key : Int) : Ans := if askOk t n key = true then ⟨key, atL (storeT t n) key, proofL (storeT t n) key⟩ else ⟨0, 0, []⟩
theorem askA_no {t : Tr} {n key : Int} (h : askOk t n key = false) : askA t n key = ⟨0, 0, []⟩ := by rw [askA, if_neg (by simp [h])]
theorem askA_yes {t : Tr} {n key : Int} (h : askOk t n key = true) : askA t n key = ⟨key, atL (storeT t n) key, proofL (storeT t n) key⟩ := by rw [askA, if_pos h]
theorem storeT_ok {t : Tr} {n key : Int} (h : askOk t n key = true) : storeB (storeT t n) = true := by
  simp only [askOk, Bool.and_eq_true] at h
  rw [storeT_yes h.1 h.2.1]
  exact (storeL_ok (valOk_after h.1 (pathT t n) (fun x hx => pathT_mem hx))).1
theorem askA_len (t : Tr) (n key : Int) : (askA t n key).proof.length ≤ 5 := by
  unfold askA
  split
  · exact proofL_len _ _
  · simp
theorem info_ans3 : (Tryz.prog.info? 39).map (·.size) = some 3 := by kernel_rfl
theorem ans_one (k v : Int) (A : Option Addr) (n c : Nat) : (#[Value.int .i64 k, .int .i64 v, .slice A n c]).all (·.oneCell') = true := by
  rw [Array.all_eq_true_iff_forall_mem]
  intro x hx
  simp at hx
  rcases hx with rfl | rfl | rfl <;> rfl
theorem below_setRow {B : Nat} {a w : World} (hb : Below B a w) {g : Nat} (hg : B ≤ g) (ds : Array Value) : Below B a (w.setRow g ds) :=
  ⟨hb.os, hb.tape, hb.output, by rw [size_setRow]; exact hb.size, fun q hq => (setRow_other w g q ds (by omega)).trans (hb.block q hq)⟩
theorem own_setRow {w : World} {base : Nat} {e : TypeId} {size n c : Nat} {A : Option Addr} {xs : List Value} (h : w.ownsRow base e size (.slice A n c) n xs) {g : Nat} (hg : g < base) (ds : Array Value) : (w.setRow g ds).ownsRow base e size (.slice A n c) n xs :=
  own_keep h fun q hA hq => setRow_other w g q ds (by have := own_rng h q hA; omega)
set_option maxRecDepth 100000 in
set_option maxHeartbeats 4000000 in
theorem ask_impl (t : Tr) (A1 : Option Addr) (c1 : Nat) (A2 : Option Addr) (c2 : Nat) (A3 : Option Addr) (c3 : Nat) (n key : Int) (w : World) (h : TrR w t A1 A2 A3) (hb1 : t.base.length ≤ 1099511627776) (hb2 : t.blocks.length ≤ 1099511627776) (hbs : ∀ x ∈ t.blocks, x.list.length ≤ 1099511627776) (hb3 : t.before.length ≤ 1099511627776) :
    Calls Tryz.prog 15 #[.agg (trA t A1 c1 A2 c2 A3 c3), .int .i64 n, .int .i64 key] w fun e w' => ∃ A' c', e = .returned (.tuple #[.agg #[.int .i64 (askA t n key).key, .int .i64 (askA t n key).value, .slice A' (askA t n key).proof.length c'], .bool (askOk t n key)]) ∧ w'.ownsRow w.heap.size 3 1 (.slice A' (askA t n key).proof.length c') (askA t n key).proof.length ((askA t n key).proof.map (.int .i64)) ∧ Below w.heap.size w w' := by
  have HBS := hide hbs
  clear hbs
  obtain ⟨W, hW⟩ : ∃ W : World, W = (w.alloc (.cells (trA t A1 c1 A2 c2 A3 c3) 31)).alloc (.cells #[.int .i64 0, .int .i64 0, .slice none 0 0] 39) := ⟨_, rfl⟩
  have hb0 : Below w.heap.size w W := by rw [hW]; exact ((Below.refl _ _).alloc (Nat.le_refl _) _).alloc (by simp) _
  have K0 : Blk W w.heap.size 31 (trA t A1 c1 A2 c2 A3 c3) := by rw [hW]; exact (Blk.new _ _ _).alloc _
  have K1 : Blk W (w.heap.size + 1) 39 #[.int .i64 0, .int .i64 0, .slice none 0 0] := by
    rw [hW]
    have := Blk.new (w.alloc (.cells (trA t A1 c1 A2 c2 A3 c3) 31)) 39 #[.int .i64 0, .int .i64 0, .slice none 0 0]
    simpa using this
  have HR := hide (fun w' (hb : Below W.heap.size W w') => h.new (bthen hb0 hb))
  have hWs : w.heap.size + 1 < W.heap.size := K1.lt
  have HK := hide (fun w' (hb : Below W.heap.size W w') => K1.new_ hb)
  have BX := hide (fun w' (hb : Below W.heap.size W w') => show w'.cell? ⟨w.heap.size, 0, none⟩ = some (.slice A1 t.base.length c1) ∧ w'.cell? ⟨w.heap.size, 1, none⟩ = some (.slice A2 t.blocks.length c2) ∧ w'.cell? ⟨w.heap.size, 2, none⟩ = some (.slice A3 t.before.length c3) from ⟨(K0.new_ hb).cell 0, (K0.new_ hb).cell 1, (K0.new_ hb).cell 2⟩)
  have KV := treeValid_impl t A1 c1 A2 c2 A3 c3 W (unhide HR _ (Below.refl _ _)) hb1 hb2 (unhide HBS) hb3
  have KS := hide (fun w' (hb : Below W.heap.size W w') => storeOf_impl t A1 c1 A2 c2 A3 c3 n w' (unhide HR w' hb) hb1 hb2 (unhide HBS) hb3)
  have KH := hide (fun w' => has_impl t A1 c1 A2 c2 A3 c3 n w' hb2)
  obtain ⟨x0, x1, x2⟩ := unhide BX W (Below.refl _ _)
  simp only [trA] at K0 hW KV KS KH ⊢
  clear h K0 K1
  subst hW
  go_enter Tryz.func15, Tryz.ntmps15
  go_wp2_with fail
  refine KV.mono ?_
  rintro e w3 ⟨rfl, b3⟩
  clear KV x0 x1 x2
  obtain ⟨z0, z1, z2⟩ := unhide BX w3 b3
  cases hv : treeB t
  · have HF := hide (show askOk t n key = false by simp [askOk, hv])
    have HA := hide (askA_no (unhide HF))
    have K5 := hide (unhide HK w3 b3)
    go_wp2_with (refine wpList_store_row rfl 39 (.tmp 6) (.tmp 23) rfl (w.heap.size + 1) #[.int .i64 0, .int .i64 0, .slice none 0 0] rfl rfl 39 #[.int .i64 0, .int .i64 0, .slice none 0 0] (unhide K5) info_ans3 rfl (ans_one _ _ _ _ _) ?_)
    refine bodyPost_ret (v := .tuple #[.agg #[.int .i64 0, .int .i64 0, .slice none 0 0], .bool false]) (results_cell_tmp (p := 6) (q := 7) (ty := 39) rfl _ _ (w.heap.size + 1) 39 #[.int .i64 0, .int .i64 0, .slice none 0 0] (0, 0) _ rfl (blk_setRow (unhide K5)) Tryz.underlying39 rfl info_ans3) rfl ?_
    rw [unhide HA, unhide HF]
    exact ⟨none, 0, rfl, own_nil _ _ _ _, below_setRow (bthen hb0 b3) (by omega) _⟩
  have HV := hide hv
  clear hv
  cases hin : inB n 0 ((t.blocks.length : Int) - 1)
  · have HF := hide (show askOk t n key = false by simp [askOk, hin])
    have HA := hide (askA_no (unhide HF))
    go_wp2_with fail
    refine (unhide KH w3).mono ?_
    rintro e w4 ⟨rfl, b4⟩
    rw [hin]
    have b34 := bthen b3 b4
    obtain ⟨z0, z1, z2⟩ := unhide BX w4 b34
    have K5 := hide (unhide HK w4 b34)
    go_wp2_with (refine wpList_store_row rfl 39 (.tmp 6) (.tmp 23) rfl (w.heap.size + 1) #[.int .i64 0, .int .i64 0, .slice none 0 0] rfl rfl 39 #[.int .i64 0, .int .i64 0, .slice none 0 0] (unhide K5) info_ans3 rfl (ans_one _ _ _ _ _) ?_)
    refine bodyPost_ret (v := .tuple #[.agg #[.int .i64 0, .int .i64 0, .slice none 0 0], .bool false]) (results_cell_tmp (p := 6) (q := 7) (ty := 39) rfl _ _ (w.heap.size + 1) 39 #[.int .i64 0, .int .i64 0, .slice none 0 0] (0, 0) _ rfl (blk_setRow (unhide K5)) Tryz.underlying39 rfl info_ans3) rfl ?_
    rw [unhide HA, unhide HF]
    exact ⟨none, 0, rfl, own_nil _ _ _ _, below_setRow (bthen hb0 b34) (by omega) _⟩
  cases hkey : inB key 0 31
  · have HF := hide (show askOk t n key = false by simp [askOk, hkey])
    have HA := hide (askA_no (unhide HF))
    go_wp2_with fail
    refine (unhide KH w3).mono ?_
    rintro e w4 ⟨rfl, b4⟩
    rw [hin]
    have b34 := bthen b3 b4
    obtain ⟨z0, z1, z2⟩ := unhide BX w4 b34
    have K5 := hide (unhide HK w4 b34)
    go_wp2_with (first | (go_at_call 56; refine (isKey_any _ _).mono ?_; rintro e w' ⟨rfl, rfl⟩; rw [hkey]) | (refine wpList_store_row rfl 39 (.tmp 6) (.tmp 23) rfl (w.heap.size + 1) #[.int .i64 0, .int .i64 0, .slice none 0 0] rfl rfl 39 #[.int .i64 0, .int .i64 0, .slice none 0 0] (unhide K5) info_ans3 rfl (ans_one _ _ _ _ _) ?_))
    refine bodyPost_ret (v := .tuple #[.agg #[.int .i64 0, .int .i64 0, .slice none 0 0], .bool false]) (results_cell_tmp (p := 6) (q := 7) (ty := 39) rfl _ _ (w.heap.size + 1) 39 #[.int .i64 0, .int .i64 0, .slice none 0 0] (0, 0) _ rfl (blk_setRow (unhide K5)) Tryz.underlying39 rfl info_ans3) rfl ?_
    rw [unhide HA, unhide HF]
    exact ⟨none, 0, rfl, own_nil _ _ _ _, below_setRow (bthen hb0 b34) (by omega) _⟩
  have HF := hide (show askOk t n key = true by rw [askOk, unhide HV, hin, hkey]; rfl)
  have HA := hide (askA_yes (unhide HF))
  have HSB := hide (storeT_ok (unhide HF))
  have hsl := storeT_len t n
  have HVA := hide (show valAt (storeT t n) key = atL (storeT t n) key by rw [valAt, if_pos ⟨unhide HSB, hkey⟩])
  go_wp2_with fail
  refine (unhide KH w3).mono ?_
  rintro e w4 ⟨rfl, b4⟩
  rw [hin]
  have b34 := bthen b3 b4
  obtain ⟨z0, z1, z2⟩ := unhide BX w4 b34
  go_wp2_with (go_at_call 56; refine (isKey_any _ _).mono ?_; rintro e w' ⟨rfl, rfl⟩; rw [hkey])
  refine (unhide KS w4 b34).mono ?_
  rintro e w5 ⟨A5, c5, rfl, o5, b5⟩
  have b35 := bthen b34 b5
  have r5 := own_rd o5
  go_wp2_with fail
  refine (valueAt_impl A5 c5 (storeT t n) key w5 r5 (by omega)).mono ?_
  rintro e w6 ⟨rfl, b6⟩
  have b36 := bthen b35 b6
  have r6 := r5.new b6
  rw [unhide HVA]
  go_wp2_with fail
  refine (proofOf_impl A5 c5 (storeT t n) key w6 r6 (by omega)).mono ?_
  rintro e w7 ⟨A7, c7, rfl, o7, b7⟩
  have b37 := bthen b36 b7
  have hs6 := (b36).size
  have K5 := hide (unhide HK w7 b37)
  go_wp2_with (refine wpList_store_row rfl 39 (.tmp 6) (.tmp 34) rfl (w.heap.size + 1) #[.int .i64 key, .int .i64 (atL (storeT t n) key), .slice A7 (proofL (storeT t n) key).length c7] rfl rfl 39 #[.int .i64 0, .int .i64 0, .slice none 0 0] (unhide K5) info_ans3 rfl (ans_one _ _ _ _ _) ?_)
  refine bodyPost_ret (v := .tuple #[.agg #[.int .i64 key, .int .i64 (atL (storeT t n) key), .slice A7 (proofL (storeT t n) key).length c7], .bool true]) (results_cell_tmp (p := 6) (q := 7) (ty := 39) rfl _ _ (w.heap.size + 1) 39 #[.int .i64 key, .int .i64 (atL (storeT t n) key), .slice A7 (proofL (storeT t n) key).length c7] (0, 0) _ rfl (blk_setRow (unhide K5)) Tryz.underlying39 rfl info_ans3) rfl ?_
  rw [unhide HA, unhide HF]
  exact ⟨A7, c7, rfl, own_base (own_setRow o7 (by omega) _) (by omega), below_setRow (bthen hb0 b37) (by omega) _⟩
set_option maxRecDepth 100000 in
set_option maxHeartbeats 4000000 in
theorem ask_spec (t : Tr) (A1 : Option Addr) (c1 : Nat) (A2 : Option Addr) (c2 : Nat) (A3 : Option Addr) (c3 : Nat) (n key : Int) (w : World) (h : TrR w t A1 A2 A3) (hb1 : t.base.length ≤ 1099511627776) (hb2 : t.blocks.length ≤ 1099511627776) (hbs : ∀ x ∈ t.blocks, x.list.length ≤ 1099511627776) (hb3 : t.before.length ≤ 1099511627776) :
    Calls Tryz.prog 14 #[.agg (trA t A1 c1 A2 c2 A3 c3), .int .i64 n, .int .i64 key] w fun e w' => ∃ A' c', e = .returned (.tuple #[.agg #[.int .i64 (askA t n key).key, .int .i64 (askA t n key).value, .slice A' (askA t n key).proof.length c'], .bool (askOk t n key)]) ∧ w'.ownsRow w.heap.size 3 1 (.slice A' (askA t n key).proof.length c') (askA t n key).proof.length ((askA t n key).proof.map (.int .i64)) ∧ Below w.heap.size w w' := by
  have HBS := hide hbs
  clear hbs
  obtain ⟨W, hW⟩ : ∃ W : World, W = (w.alloc (.cells (trA t A1 c1 A2 c2 A3 c3) 31)).alloc (.cells #[.int .i64 0, .int .i64 0, .slice none 0 0] 39) := ⟨_, rfl⟩
  have hb0 : Below w.heap.size w W := by rw [hW]; exact ((Below.refl _ _).alloc (Nat.le_refl _) _).alloc (by simp) _
  have K0 : Blk W w.heap.size 31 (trA t A1 c1 A2 c2 A3 c3) := by rw [hW]; exact (Blk.new _ _ _).alloc _
  have K1 : Blk W (w.heap.size + 1) 39 #[.int .i64 0, .int .i64 0, .slice none 0 0] := by
    rw [hW]
    have := Blk.new (w.alloc (.cells (trA t A1 c1 A2 c2 A3 c3) 31)) 39 #[.int .i64 0, .int .i64 0, .slice none 0 0]
    simpa using this
  have HR := hide (fun w' (hb : Below W.heap.size W w') => h.new (bthen hb0 hb))
  have hWs : w.heap.size + 1 < W.heap.size := K1.lt
  have HK := hide (fun w' (hb : Below W.heap.size W w') => K1.new_ hb)
  have BX := hide (fun w' (hb : Below W.heap.size W w') => show w'.cell? ⟨w.heap.size, 0, none⟩ = some (.slice A1 t.base.length c1) ∧ w'.cell? ⟨w.heap.size, 1, none⟩ = some (.slice A2 t.blocks.length c2) ∧ w'.cell? ⟨w.heap.size, 2, none⟩ = some (.slice A3 t.before.length c3) from ⟨(K0.new_ hb).cell 0, (K0.new_ hb).cell 1, (K0.new_ hb).cell 2⟩)
  have KV := treeValid_spec t A1 c1 A2 c2 A3 c3 W (unhide HR _ (Below.refl _ _)) hb1 hb2 (unhide HBS) hb3
  have KS := hide (fun w' (hb : Below W.heap.size W w') => storeOf_spec t A1 c1 A2 c2 A3 c3 n w' (unhide HR w' hb) hb1 hb2 (unhide HBS) hb3)
  have KH := True.intro
  obtain ⟨x0, x1, x2⟩ := unhide BX W (Below.refl _ _)
  simp only [trA] at K0 hW KV KS  ⊢
  clear h K0 K1
  subst hW
  go_enter Tryz.func14, Tryz.ntmps14
  go_wp2_with fail
  refine KV.mono ?_
  rintro e w3 ⟨rfl, b3⟩
  clear KV x0 x1 x2
  obtain ⟨z0, z1, z2⟩ := unhide BX w3 b3
  cases hv : treeB t
  · have HF := hide (show askOk t n key = false by simp [askOk, hv])
    have HA := hide (askA_no (unhide HF))
    have K5 := hide (unhide HK w3 b3)
    go_wp2_with (refine wpList_store_row rfl 39 (.tmp 6) (.tmp 26) rfl (w.heap.size + 1) #[.int .i64 0, .int .i64 0, .slice none 0 0] rfl rfl 39 #[.int .i64 0, .int .i64 0, .slice none 0 0] (unhide K5) info_ans3 rfl (ans_one _ _ _ _ _) ?_)
    refine bodyPost_ret (v := .tuple #[.agg #[.int .i64 0, .int .i64 0, .slice none 0 0], .bool false]) (results_cell_tmp (p := 6) (q := 7) (ty := 39) rfl _ _ (w.heap.size + 1) 39 #[.int .i64 0, .int .i64 0, .slice none 0 0] (0, 0) _ rfl (blk_setRow (unhide K5)) Tryz.underlying39 rfl info_ans3) rfl ?_
    rw [unhide HA, unhide HF]
    exact ⟨none, 0, rfl, own_nil _ _ _ _, below_setRow (bthen hb0 b3) (by omega) _⟩
  have HV := hide hv
  clear hv
  cases hin : inB n 0 ((t.blocks.length : Int) - 1)
  · have HF := hide (show askOk t n key = false by simp [askOk, hin])
    have HA := hide (askA_no (unhide HF))
    have K5 := hide (unhide HK w3 b3)
    go_wp2_with (first | (go_at_call 52; refine (l1In_any _ _ _ _).mono ?_; rintro e w' ⟨rfl, rfl⟩; rw [hin]) | (refine wpList_store_row rfl 39 (.tmp 6) (.tmp 26) rfl (w.heap.size + 1) #[.int .i64 0, .int .i64 0, .slice none 0 0] rfl rfl 39 #[.int .i64 0, .int .i64 0, .slice none 0 0] (unhide K5) info_ans3 rfl (ans_one _ _ _ _ _) ?_))
    refine bodyPost_ret (v := .tuple #[.agg #[.int .i64 0, .int .i64 0, .slice none 0 0], .bool false]) (results_cell_tmp (p := 6) (q := 7) (ty := 39) rfl _ _ (w.heap.size + 1) 39 #[.int .i64 0, .int .i64 0, .slice none 0 0] (0, 0) _ rfl (blk_setRow (unhide K5)) Tryz.underlying39 rfl info_ans3) rfl ?_
    rw [unhide HA, unhide HF]
    exact ⟨none, 0, rfl, own_nil _ _ _ _, below_setRow (bthen hb0 b3) (by omega) _⟩
  cases hkey : inB key 0 31
  · have HF := hide (show askOk t n key = false by simp [askOk, hkey])
    have HA := hide (askA_no (unhide HF))
    have K5 := hide (unhide HK w3 b3)
    go_wp2_with (first | (go_at_call_of 52 [.int .i64 n, .int .i64 0, .int .i64 ((t.blocks.length : Int) - 1)]; refine (l1In_any _ _ _ _).mono ?_; rintro e w' ⟨rfl, rfl⟩; rw [hin]) | (go_at_call 52; refine (l1In_any _ _ _ _).mono ?_; rintro e w' ⟨rfl, rfl⟩; first | rw [hin] | rw [hkey]) | (refine wpList_store_row rfl 39 (.tmp 6) (.tmp 26) rfl (w.heap.size + 1) #[.int .i64 0, .int .i64 0, .slice none 0 0] rfl rfl 39 #[.int .i64 0, .int .i64 0, .slice none 0 0] (unhide K5) info_ans3 rfl (ans_one _ _ _ _ _) ?_))
    refine bodyPost_ret (v := .tuple #[.agg #[.int .i64 0, .int .i64 0, .slice none 0 0], .bool false]) (results_cell_tmp (p := 6) (q := 7) (ty := 39) rfl _ _ (w.heap.size + 1) 39 #[.int .i64 0, .int .i64 0, .slice none 0 0] (0, 0) _ rfl (blk_setRow (unhide K5)) Tryz.underlying39 rfl info_ans3) rfl ?_
    rw [unhide HA, unhide HF]
    exact ⟨none, 0, rfl, own_nil _ _ _ _, below_setRow (bthen hb0 b3) (by omega) _⟩
  have HF := hide (show askOk t n key = true by rw [askOk, unhide HV, hin, hkey]; rfl)
  have HA := hide (askA_yes (unhide HF))
  have HSB := hide (storeT_ok (unhide HF))
  have hsl := storeT_len t n
  go_wp2_with (go_at_call 52; refine (l1In_any _ _ _ _).mono ?_; rintro e w' ⟨rfl, rfl⟩; first | rw [hin] | rw [hkey])
  refine (unhide KS w3 b3).mono ?_
  rintro e w5 ⟨A5, c5, rfl, o5, b5⟩
  have b35 := bthen b3 b5
  have r5 := own_rd o5
  go_wp2_with fail
  refine (l2At_any A5 c5 (storeT t n) key w5 r5 (by omega)).mono ?_
  rintro e w' ⟨rfl, rfl⟩
  go_wp2_with fail
  refine (proofOf_spec A5 c5 (storeT t n) key w5 r5 (by omega)).mono ?_
  rintro e w7 ⟨A7, c7, rfl, o7, b7⟩
  have b37 := bthen b35 b7
  have hs6 := (b35).size
  have K5 := hide (unhide HK w7 b37)
  go_wp2_with (refine wpList_store_row rfl 39 (.tmp 6) (.tmp 37) rfl (w.heap.size + 1) #[.int .i64 key, .int .i64 (atL (storeT t n) key), .slice A7 (proofL (storeT t n) key).length c7] rfl rfl 39 #[.int .i64 0, .int .i64 0, .slice none 0 0] (unhide K5) info_ans3 rfl (ans_one _ _ _ _ _) ?_)
  refine bodyPost_ret (v := .tuple #[.agg #[.int .i64 key, .int .i64 (atL (storeT t n) key), .slice A7 (proofL (storeT t n) key).length c7], .bool true]) (results_cell_tmp (p := 6) (q := 7) (ty := 39) rfl _ _ (w.heap.size + 1) 39 #[.int .i64 key, .int .i64 (atL (storeT t n) key), .slice A7 (proofL (storeT t n) key).length c7] (0, 0) _ rfl (blk_setRow (unhide K5)) Tryz.underlying39 rfl info_ans3) rfl ?_
  rw [unhide HA, unhide HF]
  exact ⟨A7, c7, rfl, own_base (own_setRow o7 (by omega) _) (by omega), below_setRow (bthen hb0 b37) (by omega) _⟩
end Go.Proofs.YtmpdopjailomlaaGreat
