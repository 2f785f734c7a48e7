/- A region that draws its order, lays a variable and stores into it: as in XLocW, with the variable's address told. No program is in sight here. Rows of things that hold memory of their own, grown one by one; changes that touch variables of one type alone. No program is in sight here. Slices of answers, and the answers for all keys, of both sides (printed by gen_in.py from xaskall.in). Slices of answers, in the laws: eq, mark, held. -/
import Derived.Test.YtmpdopjailomlaaGreatGtree
import Derived.Test.YtmpdopjailomlaaGreatEffS
import Derived.Test.YtmpdopjailomlaaGreatOwn
import Derived.Test.YtmpdopjailomlaaGreatEffM
import Derived.Test.YtmpdopjailomlaaGreatBkM
import Derived.Test.YtmpdopjailomlaaGreatIntS
namespace Go.Proofs.YtmpdopjailomlaaGreat
open Go.RowKit
set_option linter.unusedVariables false
set_option linter.unusedSimpArgs false

/-- the operations of the head have come up in part; then those of the tail, in order -/
def LInvX (P : Program) (l : List Oper) (nh : Nat) (a0 : Go.Act) (w0 : World) (F : Nat → Value → World → Prop) (E : World → World → Prop) (p : Nat) (R : Array Bool → Value → World → Prop)
    (Q : Exit → Go.Act → World → Prop) (listed : Array Bool) (a : Go.Act) (w : World) : Prop :=
  listed.size = l.length ∧ (∀ i j, listed.getD i false = true → has (clOf l) i j = true → listed.getD j false = true) ∧
  ((∃ i, i < nh ∧ listed.getD i false = false ∧ ∃ vs, Agree l nh a0 listed vs a ∧ (∀ j, j < nh → listed.getD j false = true → F j (vs j) w) ∧ E w0 w ∧ R listed (vs p) w) ∨
   (∃ k, nh + k ≤ l.length ∧ (∀ i, listed.getD i false = true ↔ i < nh + k) ∧ wpList P l.toArray Q (l.drop (nh + k)) a w))

theorem wp_region_setX {P : Program} {id : Nat} {l : List Oper} {Q : Exit → Go.Act → World → Prop} {a0 : Go.Act} {w : World} (hm : P.follows .mixedOrders = true)
    (head : List (Nat × Option Tmp)) (deps : List (List (Nat × Option Tmp))) (hok : okAll l head deps = true)
    (F : Nat → Value → World → Prop) (E : World → World → Prop) (p : Nat) (R : Array Bool → Value → World → Prop)
    (hEr : ∀ w, E w w) (hEt : ∀ a b c, E a b → E b c → E a c) (hFE : ∀ i v a b, i < head.length → F i v a → E a b → F i v b)
    (hR0 : R (Array.replicate l.toArray.size false) undef w.drew)
    (hstep : steps (fun i o => ∀ w' (L : Array Bool) (vp : Value), E w.drew w' → L.size = l.length → L.getD i false = false → (∀ i' j, L.getD i' false = true → has (clOf l) i' j = true → L.getD j false = true) → R L vp w' → tele (fun j v w => F j v w ∧ (j = p → v = vp)) w' (fun c => ∀ Q' : Exit → Go.Act → World → Prop, (∀ v a'' w'', a'' = c.put o.dst v → F i v w'' → E w' w'' → R (L.setIfInBounds i true) (if i = p then v else vp) w'' → Q' .normal a'' w'') → wpList P l.toArray Q' [o] c w') (deps.getD i []) a0) 0 (l.take head.length))
    (hdone : ∀ w' (L : Array Bool) (vp : Value), E w.drew w' → (∀ j, j < head.length → L.getD j false = true) → R L vp w' → tele (fun j v w => F j v w ∧ (j = p → v = vp)) w' (fun c => wpList P l.toArray Q (l.drop head.length) c w') head a0) :
    (Code.region id l.toArray true).wp P Q a0 w := by
  simp only [okAll, Bool.and_eq_true, decide_eq_true_eq] at hok
  obtain ⟨⟨⟨⟨⟨⟨⟨⟨hnh, hCl0⟩, hDeps⟩, hLook⟩, hDst⟩, hTail⟩, hSel⟩, hPairs⟩, hHead⟩ := hok
  simp only [okHead, Bool.and_eq_true, beq_iff_eq, List.all_eq_true] at hHead
  obtain ⟨hHead1, hHead2⟩ := hHead
  have pair1 : ∀ i, i < head.length → ∀ p ∈ deps.getD i [], dstOf l p.1 = p.2 := by
    intro i hi p hp
    simp only [okPairs, List.all_eq_true, List.mem_range] at hPairs
    simpa using hPairs i hi p hp
  have fst1 : ∀ i, (fsts deps).getD i [] = (deps.getD i []).map Prod.fst := by
    intro i
    unfold fsts
    rw [List.getD_eq_getElem?_getD, List.getD_eq_getElem?_getD, List.getElem?_map]
    cases deps[i]? <;> rfl
  generalize hnhe : head.length = nh at *
  simp only [okCl, Bool.and_eq_true] at hCl0
  obtain ⟨hBack, hCl⟩ := hCl0
  -- the checks, as facts
  have cl1 : ∀ i j, i < l.length → has (clOf l) i j = true → ∃ o, l[i]? = some o ∧ ∃ e ∈ o.after, Region.binds .any e = true ∧ (e.on = j ∨ has (clOf l) e.on j = true) := by
    intro i j hi hj
    simp only [List.all_eq_true, List.mem_range] at hCl
    have h1 := hCl i hi
    rw [List.getElem?_eq_getElem hi] at h1
    simp only [Option.map_some, Option.getD_some, beq_iff_eq] at h1
    unfold has at hj
    rw [h1] at hj
    rcases clRow_from _ _ hj with h | ⟨e, he, hb, h⟩
    · simp at h
    · exact ⟨l[i], List.getElem?_eq_getElem hi, e, by simpa using he, hb, h⟩
  have back1 : ∀ i (hi : i < l.length), ∀ e ∈ (l[i]).after, Region.binds .any e = true → e.on < i := by
    intro i hi e he hb
    simp only [List.all_eq_true, List.mem_range] at hBack
    have h1 := hBack i hi
    rw [List.getElem?_eq_getElem hi] at h1
    simp only [Option.map_some, Option.getD_some] at h1
    have h2 := Array.all_eq_true_iff_forall_mem.1 h1 e he
    simpa [hb] using h2
  have gd : ∀ (L : Array Bool) j, j < L.size → L.getD j true = L.getD j false := by
    intro L j hj
    rw [Array.getD_eq_getD_getElem?, Array.getD_eq_getD_getElem?]
    simp [hj]
  have dep1 : ∀ i j, i < nh → j ∈ (fsts deps).getD i [] → j < nh ∧ has (clOf l) i j = true := by
    intro i j hi hj
    simp only [okDeps, List.all_eq_true, List.mem_range] at hDeps
    have h1 := hDeps i hi j hj
    simpa using h1
  have look1 : ∀ i o t j, i < nh → l[i]? = some o → t ∈ o.looksAt l.toArray → j < nh → dstOf l j = some t → j ∈ (fsts deps).getD i [] ∨ has (clOf l) j i = true ∨ j = i := by
    intro i o t j hi ho ht hj hd
    simp only [okLook, List.all_eq_true, List.mem_range] at hLook
    have h1 := hLook i hi
    rw [ho] at h1
    simp only [Option.map_some, Option.getD_some, List.all_eq_true, List.mem_range] at h1
    have h2 := h1 t ht j hj
    rw [hd] at h2
    simp at h2
    rcases h2 with (h2 | h2) | h2
    · exact .inl (by simpa using h2)
    · exact .inr (.inl (by simpa using h2))
    · exact .inr (.inr h2)
  have dst1 : ∀ i j t, i < nh → j < nh → dstOf l i = some t → dstOf l j = some t → i = j := by
    intro i j t hi hj h1 h2
    simp only [okDst, List.all_eq_true, List.mem_range] at hDst
    have h3 := hDst i hi j hj
    rw [h1, h2] at h3
    simpa using h3
  have tail1 : ∀ i j, i < l.length → nh ≤ i → j < i → has (clOf l) i j = true := by
    intro i j hi hn hj
    simp only [okTail, List.all_eq_true, List.mem_range] at hTail
    have h1 := hTail i hi
    simp only [Bool.or_eq_true, decide_eq_true_eq, List.all_eq_true, List.mem_range] at h1
    exact (h1.resolve_left (by omega)) j hj
  refine wp_region_any hm (wpAny_inv (I := LInvX P l nh a0 w.drew F E p R Q) ?_ ?_ _ _ _ _ ?_ ?_)
  · -- a step
    rintro listed a w' i ⟨hsz, hcl, hI⟩ hr
    obtain ⟨hun, hil⟩ := ready_get hr
    have hil : i < l.length := by simpa using hil
    have ho : l.toArray[i]? = some l[i] := by simp [hil]
    have hol : l[i]? = some l[i] := List.getElem?_eq_getElem hil
    have hall : ∀ j, has (clOf l) i j = true → listed.getD j false = true := by
      intro j hj
      obtain ⟨o, ho', e, he, hb, h2⟩ := cl1 i j hil hj
      rw [hol] at ho'
      injection ho' with ho'
      subst ho'
      have h3 := ready_after hr ho e he hb
      rcases h2 with h2 | h2
      · rwa [h2] at h3
      · exact hcl _ _ h3 h2
    have hcl' : ∀ i' j, (listed.setIfInBounds i true).getD i' false = true → has (clOf l) i' j = true → (listed.setIfInBounds i true).getD j false = true := by
      intro i' j h1 h2
      rw [set_get hun] at h1 ⊢
      rcases h1 with h1 | h1
      · subst h1; exact .inr (hall j h2)
      · exact .inr (hcl _ _ h1 h2)
    have hunl : listed.getD i false = false := by rw [Array.getD_eq_getD_getElem?, hun]; rfl
    rcases hI with ⟨i0, hi0, hi0u, vs, hag, hF, hE, hR⟩ | ⟨k, hk, hlk, hwp⟩
    · have hinh : i < nh := by
        rcases Nat.lt_or_ge i nh with h | h
        · exact h
        · have := hall i0 (tail1 i i0 hil h (by omega))
          rw [hi0u] at this
          cases this
      have hst := steps_get hstep (show (l.take nh)[i]? = some l[i] by rw [List.getElem?_take]; simp [hinh, hil])
      rw [Nat.zero_add] at hst
      have hgo := tele_fill vs _ (pair1 i hinh) _ (hst w' listed (vs p) hE hsz hunl hcl hR) (fun j hj => by rw [← fst1] at hj; exact ⟨hF j (dep1 i j hinh hj).1 (hall j (dep1 i j hinh hj).2), fun h => by rw [h]⟩)
      replace hgo := hgo (LPost fun a'' w'' => ∃ v, a'' = (fillA l vs a0 ((deps.getD i []).map Prod.fst)).put (l[i]).dst v ∧ F i v w'' ∧ E w' w'' ∧ R (listed.setIfInBounds i true) (if i = p then v else vs p) w'') (fun v a'' w'' h1 h2 h3 h4 => ⟨v, h1, h2, h3, h4⟩)
      rw [← fst1] at hgo
      -- the frames agree on what is looked at
      have hlook : ∀ t ∈ (l[i]).looksAt l.toArray, a.tmps[t]? = (fillA l vs a0 ((fsts deps).getD i [])).tmps[t]? := by
        intro t ht
        by_cases hex : ∃ j ∈ (fsts deps).getD i [], dstOf l j = some t
        · obtain ⟨j, hj, hd⟩ := hex
          obtain ⟨hjn, hjc⟩ := dep1 i j hinh hj
          rw [hag.new t j hjn (by rw [gd _ _ (by omega)]; exact hall j hjc) hd]
          exact (fill_get vs _ _ hj hd (fun j' hj' hd' => dst1 _ _ t (dep1 i j' hinh hj').1 hjn hd' hd)).symm
        · rw [fill_other vs _ _ (fun j hj hd => hex ⟨j, hj, hd⟩)]
          refine hag.old t fun j hj hlj hd => ?_
          rcases look1 i _ t j hinh hol ht hj hd with h | h | h
          · exact hex ⟨j, h, hd⟩
          · have hlj' : listed.getD j false = true := by rw [← gd _ _ (by omega)]; exact hlj
            have := hcl _ _ hlj' h
            rw [hunl] at this
            cases this
          · subst h
            rw [gd _ _ (by omega), hunl] at hlj
            cases hlj
      have hop : ∀ x ∈ (l[i]).op.operands, a.eval x = (fillA l vs a0 ((fsts deps).getD i [])).eval x := fun x hx => eval_of_get fun t e => hlook t (by
        subst e
        exact List.mem_append_left _ (List.mem_filterMap.2 ⟨.tmp t, by simpa using hx, rfl⟩))
      have hwant : Region.wanted l[i] (yielded l.toArray a.tmps) = Region.wanted l[i] (yielded l.toArray (fillA l vs a0 ((fsts deps).getD i [])).tmps) := by
        unfold Region.wanted
        cases hg : (l[i]).guard with
        | none => rfl
        | some gw =>
          obtain ⟨g, want⟩ := gw
          have hy : yielded l.toArray a.tmps g = yielded l.toArray (fillA l vs a0 ((fsts deps).getD i [])).tmps g := by
            unfold yielded
            cases ht : (l.toArray[g]?).bind (·.dst) with
            | none => rfl
            | some t =>
              have := hlook t (by simp only [Oper.looksAt, hg]; exact List.mem_append_right _ (by rw [ht]; simp))
              simp only [Option.bind_some, this]
          simp only [hy]
      -- the new state
      have hnew : ∀ v w'', F i v w'' → E w' w'' → R (listed.setIfInBounds i true) (if i = p then v else vs p) w'' → LInvX P l nh a0 w.drew F E p R Q (listed.setIfInBounds i true) (a.put (l[i]).dst v) w'' := by
        intro v w'' hFv hEv hRv
        have hdi : dstOf l i = (l[i]).dst := by simp [dstOf, hol]
        have hag' : Agree l nh a0 (listed.setIfInBounds i true) (fun j => if j = i then v else vs j) (a.put (l[i]).dst v) := by
          refine ⟨(put_size _ _ _).trans hag.size, (put_defers _ _ _).trans hag.defers, fun t ht => ?_, fun t j hj hlj hd => ?_⟩
          · have h1 : (l[i]).dst ≠ some t := by
              rw [← hdi]
              exact ht i hinh (by rw [Array.getD_eq_getD_getElem?]; simp [show i < listed.size by omega])
            have h2 : (a.put (l[i]).dst v).tmps[t]? = a.tmps[t]? := by
              cases hx : (l[i]).dst with
              | none => rfl
              | some d => rw [hx] at h1; simp only [Go.Act.put]; rw [Array.getElem?_setIfInBounds_ne (fun e => h1 (by rw [e]))]
            rw [h2]
            refine hag.old t fun j hj hlj => ht j hj ?_
            rw [Array.getD_eq_getD_getElem?] at hlj ⊢
            by_cases hji : i = j
            · subst hji; simp [show i < listed.size by omega]
            · rw [Array.getElem?_setIfInBounds_ne hji]; exact hlj
          · by_cases hji : j = i
            · subst hji
              rw [hdi] at hd
              rw [hd, put_get, if_pos rfl]
              by_cases hts : t < a.tmps.size
              · have : t < a0.tmps.size := by rw [← hag.size]; exact hts
                simp [hts, this]
              · have h1 : a.tmps.size ≤ t := Nat.not_lt.1 hts
                have h2 : a0.tmps.size ≤ t := by rw [← hag.size]; exact h1
                rw [Array.getElem?_eq_none h1, Array.getElem?_eq_none h2]
            · have h2 : (a.put (l[i]).dst v).tmps[t]? = a.tmps[t]? := by
                cases hx : (l[i]).dst with
                | none => rfl
                | some d =>
                  simp only [Go.Act.put]
                  rw [Array.getElem?_setIfInBounds_ne]
                  intro e
                  subst e
                  exact hji (dst1 j i d hj hinh hd (hdi.trans hx))
              rw [h2, if_neg hji]
              refine hag.new t j hj ?_ hd
              rw [Array.getD_eq_getD_getElem?] at hlj ⊢
              rwa [Array.getElem?_setIfInBounds_ne (fun e => hji e.symm)] at hlj
        have hF' : ∀ j, j < nh → (listed.setIfInBounds i true).getD j false = true → F j (if j = i then v else vs j) w'' := by
          intro j hj hlj
          by_cases hji : j = i
          · subst hji; rw [if_pos rfl]; exact hFv
          · rw [if_neg hji]
            rw [set_get hun] at hlj
            exact hFE j _ _ _ hj (hF j hj (hlj.resolve_left hji)) hEv
        refine ⟨by simpa using hsz, hcl', ?_⟩
        by_cases hex : ∃ j, j < nh ∧ (listed.setIfInBounds i true).getD j false = false
        · obtain ⟨j, hj, hju⟩ := hex
          exact .inl ⟨j, hj, hju, _, hag', hF', hEt _ _ _ hE hEv, by show R _ (if p = i then v else vs p) w''; simpa only [eq_comm] using hRv⟩
        · have hfull : ∀ j, j < nh → (listed.setIfInBounds i true).getD j false = true := by
            intro j hj
            cases hq : (listed.setIfInBounds i true).getD j false with
            | false => exact absurd ⟨j, hj, hq⟩ hex
            | true => rfl
          refine .inr ⟨0, by omega, fun j => ⟨fun hlj => ?_, fun hj => hfull j (by omega)⟩, ?_⟩
          · rcases Nat.lt_or_ge j nh with h | h
            · omega
            · rw [set_get hun] at hlj
              rcases hlj with hlj | hlj
              · omega
              · have hjl : j < l.length := by
                  rw [Array.getD_eq_getD_getElem?] at hlj
                  cases hq : listed[j]? with
                  | none => rw [hq] at hlj; cases hlj
                  | some b => have := (Array.getElem?_eq_some_iff.1 hq).1; omega
                have := hcl j i0 hlj (tail1 j i0 hjl h (by omega))
                rw [hi0u] at this
                cases this
          · have hfin := tele_fill (fun j => if j = i then v else vs j) _ (by simpa using hHead2) _ (hdone w'' _ (if p = i then v else vs p) (hEt _ _ _ hE hEv) hfull (by simpa only [eq_comm] using hRv)) (fun j hj => by rw [hHead1] at hj; exact ⟨hF' j (List.mem_range.1 hj) (hfull j (List.mem_range.1 hj)), fun h => by rw [h]⟩)
            rw [hHead1] at hfin
            have hact : a.put (l[i]).dst v = fillA l (fun j => if j = i then v else vs j) a0 (List.range nh) := by
              have h1 : (a.put (l[i]).dst v).defers = (fillA l (fun j => if j = i then v else vs j) a0 (List.range nh)).defers := hag'.defers.trans (fill_defers _ _ _).symm
              have h2 : (a.put (l[i]).dst v).tmps = (fillA l (fun j => if j = i then v else vs j) a0 (List.range nh)).tmps := by
                refine Array.ext_getElem? fun t => ?_
                by_cases hex : ∃ j, j < nh ∧ dstOf l j = some t
                · obtain ⟨j, hj, hd⟩ := hex
                  rw [hag'.new t j hj (by rw [gd _ _ (by simp; omega)]; exact hfull j hj) hd]
                  exact (fill_get (fun j => if j = i then v else vs j) _ _ (List.mem_range.2 hj) hd (fun j' hj' hd' => dst1 _ _ t (List.mem_range.1 hj') hj hd' hd)).symm
                · rw [fill_other _ _ _ (fun j hj hd => hex ⟨j, List.mem_range.1 hj, hd⟩)]
                  exact hag'.old t fun j hj _ hd => hex ⟨j, hj, hd⟩
              cases hA : a.put (l[i]).dst v
              cases hB : fillA l (fun j => if j = i then v else vs j) a0 (List.range nh)
              rw [hA, hB] at h1 h2
              simp only [] at h1 h2
              rw [h1, h2]
            rw [hact]
            exact hfin
      -- the operation itself
      unfold wpOp
      rw [ho]
      simp only []
      unfold wpList at hgo
      rw [← hwant] at hgo
      split
      · rename_i hw
        rw [if_pos hw] at hgo
        rcases hgo with hgo | ⟨_, x, y, hgo⟩
        · refine .inl (Oper.wp_mono ?_ (wp_move (G := fun v w'' => F i v w'' ∧ E w' w'' ∧ R (listed.setIfInBounds i true) (if i = p then v else vs p) w'') (Region.noSelect_spec hSel i l[i] · · ho) ?_ hop ?_))
          · rintro a'' w'' ⟨v, rfl, h1, h2, h3⟩
            exact hnew v w'' h1 h2 h3
          · rw [fill_size, hag.size]
          · exact hgo
        · exact absurd hgo (by simp [LPost])
      · rename_i hw
        rw [if_neg hw] at hgo
        obtain ⟨v, h0, h1, h2, h3⟩ : ∃ v, _ = (fillA l vs a0 ((fsts deps).getD i [])).put (l[i]).dst v ∧ F i v w' ∧ E w' w' ∧ R _ _ w' := hgo
        have := put_same (a := a) (by rw [fill_size, hag.size]) h0
        rw [this]
        exact hnew v w' h1 h2 h3
    · have hin : i = nh + k := by
        have h1 : ¬ i < nh + k := fun h => by have := (hlk i).2 h; rw [hunl] at this; cases this
        rcases Nat.lt_or_ge (nh + k) i with h | h
        · have := (hlk (nh + k)).1 (hall (nh + k) (tail1 i (nh + k) hil (by omega) h))
          omega
        · omega
      subst hin
      have hdrop : l.drop (nh + k) = l[nh + k] :: l.drop (nh + k + 1) := List.drop_eq_getElem_cons hil
      rw [hdrop] at hwp
      unfold wpList at hwp
      have hgoal : ∀ a' w'', wpList P l.toArray Q (l.drop (nh + k + 1)) a' w'' → LInvX P l nh a0 w.drew F E p R Q (listed.setIfInBounds (nh + k) true) a' w'' := by
        intro a' w'' h
        refine ⟨by simpa using hsz, hcl', .inr ⟨k + 1, by omega, fun j => ?_, h⟩⟩
        rw [set_get hun, hlk]
        omega
      unfold wpOp
      rw [ho]
      simp only []
      split
      · rename_i hw
        rw [if_pos hw] at hwp
        exact hwp.imp (Oper.wp_mono hgoal) (fun h => h)
      · rename_i hw
        rw [if_neg hw] at hwp
        exact hgoal _ _ hwp
  · -- the end
    rintro listed a w' ⟨hsz, hcl, hI⟩ hr
    have hno : ∀ i, i < l.length → listed.getD i false = false → (∀ j, j < i → listed.getD j false = true) → False := by
      intro i hi hu hj
      have : i ∈ Region.ready .any l.toArray listed := by
        rw [mem_ready]
        refine ⟨by rw [Array.getD_eq_getD_getElem?] at hu ⊢; simp [show i < listed.size by omega] at hu ⊢; exact hu, l[i], by simp [hi], fun e he hb => hj _ (back1 i hi e he hb)⟩
      rw [hr] at this
      cases this
    have hmin : ∀ n, n ≤ l.length → (∀ j, j < n → listed.getD j false = true) := by
      intro n
      induction n with
      | zero => intro _ j hj; omega
      | succ n ih =>
        intro hn j hj
        have h1 := ih (by omega)
        by_cases hjn : j = n
        · subst hjn
          cases hq : listed.getD j false with
          | true => rfl
          | false => exact (hno j (by omega) hq h1).elim
        · exact h1 j (by omega)
    rcases hI with ⟨i0, hi0, hi0u, _⟩ | ⟨k, hk, hlk, hwp⟩
    · have := hmin l.length (Nat.le_refl _) i0 (by omega)
      rw [hi0u] at this
      cases this
    · have : nh + k = l.length := by
        rcases Nat.lt_or_ge (nh + k) l.length with h | h
        · have := (hlk (nh + k)).1 (hmin l.length (Nat.le_refl _) _ h)
          omega
        · omega
      rw [this, List.drop_length] at hwp
      exact hwp
  · have : unl (Array.replicate l.toArray.size false) ≤ (Array.replicate l.toArray.size false).toList.length := List.length_filter_le _ _
    simpa using this
  · have hno : ∀ j, (Array.replicate l.toArray.size false).getD j false = false := by
      intro j
      rw [Array.getD_eq_getD_getElem?, Array.getElem?_replicate]
      split <;> rfl
    refine ⟨by simp, fun i j h _ => (by rw [hno] at h; cases h), ?_⟩
    rcases Nat.eq_zero_or_pos nh with h0 | h0
    · subst h0
      refine .inr ⟨0, by omega, fun i => ⟨fun h => (by rw [hno] at h; cases h), fun h => by omega⟩, ?_⟩
      have : head = [] := List.eq_nil_of_length_eq_zero hnhe
      subst this
      exact hdone _ _ undef (hEr _) (fun j hj => by simp at hj) hR0
    · refine .inl ⟨0, h0, hno 0, fun _ => undef, ⟨rfl, rfl, fun _ _ => rfl, fun t j hj h => ?_⟩, fun j hj h => (by rw [hno] at h; cases h), hEr _, ?_⟩
      · rw [gd _ _ (by simp; omega), hno] at h
        cases h
      · exact hR0
/-- one operation (s) writes into what another one (p) has laid: the operations of `bef` come up before it -/
theorem wp_region_box {P : Program} {id : Nat} {l : List Oper} {Q : Exit → Go.Act → World → Prop} {a0 : Go.Act} {w : World} (hm : P.follows .mixedOrders = true)
    (head : List (Nat × Option Tmp)) (deps : List (List (Nat × Option Tmp))) (hok : okAll l head deps = true) (s : Nat) (bef : List Nat) (hbef : (decide (s < head.length) && bef.all fun j => has (clOf l) s j) = true)
    (p : Nat) (F : Nat → Value → World → Prop) (E : World → World → Prop) (R : Bool → Value → World → Prop)
    (hEr : ∀ w, E w w) (hEt : ∀ a b c, E a b → E b c → E a c) (hFE : ∀ i v a b, i < head.length → F i v a → E a b → F i v b)
    (hR0 : R false undef w.drew)
    (hstep : steps (fun i o => ∀ w' b vp, E w.drew w' → (i = s ∨ i ∈ bef → b = false) → R b vp w' → tele (fun j v w => F j v w ∧ (j = p → v = vp)) w' (fun c => ∀ Q' : Exit → Go.Act → World → Prop, (∀ v a'' w'', a'' = c.put o.dst v → F i v w'' → E w' w'' → R (i == s || b) (if i = p then v else vp) w'' → Q' .normal a'' w'') → wpList P l.toArray Q' [o] c w') (deps.getD i []) a0) 0 (l.take head.length))
    (hdone : ∀ w' vp, E w.drew w' → R true vp w' → tele (fun j v w => F j v w ∧ (j = p → v = vp)) w' (fun c => wpList P l.toArray Q (l.drop head.length) c w') head a0) :
    (Code.region id l.toArray true).wp P Q a0 w := by
  simp only [Bool.and_eq_true, decide_eq_true_eq, List.all_eq_true] at hbef
  obtain ⟨hs, hbef⟩ := hbef
  have hnh : head.length ≤ l.length := by
    simp only [okAll, Bool.and_eq_true, decide_eq_true_eq] at hok
    exact hok.1.1.1.1.1.1.1.1
  refine wp_region_setX hm head deps hok F E p (fun L v w => R (L.getD s false) v w) hEr hEt hFE ?_ ?_ ?_
  · have : (Array.replicate l.toArray.size false).getD s false = false := by
      rw [Array.getD_eq_getD_getElem?, Array.getElem?_replicate]
      split <;> rfl
    rw [this]
    exact hR0
  · refine steps_imp hstep fun i o hi h w' L vp hE hsz hun hcl hR => ?_
    have hb : i = s ∨ i ∈ bef → L.getD s false = false := by
      rintro (h | h)
      · rw [← h]; exact hun
      · cases hq : L.getD s false with
        | false => rfl
        | true =>
          have := hcl s i hq (hbef i h)
          rw [hun] at this
          cases this
    have h2 := h w' (L.getD s false) vp hE hb hR
    have hset : (L.setIfInBounds i true).getD s false = (i == s || L.getD s false) := by
      by_cases his : i = s
      · subst his
        rw [Array.getD_eq_getD_getElem?]
        simp [show i < L.size by omega]
      · rw [getD_set_ne false his]
        simp [his]
    refine tele_imp (deps.getD i []) _ _ (fun c hc Q' hQ' => hc Q' fun v a'' w'' h1 h3 h4 h5 => hQ' v a'' w'' h1 h3 h4 ?_) _ h2
    show R ((L.setIfInBounds i true).getD s false) _ w''
    rw [hset]
    exact h5
  · intro w' L vp hE hall hR
    rw [hall s hs] at hR
    exact hdone w' vp hE hR
end Go.Proofs.YtmpdopjailomlaaGreat
namespace Go.Proofs.YtmpdopjailomlaaGreat
open Go.RowKit
set_option linter.unusedVariables false
set_option linter.unusedSimpArgs false

theorem grow_step {α : Type} {O : ORel α} {R : Rel α} {s : Nat} (G : OGood O R) (GR : Good R s) {wr w3 w7 : World} {base : Nat} {e : TypeId} {A' A7 : Option Addr} {c' c7 n m : Nat} {xs : List α} {vs : List (List Value)} {fs : List (List Nat)} {x : α} {cs : List Value} {f : List Nat} {o : Obj}
    (hall : AllO O wr xs vs fs) (hnd : fs.flatten.Nodup) (hF : ∀ q ∈ fs.flatten, base ≤ q ∧ A' ≠ some ⟨q, 0, none⟩) (hown : wr.ownsRow base e s (.slice A' n c') n vs.flatten) (hbase : base ≤ wr.heap.size)
    (b3 : Below wr.heap.size wr w3) (hx : O x w3 cs f) (hfn : f.Nodup) (hfb : ∀ q ∈ f, wr.heap.size ≤ q)
    (ch7 : Chg (fun g => A' = some ⟨g, 0, none⟩) (w3.alloc o) w7) (d7 : A7 = A' ∨ (A7 = some ⟨(w3.alloc o).heap.size, 0, none⟩ ∧ Below (w3.alloc o).heap.size (w3.alloc o) w7)) (o7 : w7.ownsRow base e s (.slice A7 m c7) m (vs.flatten ++ cs)) :
    AllO O w7 (xs ++ [x]) (vs ++ [cs]) (fs ++ [f]) ∧ (fs ++ [f]).flatten.Nodup ∧ (∀ q ∈ (fs ++ [f]).flatten, base ≤ q ∧ A7 ≠ some ⟨q, 0, none⟩) ∧ w7.ownsRow base e s (.slice A7 m c7) m (vs ++ [cs]).flatten := by
  have hl := hall.lt G
  have hl3 : ∀ q ∈ f, q < w3.heap.size := by
    have := (AllO.one hx).lt G
    intro q hq
    exact this q (by simpa using hq)
  have hs3 := b3.size
  have hrg := own_rng hown
  have hall3 := (hall.keep G (w' := w3) fun q _ hq => b3.block q hq).append (AllO.one hx)
  have key : ∀ q ∈ (fs ++ [f]).flatten, base ≤ q ∧ q < w3.heap.size ∧ A' ≠ some ⟨q, 0, none⟩ := fun q hq => by
    rw [List.flatten_append] at hq
    rcases List.mem_append.1 hq with hq | hq
    · have h1 := hF q hq
      have h2 := hl q hq
      exact ⟨h1.1, by omega, h1.2⟩
    · have hq : q ∈ f := by simpa using hq
      have h1 := hfb q hq
      exact ⟨by omega, hl3 q hq, fun e => by have := hrg q e; omega⟩
  refine ⟨hall3.keep G fun q hq hqw => ?_, ?_, fun q hq => ?_, by rw [List.flatten_append]; simpa using o7⟩
  · have h1 := key q hq
    rw [ch7.block q (by simp; omega) h1.2.2]
    exact Below.heap_alloc _ _ _ hqw
  · rw [List.flatten_append]
    exact fresh_nodup (m := wr.heap.size) hnd (by simpa using hfn) hl (fun q hq => hfb q (by simpa using hq))
  · have h1 := key q hq
    refine ⟨h1.1, fun e => ?_⟩
    rcases d7 with rfl | ⟨rfl, _⟩
    · exact h1.2.2 e
    · injection e with e; injection e with e; simp at e; omega
theorem grow_done {α : Type} {O : ORel α} {w : World} {base : Nat} {e : TypeId} {s : Nat} {A : Option Addr} {c : Nat} {xs : List α} {vs : List (List Value)} {fs : List (List Nat)}
    (hall : AllO O w xs vs fs) (hnd : fs.flatten.Nodup) (hF : ∀ q ∈ fs.flatten, base ≤ q ∧ A ≠ some ⟨q, 0, none⟩) (hown : w.ownsRow base e s (.slice A xs.length c) xs.length vs.flatten) :
    OwnD O e s w A c xs (blk A ++ fs.flatten) ∧ ∀ k ∈ blk A ++ fs.flatten, base ≤ k := by
  refine ⟨⟨vs, fs, hall, own_base0 hown, rfl, ?_⟩, fun q hq => ?_⟩
  · rw [List.nodup_append]
    exact ⟨blk_nodup _, hnd, fun x hx y hy e => (hF y hy).2 (e ▸ (blk_own hown hx).1)⟩
  · rcases List.mem_append.1 hq with hq | hq
    · exact (blk_own hown hq).2.1
    · exact (hF q hq).1
theorem ownD_nil {α : Type} (O : ORel α) (e : TypeId) (s : Nat) (w : World) : OwnD O e s w none 0 [] [] := ⟨[], [], trivial, own_nil _ _ _ _, rfl, List.nodup_nil⟩

/-- only variables of the type t that lie at or above m are changed -/
structure EB (m : Nat) (t : TypeId) (a b : World) : Prop where
  os : b.os = a.os
  tape : b.tape = a.tape
  output : b.output = a.output
  size : a.heap.size ≤ b.heap.size
  blk : ∀ k, k < a.heap.size → b.heap[k]? = a.heap[k]? ∨ (m ≤ k ∧ ∃ old, a.heap[k]? = some (.cells old t (0, 0)))
theorem EB.refl (m : Nat) (t : TypeId) (a : World) : EB m t a a := ⟨rfl, rfl, rfl, Nat.le_refl _, fun _ _ => .inl rfl⟩
theorem EB.trans {m : Nat} {t : TypeId} {a b c : World} (h1 : EB m t a b) (h2 : EB m t b c) : EB m t a c :=
  ⟨h2.os.trans h1.os, h2.tape.trans h1.tape, h2.output.trans h1.output, Nat.le_trans h1.size h2.size, fun k hk => by
    rcases h1.blk k hk with h | h
    · rcases h2.blk k (Nat.lt_of_lt_of_le hk h1.size) with g | g
      · exact .inl (g.trans h)
      · exact .inr ⟨g.1, by rw [← h]; exact g.2⟩
    · exact .inr h⟩
theorem EB.of_new {m : Nat} {t : TypeId} {a b : World} (h : Below a.heap.size a b) : EB m t a b := ⟨h.os, h.tape, h.output, h.size, fun k hk => .inl (h.block k hk)⟩
theorem EB.undrew {m : Nat} {t : TypeId} {a b : World} (h : EB m t a.drew b) : EB m t a b := ⟨h.os, h.tape, h.output, h.size, h.blk⟩
theorem EB.below {m : Nat} {t : TypeId} {a b : World} (h : EB m t a b) (hm : m ≤ a.heap.size) : Below m a b :=
  ⟨h.os, h.tape, h.output, h.size, fun k hk => by
    rcases h.blk k (by omega) with g | g
    · exact g
    · omega⟩
theorem own_EB {m : Nat} {t : TypeId} {a b : World} {base : Nat} {e : TypeId} {s n c : Nat} {A : Option Addr} {xs : List Value} (h : a.ownsRow base e s (.slice A n c) n xs) (hE : EB m t a b) (hne : e ≠ t) : b.ownsRow base e s (.slice A n c) n xs := by
  refine own_keep h fun g hA hg => ?_
  rcases hE.blk g hg with h1 | ⟨_, old, h1⟩
  · exact h1
  · rcases h.2 with ⟨hv, _⟩ | ⟨g', cap, cur, hv, _, hh, _⟩
    · injection hv with hv; rw [hA] at hv; cases hv
    · injection hv with hv
      rw [hA] at hv
      injection hv with hv
      injection hv with hv
      subst hv
      rw [hh] at h1
      injection h1 with h1
      injection h1 with h2 h3 h4
      exact absurd h3 hne
/-- a variable that is laid (its address is vp), and later stored into -/
def BoxR (m : Nat) (t : TypeId) (z : Array Value) (Q : Array Value → World → Prop) (b : Bool) (vp : Value) (w : World) : Prop :=
  (b = false ∧ (vp = undef ∨ ∃ g, vp = .pointer (some ⟨g, 0, none⟩) ∧ m ≤ g ∧ Blk w g t z)) ∨ (b = true ∧ ∃ g cs, vp = .pointer (some ⟨g, 0, none⟩) ∧ m ≤ g ∧ Blk w g t cs ∧ Q cs w)
theorem BoxR.new {m : Nat} {t : TypeId} {z : Array Value} {Q : Array Value → World → Prop} {b : Bool} {vp : Value} {w w' : World} (h : BoxR m t z Q b vp w) (hb : Below w.heap.size w w') (hQ : ∀ cs, Q cs w → Q cs w') : BoxR m t z Q b vp w' := by
  rcases h with ⟨h1, h | ⟨g, h2, h3, h4⟩⟩ | ⟨h1, g, cs, h2, h3, h4, h5⟩
  · exact .inl ⟨h1, .inl h⟩
  · exact .inl ⟨h1, .inr ⟨g, h2, h3, h4.new_ hb⟩⟩
  · exact .inr ⟨h1, g, cs, h2, h3, h4.new_ hb, hQ cs h5⟩
end Go.Proofs.YtmpdopjailomlaaGreat
namespace Go.Proofs.YtmpdopjailomlaaGreat
open Go.RowKit
set_option linter.unusedVariables false
set_option linter.unusedSimpArgs false

def ansV (x : Ans) (A : Option Addr) (c : Nat) : List Value := [.int .i64 x.key, .int .i64 x.value, .slice A x.proof.length c]
/-- an answer in three cells -/
def ansR : Rel Ans := fun P x w cs => ∃ A c, cs = ansV x A c ∧ (x.proof.length ≤ c ∧ c ≤ maxLen) ∧ RdP P w A (x.proof.map (.int .i64))
theorem ans_good : Good ansR 3 :=
  ⟨fun ⟨_, _, h, _⟩ => by rw [h]; rfl, fun ⟨A, c, h0, h1, h2⟩ hPQ => ⟨A, c, h0, h1, h2.mono hPQ⟩, fun ⟨A, c, h0, h1, h2⟩ hk => ⟨A, c, h0, h1, h2.keep hk⟩⟩
def ansO : ORel Ans := fun x w cs fp => ∃ A c, cs = ansV x A c ∧ w.ownsRow 0 3 1 (.slice A x.proof.length c) x.proof.length (x.proof.map (.int .i64)) ∧ fp = blk A
theorem ansO_good : OGood ansO ansR :=
  ⟨fun ⟨A, c, h0, h1, h3⟩ => ⟨A, c, h0, own_cap h1, (own_rdP h1).mono fun k hk _ => by rw [h3]; exact mem_blk hk.2⟩,
   fun ⟨A, c, h0, h1, h3⟩ hk => ⟨A, c, h0, own_keep h1 fun g hA hg => hk g (by rw [h3]; exact mem_blk hA) hg, h3⟩,
   fun ⟨A, c, h0, h1, h3⟩ k hk => by
    rw [h3] at hk
    exact (blk_own h1 hk).2.2⟩
theorem RdD.ans {P : Nat → Prop} {w : World} {A : Option Addr} {xs : List Ans} (h : RdD ansR P w A xs) {k : Nat} (hk : k < xs.length) :
    ∃ b off A1 c1, A = some ⟨b, off, none⟩ ∧ P b ∧ b < w.heap.size ∧ w.cell? ⟨b, off + k * 3, none⟩ = some (.int .i64 xs[k].key) ∧ w.cell? ⟨b, off + k * 3 + 1, none⟩ = some (.int .i64 xs[k].value) ∧ w.cell? ⟨b, off + k * 3 + 2, none⟩ = some (.slice A1 xs[k].proof.length c1) ∧
      (xs[k].proof.length ≤ c1 ∧ c1 ≤ maxLen) ∧ RdP P w A1 (xs[k].proof.map (.int .i64)) := by
  obtain ⟨b, off, cs, hA, hp, hb, ⟨A1, c1, rfl, h1, h3⟩, hc⟩ := h.get ans_good (by omega) hk
  exact ⟨b, off, A1, c1, hA, hp, hb, hc 0 _ rfl, hc 1 _ rfl, hc 2 _ rfl, h1, h3⟩
theorem info_ansz : (Tryz.prog.info? 39).map (fun i => (i.zero, i.size, i.bytes)) = some (some (.agg #[.int .i64 0, .int .i64 0, .slice none 0 0]), 3, 40) := by kernel_rfl
theorem el_ans : El Tryz.prog 45 39 3 40 := El.mk_ Tryz.underlying45 info_ansz rfl (by omega)
theorem one_ansV (x : Ans) (A : Option Addr) (c : Nat) : ∀ u ∈ ansV x A c, u.oneCell' = true := by
  intro u hu
  simp [ansV] at hu
  rcases hu with rfl | rfl | rfl <;> rfl
theorem box_new (w : World) (t : TypeId) (z cs : Array Value) : Blk (w.alloc (.cells z t)) w.heap.size t z ∧ Blk ((w.alloc (.cells z t)).setRow w.heap.size cs) w.heap.size t cs ∧ Below w.heap.size w ((w.alloc (.cells z t)).setRow w.heap.size cs) := by
  have h1 : Blk (w.alloc (.cells z t)) w.heap.size t z := Blk.new _ _ _
  exact ⟨h1, blk_setRow h1, below_setRow ((Below.refl _ _).alloc (Nat.le_refl _) _) (Nat.le_refl _) _⟩
/-- are there answers for all keys? -/
def allOk (t : Tr) (n : Int) (ks : List Int) : Bool := treeB t && (decide (ks.length ≤ 32) && ks.all (askOk t n))
def allA (t : Tr) (n : Int) (ks : List Int) : List Ans := if allOk t n ks = true then ks.map (askA t n) else []
theorem allA_no {t : Tr} {n : Int} {ks : List Int} (h : allOk t n ks = false) : allA t n ks = [] := by rw [allA, if_neg (by simp [h])]
theorem allA_yes {t : Tr} {n : Int} {ks : List Int} (h : allOk t n ks = true) : allA t n ks = ks.map (askA t n) := by rw [allA, if_pos h]
theorem allOk_at {t : Tr} {n : Int} {ks : List Int} {k : Nat} (hk : k < ks.length) (h : askOk t n ks[k] = false) : allOk t n ks = false := by
  cases ha : ks.all (askOk t n)
  · simp [allOk, ha]
  · rw [List.all_eq_true] at ha
    rw [ha _ (List.getElem_mem hk)] at h
    cases h
theorem allA_len (t : Tr) (n : Int) (ks : List Int) : (allA t n ks).length ≤ 32 := by
  unfold allA
  split
  · rename_i h
    simp only [allOk, Bool.and_eq_true, decide_eq_true_eq] at h
    simpa using h.2.1
  · simp
def StEL (E : World → World → Prop) : List (Value → World → Prop) → Prop
  | [] => True
  | f :: l => (∀ v a b, E a b → f v a → f v b) ∧ StEL E l
theorem stel_get {E : World → World → Prop} : ∀ {l : List (Value → World → Prop)}, StEL E l → ∀ i v a b, E a b → (l.getD i fun _ _ => True) v a → (l.getD i fun _ _ => True) v b
  | [], _, i => fun _ _ _ _ _ => trivial
  | f :: l, h, 0 => h.1
  | f :: l, h, i + 1 => by simpa using stel_get h.2 i
theorem locE_st {E : World → World → Prop} {fs : List (Value → World → Prop)} (h : StEL E fs) (n : Nat) (i : Nat) (v : Value) (a b : World) (_ : i < n) (hf : locB fs i v a) (hE : E a b) : locB fs i v b := stel_get h i v a b hE hf
theorem EB.setRow {m : Nat} {t : TypeId} {w : World} {g : Nat} {old : Array Value} (h : Blk w g t old) (hm : m ≤ g) (ds : Array Value) : EB m t w (w.setRow g ds) :=
  ⟨rfl, rfl, rfl, by rw [size_setRow]; exact Nat.le_refl _, fun k hk => by
    by_cases hkg : k = g
    · subst hkg; exact .inr ⟨hm, old, h⟩
    · exact .inl (setRow_other w g k ds hkg)⟩
def sAskT (B : Nat) (x : Ans) (ok : Bool) (v : Value) (w : World) : Prop := ∃ A c, v = .tuple #[.agg #[.int .i64 x.key, .int .i64 x.value, .slice A x.proof.length c], .bool ok] ∧ w.ownsRow B 3 1 (.slice A x.proof.length c) x.proof.length (x.proof.map (.int .i64))
def sAsk (B : Nat) (x : Ans) (v : Value) (w : World) : Prop := ∃ A c, v = .agg #[.int .i64 x.key, .int .i64 x.value, .slice A x.proof.length c] ∧ w.ownsRow B 3 1 (.slice A x.proof.length c) x.proof.length (x.proof.map (.int .i64))
def qAsk (B : Nat) (x : Ans) (cs : Array Value) (w : World) : Prop := ∃ A c, cs = #[.int .i64 x.key, .int .i64 x.value, .slice A x.proof.length c] ∧ w.ownsRow B 3 1 (.slice A x.proof.length c) x.proof.length (x.proof.map (.int .i64))
theorem ne_ia : (3 : TypeId) ≠ 39 := by decide
set_option maxRecDepth 100000 in
set_option maxHeartbeats 8000000 in
theorem askAll_impl (t : Tr) (A1 : Option Addr) (c1 : Nat) (A2 : Option Addr) (c2 : Nat) (A3 : Option Addr) (c3 : Nat) (n : Int) (B : Option Addr) (cb : Nat) (ks : List Int) (w : World) (h : TrR w t A1 A2 A3) (hk : Rd w B (ks.map (.int .i64))) (hb1 : t.base.length ≤ 1099511627776) (hb2 : t.blocks.length ≤ 1099511627776) (hbs : ∀ x ∈ t.blocks, x.list.length ≤ 1099511627776) (hb3 : t.before.length ≤ 1099511627776) (hbk : ks.length ≤ 1099511627776) :
    Calls Tryz.prog 21 #[.agg (trA t A1 c1 A2 c2 A3 c3), .int .i64 n, .slice B ks.length cb] w fun e w' => ∃ A' c' fp, e = .returned (.tuple #[.slice A' (allA t n ks).length c', .bool (allOk t n ks)]) ∧ OwnD ansO 39 3 w' A' c' (allA t n ks) fp ∧ (∀ k ∈ fp, w.heap.size ≤ k) ∧ Below w.heap.size w w' := by
  have HBS := hide hbs
  clear hbs
  have HR := hide (fun w' (hb : Below w.heap.size w w') => h.new hb)
  have HK := hide (fun w' (hb : Below w.heap.size w w') => (hk.new hb : Rd w' B (ks.map (.int .i64))))
  have KA := hide (fun key w' (hb : Below w.heap.size w w') => ask_impl t A1 c1 A2 c2 A3 c3 n key w' (unhide HR w' hb) hb1 hb2 (unhide HBS) hb3)
  simp only [trA] at KA ⊢
  have k0 : Blk (w.alloc (.cells #[.slice A1 t.base.length c1, .slice A2 t.blocks.length c2, .slice A3 t.before.length c3] 31)) w.heap.size 31 #[.slice A1 t.base.length c1, .slice A2 t.blocks.length c2, .slice A3 t.before.length c3] := Blk.new _ _ _
  have hb0 : Below w.heap.size w (w.alloc (.cells #[.slice A1 t.base.length c1, .slice A2 t.blocks.length c2, .slice A3 t.before.length c3] 31)) := (Below.refl _ _).alloc (Nat.le_refl _) _
  have hz0 : w.heap.size + 1 ≤ (w.alloc (.cells #[.slice A1 t.base.length c1, .slice A2 t.blocks.length c2, .slice A3 t.before.length c3] 31)).heap.size := by simp
  have KV := treeValid_impl t A1 c1 A2 c2 A3 c3 (w.alloc (.cells #[.slice A1 t.base.length c1, .slice A2 t.blocks.length c2, .slice A3 t.before.length c3] 31)) (unhide HR _ hb0) hb1 hb2 (unhide HBS) hb3
  simp only [trA] at KV
  have x0 : (w.alloc (.cells #[.slice A1 t.base.length c1, .slice A2 t.blocks.length c2, .slice A3 t.before.length c3] 31)).cell? ⟨w.heap.size, 0, none⟩ = some (.slice A1 t.base.length c1) := k0.cell 0
  have x1 : (w.alloc (.cells #[.slice A1 t.base.length c1, .slice A2 t.blocks.length c2, .slice A3 t.before.length c3] 31)).cell? ⟨w.heap.size, 1, none⟩ = some (.slice A2 t.blocks.length c2) := k0.cell 1
  have x2 : (w.alloc (.cells #[.slice A1 t.base.length c1, .slice A2 t.blocks.length c2, .slice A3 t.before.length c3] 31)).cell? ⟨w.heap.size, 2, none⟩ = some (.slice A3 t.before.length c3) := k0.cell 2
  clear h hk
  go_enter Tryz.func21, Tryz.ntmps21
  go_wp2_with fail
  refine KV.mono ?_
  rintro e w3 ⟨rfl, b3⟩
  replace k0 := k0.new_ b3
  have hw3 : w.heap.size + 1 ≤ w3.heap.size := Nat.le_trans hz0 b3.size
  replace hb0 := bthen hb0 b3
  clear KV x0 x1 x2 b3 hz0
  cases hv : treeB t
  · have HF := hide (show allOk t n ks = false by simp [allOk, hv])
    have HA := hide (allA_no (unhide HF))
    go_wp2
    go_ret2
    rw [unhide HA, unhide HF]
    exact ⟨none, 0, [], rfl, ownD_nil _ _ _ _, by simp, hb0⟩
  have HV := hide hv
  clear hv
  by_cases hkl : ks.length ≤ 32
  rotate_left
  · have HF := hide (show allOk t n ks = false by simp [allOk]; intro _ h; omega)
    have HA := hide (allA_no (unhide HF))
    have i1 : (32 : Int) < (ks.length : Int) := by omega
    clear hkl
    go_wp2
    go_ret2
    rw [unhide HA, unhide HF]
    exact ⟨none, 0, [], rfl, ownD_nil _ _ _ _, by simp, hb0⟩
  have i1 : ¬ (32 : Int) < (ks.length : Int) := by omega
  go_wp2
  go_loopw [8, 10, 11, 12, 23, 27] (fun s _ _ _ i _ wr => ∃ (k : Nat) (A' : Option Addr) (c' : Nat) (vs : List (List Value)) (fs : List (List Nat)), k ≤ ks.length ∧ i = .int .i64 k ∧ s = .slice A' k c' ∧ Hid (∀ x ∈ ks.take k, askOk t n x = true) ∧ AllO ansO wr ((ks.take k).map (askA t n)) vs fs ∧ fs.flatten.Nodup ∧ Hid (∀ q ∈ fs.flatten, w.heap.size + 1 ≤ q ∧ A' ≠ some ⟨q, 0, none⟩) ∧ wr.ownsRow (w.heap.size + 1) 39 3 (.slice A' k c') k vs.flatten ∧ Blk wr w.heap.size 31 #[.slice A1 t.base.length c1, .slice A2 t.blocks.length c2, .slice A3 t.before.length c3] ∧ w.heap.size + 1 ≤ wr.heap.size ∧ Below w.heap.size w wr) (fun _ _ _ _ i _ _ => ks.length - (intOf i).toNat)
  case atStart => exact ⟨0, none, 0, [], [], Nat.zero_le _, rfl, rfl, hide (by simp), trivial, by simp, hide (by simp), own_nil _ _ _ _, k0, hw3, hb0⟩
  case round =>
    clear k0 hw3 hb0
    obtain ⟨k, A', c', vs, fs, hk, rfl, rfl, HO, hall, hnd, HF, hown, kb, hwr, hB⟩ := hrel
    have z0 : wr.cell? ⟨w.heap.size, 0, none⟩ = some (.slice A1 t.base.length c1) := kb.cell 0
    have z1 : wr.cell? ⟨w.heap.size, 1, none⟩ = some (.slice A2 t.blocks.length c2) := kb.cell 1
    have z2 : wr.cell? ⟨w.heap.size, 2, none⟩ = some (.slice A3 t.before.length c3) := kb.cell 2
    by_cases hlt : k < ks.length
    · have i2 : (k : Int) < (ks.length : Int) := by omega
      obtain ⟨bp, offp, hBe, hpb, zp⟩ := (unhide HK wr hB).int hlt
      have HT := hide (show (ks.take (k + 1)) = ks.take k ++ [ks[k]] from List.take_succ_eq_append_getElem hlt)
      have HNO := hide (allOk_at (t := t) (n := n) hlt)
      generalize ks[k] = key at *
      have HBE := hide hBe
      clear hBe
      have hpl := askA_len t n key
      rw [unhide HBE]
      go_wp2_with fail
      refine (unhide KA key wr hB).mono ?_
      rintro e w4 ⟨A7, c7, rfl, o7, b7⟩
      cases hok : askOk t n key
      · have HF2 := hide (unhide HNO hok)
        have HA := hide (allA_no (unhide HF2))
        go_wp2_with (refine wpList_store_row rfl 39 (.tmp 11) (.tmp 32) rfl w4.heap.size #[.int .i64 (askA t n key).key, .int .i64 (askA t n key).value, .slice A7 (askA t n key).proof.length c7] rfl rfl 39 #[.int .i64 0, .int .i64 0, .slice none 0 0] (box_new w4 39 #[.int .i64 0, .int .i64 0, .slice none 0 0] #[.int .i64 (askA t n key).key, .int .i64 (askA t n key).value, .slice A7 (askA t n key).proof.length c7]).1 info_ans3 rfl (ans_one _ _ _ _ _) ?_; refine at_world (C := fun W => wpList _ _ _ _ _ W) (F := fun W => Blk W w4.heap.size 39 #[.int .i64 (askA t n key).key, .int .i64 (askA t n key).value, .slice A7 (askA t n key).proof.length c7] ∧ Below w4.heap.size w4 W) ⟨(box_new w4 39 #[.int .i64 0, .int .i64 0, .slice none 0 0] #[.int .i64 (askA t n key).key, .int .i64 (askA t n key).value, .slice A7 (askA t n key).proof.length c7]).2.1, (box_new w4 39 #[.int .i64 0, .int .i64 0, .slice none 0 0] #[.int .i64 (askA t n key).key, .int .i64 (askA t n key).value, .slice A7 (askA t n key).proof.length c7]).2.2⟩ ?_; rintro w5 ⟨k5, b5⟩; have y0 : w5.cell? ⟨w4.heap.size, 0, none⟩ = some (.int .i64 (askA t n key).key) := k5.cell 0; have y1 : w5.cell? ⟨w4.heap.size, 1, none⟩ = some (.int .i64 (askA t n key).value) := k5.cell 1; have y2 : w5.cell? ⟨w4.heap.size, 2, none⟩ = some (.slice A7 (askA t n key).proof.length c7) := k5.cell 2; have o5 := own_new o7 b5; have b35 := bthen b7 b5; have oq := own_new hown b35; have hs35 := b35.size)
        go_wp2
        go_ret2
        rw [unhide HA, unhide HF2]
        exact ⟨none, 0, [], rfl, ownD_nil _ _ _ _, by simp, bthen hB b35⟩
      have HOK := hide hok
      clear hok
      go_wp2_with (first | (refine wpList_store_row rfl 39 (.tmp 11) (.tmp 32) rfl w4.heap.size #[.int .i64 (askA t n key).key, .int .i64 (askA t n key).value, .slice A7 (askA t n key).proof.length c7] rfl rfl 39 #[.int .i64 0, .int .i64 0, .slice none 0 0] (box_new w4 39 #[.int .i64 0, .int .i64 0, .slice none 0 0] #[.int .i64 (askA t n key).key, .int .i64 (askA t n key).value, .slice A7 (askA t n key).proof.length c7]).1 info_ans3 rfl (ans_one _ _ _ _ _) ?_; refine at_world (C := fun W => wpList _ _ _ _ _ W) (F := fun W => Blk W w4.heap.size 39 #[.int .i64 (askA t n key).key, .int .i64 (askA t n key).value, .slice A7 (askA t n key).proof.length c7] ∧ Below w4.heap.size w4 W) ⟨(box_new w4 39 #[.int .i64 0, .int .i64 0, .slice none 0 0] #[.int .i64 (askA t n key).key, .int .i64 (askA t n key).value, .slice A7 (askA t n key).proof.length c7]).2.1, (box_new w4 39 #[.int .i64 0, .int .i64 0, .slice none 0 0] #[.int .i64 (askA t n key).key, .int .i64 (askA t n key).value, .slice A7 (askA t n key).proof.length c7]).2.2⟩ ?_; rintro w5 ⟨k5, b5⟩; have y0 : w5.cell? ⟨w4.heap.size, 0, none⟩ = some (.int .i64 (askA t n key).key) := k5.cell 0; have y1 : w5.cell? ⟨w4.heap.size, 1, none⟩ = some (.int .i64 (askA t n key).value) := k5.cell 1; have y2 : w5.cell? ⟨w4.heap.size, 2, none⟩ = some (.slice A7 (askA t n key).proof.length c7) := k5.cell 2; have o5 := own_new o7 b5; have b35 := bthen b7 b5; have oq := own_new hown b35; have hs35 := b35.size) | (at_builtin; refine wpList_app rfl (.tmp 36) (.tmp 38) 45 rfl el_ans rfl (own_alloc oq _) rfl (rd_lit w5 (ansV (askA t n key) A7 c7) _) rfl (one_ansV _ _ _) (by simp only [maxLen]; omega) (by omega) (by simp; omega) ?_; intro A8 c8 w8 o8 ch8 d8 _))
      have hx : ansO (askA t n key) w5 (ansV (askA t n key) A7 c7) (blk A7) := ⟨A7, c7, rfl, own_base0 o5, rfl⟩
      have hfb : ∀ q ∈ blk A7, wr.heap.size ≤ q := fun q hq => (blk_own o5 hq).2.1
      obtain ⟨hall8, hnd8, hF8, hown8⟩ := grow_step ansO_good ans_good hall hnd (unhide HF) hown hwr b35 hx (blk_nodup _) hfb ch8 d8 (by simpa [ansV] using o8)
      have hrg := own_rng hown
      have kb8 := ((kb.new_ b35).alloc (.cells (ansV (askA t n key) A7 c7).toArray 39)).chg ch8 (fun e => by have := hrg _ e; omega)
      have hB8 : Below w.heap.size w w8 := ((bthen hB b35).alloc (by omega) _).trans (ch8.below (fun q hq e => by have := hrg q e; omega) (by simp; omega))
      have hs8 := ch8.size
      have hz8 : w.heap.size + 1 ≤ w8.heap.size := by simp at hs8; omega
      have HO8 := hide (show ∀ x ∈ ks.take (k + 1), askOk t n x = true from fun x hx => by
        rw [unhide HT] at hx
        rcases List.mem_append.1 hx with hx | hx
        · exact unhide HO x hx
        · rw [List.mem_singleton] at hx; rw [hx]; exact unhide HOK)
      have HF8 := hide hF8
      go_roundw
      case rel => exact ⟨k + 1, A8, c8, _, _, by omega, by go_num, rfl, HO8, by rw [unhide HT, List.map_append]; exact hall8, hnd8, HF8, hown8, kb8, hz8, hB8⟩
      case measure => simp [intOf]; omega
    · obtain rfl : k = ks.length := by omega
      have HF2 := hide (show allOk t n ks = true by
        have h1 := unhide HO
        rw [List.take_length] at h1
        rw [allOk, unhide HV, decide_eq_true hkl, List.all_eq_true.2 h1]; rfl)
      have HA := hide (allA_yes (unhide HF2))
      have HAL := hide (show (allA t n ks).length = ks.length by rw [unhide HA, List.length_map])
      rw [List.take_length, ← unhide HA] at hall
      rw [← unhide HAL] at hown
      have hgd := grow_done hall hnd (unhide HF) hown
      go_wp2
      go_ret2
      rw [unhide HF2]
      exact ⟨A', c', _, by rw [unhide HAL]; rfl, hgd.1, fun k hk => by have := hgd.2 k hk; omega, hB⟩
set_option maxRecDepth 100000 in
set_option maxHeartbeats 8000000 in
theorem askAll_spec (t : Tr) (A1 : Option Addr) (c1 : Nat) (A2 : Option Addr) (c2 : Nat) (A3 : Option Addr) (c3 : Nat) (n : Int) (B : Option Addr) (cb : Nat) (ks : List Int) (w : World) (h : TrR w t A1 A2 A3) (hk : Rd w B (ks.map (.int .i64))) (hb1 : t.base.length ≤ 1099511627776) (hb2 : t.blocks.length ≤ 1099511627776) (hbs : ∀ x ∈ t.blocks, x.list.length ≤ 1099511627776) (hb3 : t.before.length ≤ 1099511627776) (hbk : ks.length ≤ 1099511627776) :
    Calls Tryz.prog 19 #[.agg (trA t A1 c1 A2 c2 A3 c3), .int .i64 n, .slice B ks.length cb] w fun e w' => ∃ A' c' fp, e = .returned (.tuple #[.slice A' (allA t n ks).length c', .bool (allOk t n ks)]) ∧ OwnD ansO 39 3 w' A' c' (allA t n ks) fp ∧ (∀ k ∈ fp, w.heap.size ≤ k) ∧ Below w.heap.size w w' := by
  have HBS := hide hbs
  clear hbs
  have HR := hide (fun w' (hb : Below w.heap.size w w') => h.new hb)
  have HK := hide (fun w' (hb : Below w.heap.size w w') => (hk.new hb : Rd w' B (ks.map (.int .i64))))
  have KA := hide (fun key w' (hb : Below w.heap.size w w') => ask_spec t A1 c1 A2 c2 A3 c3 n key w' (unhide HR w' hb) hb1 hb2 (unhide HBS) hb3)
  simp only [trA] at KA ⊢
  have k0 : Blk ((w.alloc (.cells #[.slice A1 t.base.length c1, .slice A2 t.blocks.length c2, .slice A3 t.before.length c3] 31)).alloc (.cells #[] 39)) w.heap.size 31 #[.slice A1 t.base.length c1, .slice A2 t.blocks.length c2, .slice A3 t.before.length c3] := (Blk.new _ _ _).alloc _
  have hb0 : Below w.heap.size w ((w.alloc (.cells #[.slice A1 t.base.length c1, .slice A2 t.blocks.length c2, .slice A3 t.before.length c3] 31)).alloc (.cells #[] 39)) := ((Below.refl _ _).alloc (Nat.le_refl _) _).alloc (by simp) _
  have hz0 : w.heap.size + 1 ≤ ((w.alloc (.cells #[.slice A1 t.base.length c1, .slice A2 t.blocks.length c2, .slice A3 t.before.length c3] 31)).alloc (.cells #[] 39)).heap.size := by simp
  have KV := treeValid_spec t A1 c1 A2 c2 A3 c3 ((w.alloc (.cells #[.slice A1 t.base.length c1, .slice A2 t.blocks.length c2, .slice A3 t.before.length c3] 31)).alloc (.cells #[] 39)) (unhide HR _ hb0) hb1 hb2 (unhide HBS) hb3
  simp only [trA] at KV
  have oe : ((w.alloc (.cells #[.slice A1 t.base.length c1, .slice A2 t.blocks.length c2, .slice A3 t.before.length c3] 31)).alloc (.cells #[] 39)).ownsRow (w.heap.size + 1) 39 3 (.slice (some ⟨w.heap.size + 1, 0, none⟩) 0 0) 0 [] := by
    have := own_made (base := w.heap.size + 1) (e := 39) (size := 3) (w.alloc (.cells #[.slice A1 t.base.length c1, .slice A2 t.blocks.length c2, .slice A3 t.before.length c3] 31)) #[] 0 (by simp) (by simp [maxLen]) rfl
    simpa using this
  have x0 : ((w.alloc (.cells #[.slice A1 t.base.length c1, .slice A2 t.blocks.length c2, .slice A3 t.before.length c3] 31)).alloc (.cells #[] 39)).cell? ⟨w.heap.size, 0, none⟩ = some (.slice A1 t.base.length c1) := k0.cell 0
  have x1 : ((w.alloc (.cells #[.slice A1 t.base.length c1, .slice A2 t.blocks.length c2, .slice A3 t.before.length c3] 31)).alloc (.cells #[] 39)).cell? ⟨w.heap.size, 1, none⟩ = some (.slice A2 t.blocks.length c2) := k0.cell 1
  have x2 : ((w.alloc (.cells #[.slice A1 t.base.length c1, .slice A2 t.blocks.length c2, .slice A3 t.before.length c3] 31)).alloc (.cells #[] 39)).cell? ⟨w.heap.size, 2, none⟩ = some (.slice A3 t.before.length c3) := k0.cell 2
  clear h hk
  go_enter Tryz.func19, Tryz.ntmps19
  go_wp2_with fail
  refine KV.mono ?_
  rintro e w3 ⟨rfl, b3⟩
  replace k0 := k0.new_ b3
  have hw3 : w.heap.size + 1 ≤ w3.heap.size := Nat.le_trans hz0 b3.size
  replace hb0 := bthen hb0 b3
  replace oe := own_new oe b3
  clear KV x0 x1 x2 b3 hz0
  cases hv : treeB t
  · have HF := hide (show allOk t n ks = false by simp [allOk, hv])
    have HA := hide (allA_no (unhide HF))
    go_wp2
    go_ret2
    rw [unhide HA, unhide HF]
    have hgd := grow_done (O := ansO) (xs := []) (vs := []) (fs := []) (base := w.heap.size + 1) trivial (by simp) (by simp) (by simpa using oe)
    exact ⟨_, _, _, rfl, hgd.1, fun k hk => by have := hgd.2 k hk; omega, hb0⟩
  have HV := hide hv
  clear hv
  by_cases hkl : ks.length ≤ 32
  rotate_left
  · have HF := hide (show allOk t n ks = false by simp [allOk]; intro _ h; omega)
    have HA := hide (allA_no (unhide HF))
    have i1 : (32 : Int) < (ks.length : Int) := by omega
    clear hkl
    go_wp2
    go_ret2
    rw [unhide HA, unhide HF]
    have hgd := grow_done (O := ansO) (xs := []) (vs := []) (fs := []) (base := w.heap.size + 1) trivial (by simp) (by simp) (by simpa using oe)
    exact ⟨_, _, _, rfl, hgd.1, fun k hk => by have := hgd.2 k hk; omega, hb0⟩
  have i1 : ¬ (32 : Int) < (ks.length : Int) := by omega
  go_wp2
  go_loopw [8, 9, 10, 11, 28] (fun s i _ _ _ wr => ∃ (k : Nat) (A' : Option Addr) (c' : Nat) (vs : List (List Value)) (fs : List (List Nat)), k ≤ ks.length ∧ i = .int .i64 k ∧ s = .slice A' k c' ∧ Hid (∀ x ∈ ks.take k, askOk t n x = true) ∧ AllO ansO wr ((ks.take k).map (askA t n)) vs fs ∧ fs.flatten.Nodup ∧ Hid (∀ q ∈ fs.flatten, w.heap.size + 1 ≤ q ∧ A' ≠ some ⟨q, 0, none⟩) ∧ wr.ownsRow (w.heap.size + 1) 39 3 (.slice A' k c') k vs.flatten ∧ Blk wr w.heap.size 31 #[.slice A1 t.base.length c1, .slice A2 t.blocks.length c2, .slice A3 t.before.length c3] ∧ w.heap.size + 1 ≤ wr.heap.size ∧ Below w.heap.size w wr) (fun _ i _ _ _ _ => ks.length - (intOf i).toNat)
  case atStart => exact ⟨0, _, _, [], [], Nat.zero_le _, rfl, rfl, hide (by simp), trivial, by simp, hide (by simp), by simpa using oe, k0, hw3, hb0⟩
  case round =>
    clear k0 hw3 hb0
    obtain ⟨k, A', c', vs, fs, hk, rfl, rfl, HO, hall, hnd, HF, hown, kb, hwr, hB⟩ := hrel
    have z0 : wr.cell? ⟨w.heap.size, 0, none⟩ = some (.slice A1 t.base.length c1) := kb.cell 0
    have z1 : wr.cell? ⟨w.heap.size, 1, none⟩ = some (.slice A2 t.blocks.length c2) := kb.cell 1
    have z2 : wr.cell? ⟨w.heap.size, 2, none⟩ = some (.slice A3 t.before.length c3) := kb.cell 2
    by_cases hlt : k < ks.length
    · have i2 : (k : Int) < (ks.length : Int) := by omega
      obtain ⟨bp, offp, hBe, hpb, zp⟩ := (unhide HK wr hB).int hlt
      have HT := hide (show (ks.take (k + 1)) = ks.take k ++ [ks[k]] from List.take_succ_eq_append_getElem hlt)
      have HNO := hide (allOk_at (t := t) (n := n) hlt)
      generalize ks[k] = key at *
      have HBE := hide hBe
      clear hBe
      have hpl := askA_len t n key
      rw [unhide HBE]
      have HX := hide (fun (w' : World) (hE : EB wr.heap.size 39 wr w') => show w'.cell? ⟨w.heap.size, 0, none⟩ = some (.slice A1 t.base.length c1) ∧ w'.cell? ⟨w.heap.size, 1, none⟩ = some (.slice A2 t.blocks.length c2) ∧ w'.cell? ⟨w.heap.size, 2, none⟩ = some (.slice A3 t.before.length c3) ∧ w'.cell? ⟨bp, offp + k, none⟩ = some (.int .i64 key) ∧ Below w.heap.size w w' from by
        have hb := hE.below (Nat.le_refl _)
        exact ⟨(kb.new_ hb).cell 0, (kb.new_ hb).cell 1, (kb.new_ hb).cell 2, (hb.cell (p := ⟨bp, offp + k, none⟩) hpb).trans zp, bthen hB hb⟩)
      clear z0 z1 z2 zp
      go_wp2
      have hF : StEL (EB wr.heap.size 39) [bV (.agg #[.slice A1 t.base.length c1, .slice A2 t.blocks.length c2, .slice A3 t.before.length c3]), bV (.int .i64 n), bV (.slice (some ⟨bp, offp, none⟩) ks.length cb), bV (.int .i64 (k : Int)), bV (.pointer (some ⟨bp, offp + k, none⟩)), bV (.int .i64 key), sAskT wr.heap.size (askA t n key) (askOk t n key), sAskT wr.heap.size (askA t n key) (askOk t n key), sAsk wr.heap.size (askA t n key), bV (.bool (askOk t n key)), pV (fun v => v ≠ undef), pV (fun _ => True)] :=
        ⟨fun _ _ _ _ h => h, fun _ _ _ _ h => h, fun _ _ _ _ h => h, fun _ _ _ _ h => h, fun _ _ _ _ h => h, fun _ _ _ _ h => h, fun _ _ _ hE ⟨A, c, h1, h2⟩ => ⟨A, c, h1, own_EB h2 hE ne_ia⟩, fun _ _ _ hE ⟨A, c, h1, h2⟩ => ⟨A, c, h1, own_EB h2 hE ne_ia⟩, fun _ _ _ hE ⟨A, c, h1, h2⟩ => ⟨A, c, h1, own_EB h2 hE ne_ia⟩, fun _ _ _ _ h => h, fun _ _ _ _ h => h, fun _ _ _ _ h => h, trivial⟩
      go_upto_region 7 with fail
      refine wp_region_box (by kernel_rfl) [(0, some 29), (1, some 30), (2, some 31), (3, some 32), (4, some 33), (5, some 34), (6, some 35), (7, some 28), (8, some 36), (9, some 37), (10, some 10), (11, none)] [[], [], [], [], [(2, some 31), (3, some 32)], [(4, some 33)], [(0, some 29), (1, some 30), (5, some 34)], [(6, some 35)], [(7, some 28)], [(7, some 28)], [], [(8, some 36), (10, some 10)]] (by kernel_rfl) 11 [0, 1, 5, 6, 7, 8, 10] (by kernel_rfl) 10
        (locB [bV (.agg #[.slice A1 t.base.length c1, .slice A2 t.blocks.length c2, .slice A3 t.before.length c3]), bV (.int .i64 n), bV (.slice (some ⟨bp, offp, none⟩) ks.length cb), bV (.int .i64 (k : Int)), bV (.pointer (some ⟨bp, offp + k, none⟩)), bV (.int .i64 key), sAskT wr.heap.size (askA t n key) (askOk t n key), sAskT wr.heap.size (askA t n key) (askOk t n key), sAsk wr.heap.size (askA t n key), bV (.bool (askOk t n key)), pV (fun v => v ≠ undef), pV (fun _ => True)]) (EB wr.heap.size 39) (BoxR wr.heap.size 39 #[.int .i64 0, .int .i64 0, .slice none 0 0] (qAsk wr.heap.size (askA t n key))) (EB.refl _ _) (fun _ _ _ => EB.trans) (locE_st hF _) (.inl ⟨rfl, .inl rfl⟩) ?_ ?_
      · refine steps_cons ?s0 ( steps_cons ?s1 ( steps_cons ?s2 ( steps_cons ?s3 ( steps_cons ?s4 ( steps_cons ?s5 ( steps_cons ?s6 ( steps_cons ?s7 ( steps_cons ?s8 ( steps_cons ?s9 ( steps_cons ?s10 ( steps_cons ?s11 steps_nil)))))))))))
        case s0 =>
          intro w' b vp hE hb hR
          obtain rfl := hb (by simp)
          intro Q hQ
          obtain ⟨y0, y1, y2, y3, y4⟩ := unhide HX w' hE.undrew
          go_wp2
          exact hQ _ _ _ rfl rfl (EB.refl _ _ _) hR
        case s1 =>
          intro w' b vp hE hb hR
          obtain rfl := hb (by simp)
          intro Q hQ
          go_wp2
          exact hQ _ _ _ rfl rfl (EB.refl _ _ _) hR
        case s2 =>
          intro w' b vp hE hbx hR
          clear hbx
          intro Q hQ
          go_wp2
          exact hQ _ _ _ rfl rfl (EB.refl _ _ _) hR
        case s3 =>
          intro w' b vp hE hbx hR
          clear hbx
          intro Q hQ
          go_wp2
          exact hQ _ _ _ rfl rfl (EB.refl _ _ _) hR
        case s4 =>
          intro w' b vp hE hbx hR
          clear hbx
          rintro _ ⟨rfl, -⟩ _ ⟨rfl, -⟩ Q hQ
          go_wp2
          exact hQ _ _ _ rfl rfl (EB.refl _ _ _) hR
        case s5 =>
          intro w' b vp hE hb hR
          obtain rfl := hb (by simp)
          rintro _ ⟨rfl, -⟩ Q hQ
          obtain ⟨y0, y1, y2, y3, y4⟩ := unhide HX w' hE.undrew
          go_wp2
          exact hQ _ _ _ rfl rfl (EB.refl _ _ _) hR
        case s6 =>
          intro w' b vp hE hb hR
          obtain rfl := hb (by simp)
          rintro _ ⟨rfl, -⟩ _ ⟨rfl, -⟩ _ ⟨rfl, -⟩ Q hQ
          obtain ⟨y0, y1, y2, y3, y4⟩ := unhide HX w' hE.undrew
          go_wp2_with fail
          refine (unhide KA key w' y4).mono ?_
          rintro e w1 ⟨A7, c7, rfl, o7, b7⟩
          have hsz := hE.size
          go_wp2
          exact hQ _ _ _ rfl ⟨A7, c7, rfl, own_base o7 hsz⟩ (EB.of_new b7) (hR.new b7 (fun _ ⟨A, c, h1, h2⟩ => ⟨A, c, h1, own_new h2 b7⟩))
        case s7 =>
          intro w' b vp hE hb hR
          obtain rfl := hb (by simp)
          rintro _ ⟨⟨A7, c7, rfl, o7⟩, -⟩ Q hQ
          go_wp2
          exact hQ _ _ _ rfl ⟨A7, c7, rfl, o7⟩ (EB.refl _ _ _) hR
        case s8 =>
          intro w' b vp hE hb hR
          obtain rfl := hb (by simp)
          rintro _ ⟨⟨A7, c7, rfl, o7⟩, -⟩ Q hQ
          go_wp2
          exact hQ _ _ _ rfl ⟨A7, c7, rfl, o7⟩ (EB.refl _ _ _) hR
        case s9 =>
          intro w' b vp hE hbx hR
          clear hbx
          rintro _ ⟨⟨A7, c7, rfl, o7⟩, -⟩ Q hQ
          go_wp2
          exact hQ _ _ _ rfl rfl (EB.refl _ _ _) hR
        case s10 =>
          intro w' b vp hE hb hR
          obtain rfl := hb (by simp)
          intro Q hQ
          have hsz := hE.size
          go_wp2
          exact hQ _ _ _ rfl (fun h => by cases h) (EB.of_new ((Below.refl _ _).alloc (Nat.le_refl _) _)) (.inl ⟨rfl, .inr ⟨w'.heap.size, rfl, hsz, Blk.new _ _ _⟩⟩)
        case s11 =>
          intro w' b vp hE hb hR
          obtain rfl := hb (by simp)
          rintro _ ⟨⟨A7, c7, rfl, o7⟩, -⟩ _ ⟨hnu, hvp⟩ Q hQ
          obtain rfl := hvp rfl
          rcases hR with ⟨-, h | ⟨g, rfl, hg, hk9⟩⟩ | ⟨h, _⟩
          · exact absurd h hnu
          · refine wpList_store_row rfl 39 (.tmp 10) (.tmp 36) rfl g #[.int .i64 (askA t n key).key, .int .i64 (askA t n key).value, .slice A7 (askA t n key).proof.length c7] rfl rfl 39 #[.int .i64 0, .int .i64 0, .slice none 0 0] hk9 info_ans3 rfl (ans_one _ _ _ _ _) ?_
            go_wp2
            exact hQ undef _ _ rfl trivial (EB.setRow hk9 hg _) (.inr ⟨rfl, g, _, rfl, hg, blk_setRow hk9, A7, c7, rfl, own_EB o7 (EB.setRow hk9 hg _) ne_ia⟩)
          · cases h
      intro w5 vp hE hR
      rintro v0 - v1 - v2 - v3 - v4 - v5 - v6 - v7 - v8 - v9 ⟨hv9, -⟩ v10 ⟨hnu, hvp⟩ v11 -
      obtain rfl : v9 = _ := hv9
      obtain rfl := hvp rfl
      rcases hR with ⟨h, _⟩ | ⟨-, g, cs, rfl, hg, k5, A7, c7, rfl, o5⟩
      · cases h
      change wpList _ _ _ [_] _ _
      simp only [Act.put, List.setIfInBounds_toArray, List.set_cons_succ, List.set_cons_zero]
      have b35 := hE.undrew.below (Nat.le_refl _)
      have oq := own_new hown b35
      have hs35 := b35.size
      have y0 : w5.cell? ⟨g, 0, none⟩ = some (.int .i64 (askA t n key).key) := k5.cell 0
      have y1 : w5.cell? ⟨g, 1, none⟩ = some (.int .i64 (askA t n key).value) := k5.cell 1
      have y2 : w5.cell? ⟨g, 2, none⟩ = some (.slice A7 (askA t n key).proof.length c7) := k5.cell 2
      have hgl := k5.lt
      cases hok : askOk t n key
      · have HF2 := hide (unhide HNO hok)
        have HA := hide (allA_no (unhide HF2))
        have oe2 := own_made (base := w.heap.size + 1) (e := 39) (size := 3) w5 #[] 0 (by omega) (by simp [maxLen]) rfl
        go_wp2
        go_ret2
        rw [unhide HA, unhide HF2]
        have hgd := grow_done (O := ansO) (xs := []) (vs := []) (fs := []) (base := w.heap.size + 1) trivial (by simp) (by simp) (by simpa using oe2)
        exact ⟨_, _, rfl, _, hgd.1, fun k hk => by have := hgd.2 k hk; omega, (bthen hB b35).alloc (by omega) _⟩
      have HOK := hide hok
      clear hok
      go_wp2_with (at_builtin; refine wpList_app rfl (.tmp 41) (.tmp 43) 45 rfl el_ans rfl (own_alloc oq _) rfl (rd_lit w5 (ansV (askA t n key) A7 c7) _) rfl (one_ansV _ _ _) (by simp only [maxLen]; omega) (by omega) (by simp; omega) ?_; intro A8 c8 w8 o8 ch8 d8 _)
      have hx : ansO (askA t n key) w5 (ansV (askA t n key) A7 c7) (blk A7) := ⟨A7, c7, rfl, own_base0 o5, rfl⟩
      have hfb : ∀ q ∈ blk A7, wr.heap.size ≤ q := fun q hq => (blk_own o5 hq).2.1
      obtain ⟨hall8, hnd8, hF8, hown8⟩ := grow_step ansO_good ans_good hall hnd (unhide HF) hown hwr b35 hx (blk_nodup _) hfb ch8 d8 (by simpa [ansV] using o8)
      have hrg := own_rng hown
      have kb8 := ((kb.new_ b35).alloc (.cells (ansV (askA t n key) A7 c7).toArray 39)).chg ch8 (fun e => by have := hrg _ e; omega)
      have hB8 : Below w.heap.size w w8 := ((bthen hB b35).alloc (by omega) _).trans (ch8.below (fun q hq e => by have := hrg q e; omega) (by simp; omega))
      have hs8 := ch8.size
      have hz8 : w.heap.size + 1 ≤ w8.heap.size := by simp at hs8; omega
      have HO8 := hide (show ∀ x ∈ ks.take (k + 1), askOk t n x = true from fun x hx => by
        rw [unhide HT] at hx
        rcases List.mem_append.1 hx with hx | hx
        · exact unhide HO x hx
        · rw [List.mem_singleton] at hx; rw [hx]; exact unhide HOK)
      have HF8 := hide hF8
      go_roundw
      case rel => exact ⟨k + 1, A8, c8, _, _, by omega, by go_num, rfl, HO8, by rw [unhide HT, List.map_append]; exact hall8, hnd8, HF8, hown8, kb8, hz8, hB8⟩
      case measure => simp [intOf]; omega
    · obtain rfl : k = ks.length := by omega
      have HF2 := hide (show allOk t n ks = true by
        have h1 := unhide HO
        rw [List.take_length] at h1
        rw [allOk, unhide HV, decide_eq_true hkl, List.all_eq_true.2 h1]; rfl)
      have HA := hide (allA_yes (unhide HF2))
      have HAL := hide (show (allA t n ks).length = ks.length by rw [unhide HA, List.length_map])
      rw [List.take_length, ← unhide HA] at hall
      rw [← unhide HAL] at hown
      have hgd := grow_done hall hnd (unhide HF) hown
      go_wp2
      go_ret2
      rw [unhide HF2]
      exact ⟨A', c', _, by rw [unhide HAL]; rfl, hgd.1, fun k hk => by have := hgd.2 k hk; omega, hB⟩
end Go.Proofs.YtmpdopjailomlaaGreat
namespace Go.Proofs.YtmpdopjailomlaaGreat
open Go.RowKit
set_option linter.unusedVariables false
set_option linter.unusedSimpArgs false

def prTot : List Ans → Nat
  | [] => 0
  | x :: xs => x.proof.length + prTot xs
theorem prTot_append (xs ys : List Ans) : prTot (xs ++ ys) = prTot xs + prTot ys := by
  induction xs with
  | nil => simp [prTot]
  | cons x xs ih => rw [List.cons_append, prTot, prTot, ih]; omega
def markAns1 (k : Int) (x : Ans) : Ans := ⟨k, k + 1, iota (k + 1 + 1) x.proof.length⟩
def markAnsN (k : Int) (x : Ans) : Int := k + 1 + 1 + x.proof.length
def markAnss : Int → List Ans → List Ans
  | _, [] => []
  | k, x :: xs => markAns1 k x :: markAnss (markAnsN k x) xs
def markAnsE : Int → List Ans → Int
  | k, [] => k
  | k, x :: xs => markAnsE (markAnsN k x) xs
theorem markAnsE_eq (k : Int) (xs : List Ans) : markAnsE k xs = k + (2 * xs.length + prTot xs : Nat) := by
  induction xs generalizing k with
  | nil => simp [markAnsE, prTot]
  | cons x xs ih => rw [markAnsE, ih, markAnsN, prTot, List.length_cons]; omega
theorem markAnss_len (k : Int) (xs : List Ans) : (markAnss k xs).length = xs.length := by
  induction xs generalizing k with
  | nil => rfl
  | cons x xs ih => rw [markAnss, List.length_cons, ih, List.length_cons]
theorem markAnss_snoc (k : Int) (xs : List Ans) (x : Ans) : markAnss k (xs ++ [x]) = markAnss k xs ++ [markAns1 (markAnsE k xs) x] ∧ markAnsE k (xs ++ [x]) = markAnsN (markAnsE k xs) x := by
  induction xs generalizing k with
  | nil => exact ⟨rfl, rfl⟩
  | cons y xs ih =>
    obtain ⟨h1, h2⟩ := ih (markAnsN k y)
    exact ⟨by rw [List.cons_append, markAnss, h1, markAnss, markAnsE, List.cons_append], by rw [List.cons_append, markAnsE, h2, markAnsE]⟩
theorem markAnss_get (k : Int) (xs : List Ans) (j : Nat) (hj : j < xs.length) : (markAnss k xs)[j]'(by rw [markAnss_len]; exact hj) = markAns1 (markAnsE k (xs.take j)) xs[j] := by
  induction xs generalizing k j with
  | nil => simp at hj
  | cons x xs ih =>
    cases j with
    | zero => rfl
    | succ j => simpa [markAnss, markAnsE] using ih (markAnsN k x) j (by simpa using hj)
set_option maxRecDepth 100000 in
set_option maxHeartbeats 1000000 in
theorem eqAnswerS_any (A B : Option Addr) (c d : Nat) (xs ys : List Ans) (w : World) (P Q : Nat → Prop) (hx : RdD ansR P w A xs) (hy : RdD ansR Q w B ys) (hbx : xs.length ≤ 4611686018427387904) (hbs : ∀ x ∈ xs, x.proof.length ≤ 4611686018427387904) :
    Calls Tryz.prog 22 #[.slice A xs.length c, .slice B ys.length d] w fun e w' => e = .returned (.bool (decide (xs = ys))) ∧ Below w.heap.size w w' := by
  have HBS := hide hbs
  clear hbs
  by_cases hl : xs.length = ys.length
  · have hd : ((xs.length : Int) != (ys.length : Int)) = false := by simp [hl]
    have HL := hide hl
    have hl1 : xs.length ≤ ys.length := by omega
    have hl2 : ys.length ≤ xs.length := by omega
    clear hl
    go_enter Tryz.func22, Tryz.ntmps22
    go_wp2
    go_loopw [5] (fun i wr => ∃ k : Nat, k ≤ xs.length ∧ i = .int .i64 k ∧ (∀ j (h1 : j < xs.length) (h2 : j < ys.length), j < k → xs[j] = ys[j]) ∧ Below w.heap.size w wr) (fun i _ => xs.length - (intOf i).toNat)
    case atStart => exact ⟨0, Nat.zero_le _, rfl, fun j _ _ h => absurd h (by omega), Below.refl _ _⟩
    case round =>
      obtain ⟨k, hk, rfl, hsame, hbel⟩ := hrel
      have HS := hide hsame
      clear hsame
      by_cases hlt : k < xs.length
      · have hlt2 : k < ys.length := by omega
        obtain ⟨b, off, A1, c1, rfl, hbP, hbb, d0, d1, d2, hl1', r1⟩ := (hx.new ans_good hbel).ans hlt
        obtain ⟨b', off', B1, e1, rfl, hbP', hbb', f0, f1, f2, hl2', q1⟩ := (hy.new ans_good hbel).ans hlt2
        have hx1 := unhide HBS xs[k] (List.getElem_mem hlt)
        generalize hxk : xs[k] = xk at *
        generalize hyk : ys[k] = yk at *
        have HX := hide hxk
        have HY := hide hyk
        clear hxk hyk
        have i1 : (k : Int) < (xs.length : Int) := by omega
        have i2 : (k : Int) < (ys.length : Int) := by omega
        have hbel2 := hbel.drew
        have K := hide (eqAnswer_any xk yk A1 c1 B1 e1 wr.drew r1.rd.drew q1.rd.drew hx1)
        clear r1 q1 hl1' hl2'
        by_cases he : xk = yk
        · have hn : decide (xk = yk) = true := by simp [he]
          have HE := hide he
          rw [hn] at K
          clear he hn
          go_wp2
          go_still_tail 8, (by kernel_rfl)
          change wpList _ _ _ _ _ wr.drew
          go_wp2_with fail
          refine (unhide K).mono ?_
          rintro e w1 ⟨rfl, hb1⟩
          go_wp2
          go_roundw
          case rel =>
            refine ⟨k + 1, by omega, by go_num, fun j h1 h2 hj => ?_, below_then hbel2 hb1 hbel2.size⟩
            rcases Nat.lt_or_ge j k with h3 | h3
            · exact unhide HS j h1 h2 h3
            · have : j = k := by omega
              subst this
              exact (unhide HX).trans ((unhide HE).trans (unhide HY).symm)
          case measure => simp [intOf]; omega
        · have hn : decide (xk = yk) = false := by simp [he]
          have HE := hide he
          rw [hn] at K
          clear he hn
          go_wp2
          go_still_tail 8, (by kernel_rfl)
          change wpList _ _ _ _ _ wr.drew
          go_wp2_with fail
          refine (unhide K).mono ?_
          rintro e w1 ⟨rfl, hb1⟩
          go_wp2
          go_ret
          refine ⟨retb ?_, below_then hbel2 hb1 hbel2.size⟩
          symm
          rw [decide_eq_false_iff_not]
          intro hxy
          apply unhide HE
          have h1 := unhide HX
          have h2 := unhide HY
          subst hxy
          exact h1.symm.trans h2
      · go_wp2
        go_ret
        refine ⟨retb ?_, hbel⟩
        symm
        rw [decide_eq_true_iff]
        exact List.ext_getElem (unhide HL) fun j h1 h2 => unhide HS j h1 h2 (by omega)
  · have hd : ((xs.length : Int) != (ys.length : Int)) = true := by simp; omega
    have HL := hide hl
    clear hl
    go_enter Tryz.func22, Tryz.ntmps22
    go_wp2
    go_ret
    refine ⟨retb ?_, Below.refl _ _⟩
    symm
    rw [decide_eq_false_iff_not]
    exact fun h => unhide HL (by rw [h])
set_option maxHeartbeats 2000000 in
theorem markAnswerS_any (A : Option Addr) (c : Nat) (k0 : Int) (xs : List Ans) (fp : List Nat) (w : World) (h : OwnD ansO 39 3 w A c xs fp) (h0 : 0 ≤ k0) (h1 : markAnsE k0 xs ≤ 576460752303423488) :
    Calls Tryz.prog 25 #[.slice A xs.length c, .int .i64 k0] w fun e w' => e = .returned (.int .i64 (markAnsE k0 xs)) ∧ OwnD ansO 39 3 w' A c (markAnss k0 xs) fp ∧ Chg (fun q => q ∈ fp) w w' := by
  obtain ⟨vs, fs, hall, hown, hfp, hnd⟩ := h
  have HFP := hide hfp
  have HND := hide hnd
  have HNF := hide (show fs.flatten.Nodup by rw [hfp, List.nodup_append] at hnd; exact hnd.2.1)
  have HAF := hide (show ∀ q ∈ blk A, q ∉ fs.flatten by rw [hfp, List.nodup_append] at hnd; exact fun q hq hq2 => hnd.2.2 q hq q hq2 rfl)
  have hxl : (xs.length : Int) ≤ 576460752303423488 := by rw [markAnsE_eq] at h1; omega
  clear hfp hnd
  go_enter Tryz.func25, Tryz.ntmps25
  go_wp2
  go_loopw [1, 5] (fun kk i wr => ∃ (k : Nat) (z : Int) (vs : List (List Value)), k ≤ xs.length ∧ i = .int .i64 k ∧ kk = .int .i64 z ∧ Hid (z = markAnsE k0 (xs.take k)) ∧ AllO ansO wr (markAnss k0 (xs.take k) ++ xs.drop k) vs fs ∧ wr.ownsRow 0 39 3 (.slice A xs.length c) xs.length vs.flatten ∧ Chg (fun q => q ∈ fp) w wr) (fun _ i _ => xs.length - (intOf i).toNat)
  case atStart => exact ⟨0, k0, vs, Nat.zero_le _, rfl, rfl, hide rfl, by simpa [markAnss] using hall, hown, Chg.refl _ _⟩
  case round =>
    clear hall hown
    obtain ⟨k, z, vs, hk, rfl, rfl, HZ, hall, hown, hch⟩ := hrel
    by_cases hlt : k < xs.length
    · have hml : (markAnss k0 (xs.take k)).length = k := by rw [markAnss_len, List.length_take]; omega
      have hkl : k < (markAnss k0 (xs.take k) ++ xs.drop k).length := by rw [List.length_append, hml, List.length_drop]; omega
      have hget : (markAnss k0 (xs.take k) ++ xs.drop k)[k]'hkl = xs[k] := by rw [List.getElem_append_right (by omega)]; simp [hml]
      obtain ⟨hv, hf, -, hO, -⟩ := hall.split k hkl
      have hve := hall.each ansO_good ans_good
      rw [hget] at hO
      obtain ⟨g, rfl, hg0, hgs⟩ := own_addr hown (by omega)
      have hfk : fs[k]? = some fs[k] := List.getElem?_eq_getElem hf
      have HSN := hide (markAnss_snoc k0 (xs.take k) xs[k])
      have hzb : 0 ≤ z ∧ z + 2 + (xs[k].proof.length : Int) ≤ 576460752303423488 := by
        have e1 := unhide HZ
        have e2 : prTot (xs.take k) + xs[k].proof.length ≤ prTot xs := by
          have e3 : xs = xs.take k ++ xs[k] :: xs.drop (k + 1) := by rw [← drop_get xs k hlt, List.take_append_drop]
          have e4 := congrArg prTot e3
          rw [prTot_append, prTot] at e4
          omega
        rw [markAnsE_eq] at e1 h1
        rw [List.length_take] at e1
        omega
      have HTK := hide (List.take_succ_eq_append_getElem hlt)
      have HDR := hide (drop_get xs k hlt)
      generalize hxk : xs[k] = x at *
      clear hxk hget
      obtain ⟨A1, c1, hvk, o1, hfp⟩ := hO
      have HFK := hide hfp
      have hvl : vs.flatten.length = xs.length * 3 := hown.1
      have hcc : ∀ j, j < 3 → wr.cell? ⟨g, k * 3 + j, none⟩ = (ansV x A1 c1)[j]? := fun j hj => by
        have h5 := (hall.rd ansO_good ans_good (P := fun _ => True) fun _ _ => trivial).flat_get ans_good hv hj
        rw [hvk] at h5
        obtain ⟨h6, h7⟩ := List.getElem?_eq_some_iff.1 (show vs.flatten[k * 3 + j]? = some (vs.flatten[k * 3 + j]'(by omega)) from List.getElem?_eq_getElem _)
        rw [own_cell hown (k * 3 + j) (by omega), ← h5]
        exact (List.getElem?_eq_getElem _).symm
      have hgA : g ∉ fs.flatten := unhide HAF g (by simp [blk])
      have hinf : ∀ q ∈ fs[k], q ∈ fs.flatten := fun q hq => List.mem_flatten.2 ⟨fs[k], List.getElem_mem hf, hq⟩
      have hg1 : ∀ q, A1 = some ⟨q, 0, none⟩ → q ≠ g := fun q hq e => hgA (by rw [← e]; exact hinf q (by rw [hfp]; exact mem_blk hq))
      have i1 : (k : Int) < (xs.length : Int) := by omega
      have hvn : ∀ v ∈ vs, v.length = 3 := hve
      have hs0 := hown
      rw [← List.set_getElem_self hv, hvk] at hs0
      have hs1 := own_set hs0 (k * 3 + 0) (.int .i64 z)
      rw [set_step 3 vs hvn k hv (ansV x A1 c1) rfl 0 (by omega)] at hs1
      have hs2 := own_set hs1 (k * 3 + 1) (.int .i64 (z + 1))
      rw [set_step 3 vs hvn k hv _ (by simp [ansV]) 1 (by omega)] at hs2
      have d0 : wr.cell? ⟨g, k * 3, none⟩ = some (.int .i64 x.key) := hcc 0 (by omega)
      have d1 : wr.cell? ⟨g, k * 3 + 1, none⟩ = some (.int .i64 x.value) := hcc 1 (by omega)
      have d2 : wr.cell? ⟨g, k * 3 + 2, none⟩ = some (.slice A1 x.proof.length c1) := hcc 2 (by omega)
      have z0 : wr.frozen? ⟨g, k * 3, none⟩ = false := own_frozen hown _
      have z1 : wr.frozen? ⟨g, k * 3 + 1, none⟩ = false := own_frozen hown _
      have ch1 : Chg (fun q => q = g) wr ((wr.setCell ⟨g, k * 3, none⟩ (.int .i64 z)).setCell ⟨g, k * 3 + 1, none⟩ (.int .i64 (z + 1))) := ((Chg.refl (fun q => q = g) wr).setCell (.inl rfl) _).setCell (.inl rfl) _
      have o1' := own_chg o1 ch1 (fun q hq e => hg1 q hq e)
      have e2 : ((wr.setCell ⟨g, k * 3, none⟩ (.int .i64 z)).setCell ⟨g, k * 3 + 1, none⟩ (.int .i64 (z + 1))).cell? ⟨g, k * 3 + 2, none⟩ = some (.slice A1 x.proof.length c1) := by
        rw [World.cell?_setCell_other _ _ _ _ (fun e => by injection e; omega), World.cell?_setCell_other _ _ _ _ (fun e => by injection e; omega)]; exact d2
      have HALL := hide hall
      rw [Nat.add_zero] at hs2
      have hs3' := hs2
      clear hall hcc hvk hs0 hs1 hs2
      go_wp2_with fail
      generalize ((wr.setCell ⟨g, k * 3, none⟩ (.int .i64 z)).setCell ⟨g, k * 3 + 1, none⟩ (.int .i64 (z + 1))) = w1 at *
      refine (markIntS_any A1 c1 0 (z + 1 + 1) x.proof w1 o1' (by omega) (by omega) (by omega)).mono ?_
      rintro e w2 ⟨rfl, m1, ch2⟩
      have hs6 := own_chg hs3' ch2 (fun q hq e => by injection hq with hq; injection hq with hq; subst hq; exact hg1 _ e rfl)
      have hmo : ansO (markAns1 z x) w2 (ansV (markAns1 z x) A1 c1) fs[k] := ⟨A1, c1, rfl, by simpa [markAns1, iota_length] using m1, hfp⟩
      have hup := (unhide HALL).upd ansO_good (unhide HNF) hkl hfk hmo (fun q hq hq2 hqw => by
        have hqg : q ≠ g := fun e => hgA (e ▸ hq2)
        have n1 : A1 ≠ some ⟨q, 0, none⟩ := fun e => hq (by rw [hfp]; exact mem_blk e)
        have t1 := ch1.size
        have t2 := ch2.size
        exact (ch2.block q (by omega) n1).trans (ch1.block q hqw hqg))
      have hchg : Chg (fun q => q ∈ fp) w w2 := by
        have hgp : g ∈ fp := by rw [unhide HFP]; simp [blk]
        have t1 : Chg (fun q => q ∈ fp) wr w1 := ch1.mono fun q _ e => e ▸ hgp
        have t2 : Chg (fun q => q ∈ fp) w1 w2 := ch2.mono fun q _ e => by rw [unhide HFP]; exact List.mem_append_right _ (hinf q (by rw [hfp]; exact mem_blk e))
        exact (hch.trans t1).trans t2
      have hset : (markAnss k0 (xs.take k) ++ xs.drop k).set k (markAns1 z x) = markAnss k0 (xs.take (k + 1)) ++ xs.drop (k + 1) := by
        rw [unhide HTK, (unhide HSN).1, ← unhide HZ, List.set_append_right _ _ (by omega), hml, Nat.sub_self, unhide HDR, List.set_cons_zero, List.append_assoc]
        rfl
      rw [hset] at hup
      have hvs : ((ansV x A1 c1).set 0 (.int .i64 z)).set 1 (.int .i64 (z + 1)) = ansV (markAns1 z x) A1 c1 := by simp [ansV, markAns1, iota_length]
      rw [hvs] at hs6
      have HUP := hide hup
      have HS4 := hide hs6
      have HCH := hide hchg
      have HZN := hide (show z + 1 + 1 + x.proof.length = markAnsE k0 (xs.take (k + 1)) by rw [unhide HTK, (unhide HSN).2, ← unhide HZ]; rfl)
      clear hset hup hs6 hchg hvs hmo m1 o1 o1' hs3' ch1 ch2 hfp hve hvn hown hg1 hinf hgA hfk d0 d1 d2 e2 z0 z1
      go_wp2
      go_roundw
      case rel => exact ⟨k + 1, _, _, by omega, by go_num, rfl, HZN, unhide HUP, unhide HS4, unhide HCH⟩
      case measure => simp [intOf]; omega
    · obtain rfl : k = xs.length := by omega
      rw [List.take_length] at HZ hall
      rw [List.drop_length, List.append_nil] at hall
      go_wp2
      go_ret
      exact ⟨reti (unhide HZ), ⟨vs, fs, hall, by rw [markAnss_len]; exact hown, unhide HFP, unhide HND⟩, hch⟩
set_option maxHeartbeats 2000000 in
theorem heldAnswerS_any (A : Option Addr) (c : Nat) (k0 : Int) (xs : List Ans) (P : Nat → Prop) (w : World) (h : RdD ansR P w A (markAnss k0 xs)) (h0 : 0 ≤ k0) (h1 : markAnsE k0 xs ≤ 576460752303423488) :
    Calls Tryz.prog 26 #[.slice A xs.length c, .int .i64 k0] w fun e w' => e = .returned (.int .i64 (markAnsE k0 xs)) ∧ w = w' := by
  have hxl : (xs.length : Int) ≤ 576460752303423488 := by rw [markAnsE_eq] at h1; omega
  go_enter Tryz.func26, Tryz.ntmps26
  go_wp2
  go_loop [1, 5] (fun kk i => ∃ (k : Nat) (z : Int), k ≤ xs.length ∧ i = .int .i64 k ∧ kk = .int .i64 z ∧ Hid (z = markAnsE k0 (xs.take k))) (fun _ i => xs.length - (intOf i).toNat)
  case atStart => exact ⟨0, k0, Nat.zero_le _, rfl, rfl, hide rfl⟩
  case round =>
    obtain ⟨k, z, hk, rfl, rfl, HZ⟩ := hrel
    by_cases hlt : k < xs.length
    · have hltm : k < (markAnss k0 xs).length := by rw [markAnss_len]; exact hlt
      obtain ⟨b, off, A1, e1, rfl, hbP, hbb, d0, d1, d2, hlc, q1⟩ := h.ans hltm
      rw [markAnss_get k0 xs k hlt, ← unhide HZ] at d0 d1 d2 q1
      simp only [markAns1] at d0 d1 d2 q1
      have HSN := hide (markAnss_snoc k0 (xs.take k) xs[k])
      have hzb : 0 ≤ z ∧ z + 2 + (xs[k].proof.length : Int) ≤ 576460752303423488 := by
        have e1 := unhide HZ
        have e2 : prTot (xs.take k) + xs[k].proof.length ≤ prTot xs := by
          have e3 : xs = xs.take k ++ xs[k] :: xs.drop (k + 1) := by rw [← drop_get xs k hlt, List.take_append_drop]
          have e4 := congrArg prTot e3
          rw [prTot_append, prTot] at e4
          omega
        rw [markAnsE_eq] at e1 h1
        rw [List.length_take] at e1
        omega
      have HTK := hide (List.take_succ_eq_append_getElem hlt)
      rw [iota_length] at d2
      generalize xs[k] = x at *
      have i1 : (k : Int) < (xs.length : Int) := by omega
      have i2 : ¬ z + 1 + 1 + (x.proof.length : Int) < 0 := by omega
      have HZN := hide (show z + 1 + 1 + x.proof.length = markAnsE k0 (xs.take (k + 1)) by rw [unhide HTK, (unhide HSN).2, ← unhide HZ]; rfl)
      clear hlc hltm
      go_wp2_with fail
      refine (heldIntS_any A1 e1 x.proof.length (z + 1 + 1) w q1.rd (by omega) (by omega) (by omega)).mono ?_
      rintro e w' ⟨rfl, rfl⟩
      go_wp2
      go_round
      case rel => exact ⟨k + 1, _, by omega, by go_num, rfl, HZN⟩
      case measure => simp [intOf]; omega
    · obtain rfl : k = xs.length := by omega
      rw [List.take_length] at HZ
      go_wp2
      go_ret
      exact ⟨reti (unhide HZ), rfl⟩
end Go.Proofs.YtmpdopjailomlaaGreat
