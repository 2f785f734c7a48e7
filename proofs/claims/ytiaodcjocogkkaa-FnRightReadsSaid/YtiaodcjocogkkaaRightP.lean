/- Right reads, plain: a serial run has right reads, and effects that fit their reads are serial. No program is in sight here. -/
import Derived.Test.YtiaodcjocogkkaaRunI
import Derived.Test.YtiaodcjocogkkaaRunSer
import Derived.Test.YtiaodcjocogkkaaEffD
namespace Go.Proofs.Ytiaodcjocogkkaa
open Go.RowKit
set_option linter.unusedVariables false
set_option linter.unusedSimpArgs false

theorem runV_congr {a : Act} {v u : List Int} (ha : actB a = true) (h : ∀ k ∈ actReads a, atV v k = atV u k) : runV v a = runV u a := by
  obtain ⟨_, _, _, hk⟩ := actB_bd ha
  by_cases hsd : a.dst = a.src
  · rcases actK_kind hk with e | e | e | e | e | e
    · simp [runV, actEff, actDone, actReads, actWrites, wAt, e]
    all_goals
      have h0 : atV v a.src = atV u a.src := h a.src (by simp [actReads, e, hsd])
      unfold runV
      rw [hsd, h0]
  · have hds : ¬ a.src = a.dst := fun e => hsd e.symm
    rcases actK_kind hk with e | e | e | e | e | e
    · simp [runV, actEff, actDone, actReads, actWrites, wAt, e]
    · have h0 : atV v a.src = atV u a.src := h a.src (by simp [actReads, e])
      simp [runV, actEff, actDone, actReads, actWrites, wAt, e, h0]
    · have h0 : atV v a.src = atV u a.src := h a.src (by simp [actReads, e])
      simp [runV, actEff, actDone, actReads, actWrites, wAt, e, h0]
    all_goals
      have h0 : atV v a.src = atV u a.src := h a.src (by simp [actReads, e, hds])
      have h1 : atV v a.dst = atV u a.dst := h a.dst (by simp [actReads, e, hds])
      unfold runV
      rw [h0, h1]
theorem reads_bd {a : Act} (ha : actB a = true) {k : Int} (h : k ∈ actReads a) : 0 ≤ k ∧ k ≤ 31 := by
  obtain ⟨h1, h2, _⟩ := actB_bd ha
  rcases actReads_mem h with rfl | rfl
  · exact h1
  · exact h2
theorem vals_apply {s d : List Ent} (hs : storeB s = true) (hd : diffB d = true) : valsL (applyL s d) = setAll (valsL s) d := by
  unfold applyL
  rw [if_pos ⟨hs, hd⟩]
  exact (putAll_ok hs (show evOk 0 (-1) d = true from hd) (by omega) (by omega)).2
theorem right_serial (al : List Act) (s : List Ent) (hs : storeB s = true) (ha : ∀ a ∈ al, actB a = true) : rightGo s (runAllE (valsL s) al) = true := by
  induction al generalizing s with
  | nil => rfl
  | cons a al ih =>
    have ha1 := ha a (List.mem_cons_self ..)
    have hv : valOk (valsL s) := valOk_vals (show evOk 1 (-1) s = true from hs) (by omega)
    have hd := runV_diffB hv ha1
    rw [runAllE, rightGo, hd, Bool.true_and, Bool.and_eq_true]
    refine ⟨?_, ?_⟩
    · rw [runV_reads, readsOk, List.all_eq_true]
      intro r hr
      obtain ⟨k, hk, rfl⟩ := List.mem_map.1 hr
      have hb := reads_bd ha1 hk
      simp only [Bool.and_eq_true, beq_iff_eq]
      exact ⟨inB_true.2 hb, (atV_vals hs hb).symm⟩
    · have := ih (applyL s (runV (valsL s) a).writes) (applyL_storeB hs hd) (fun b hb => ha b (List.mem_cons_of_mem _ hb))
      rwa [vals_apply hs hd] at this
theorem right_fit (al : List Act) (es : List Eff) (s : List Ent) (hs : storeB s = true) (ha : ∀ a ∈ al, actB a = true) (hl : es.length = al.length)
    (hf : ∀ k (h1 : k < es.length) (h2 : k < al.length), storeB es[k].reads = true ∧ ownE es[k].reads al[k] = es[k]) (hr : rightGo s es = true) : es = runAllE (valsL s) al := by
  induction al generalizing s es with
  | nil =>
    cases es with
    | nil => rfl
    | cons => simp at hl
  | cons a al ih =>
    cases es with
    | nil => simp at hl
    | cons m ms =>
      have ha1 := ha a (List.mem_cons_self ..)
      obtain ⟨hm, ho⟩ := hf 0 (by simp) (by simp)
      simp only [List.getElem_cons_zero] at hm ho
      rw [ownE_yes hm ha1] at ho
      rw [rightGo, Bool.and_eq_true, Bool.and_eq_true] at hr
      obtain ⟨hd, hro, hrest⟩ := hr
      have hrd := runV_reads (valsL m.reads) a
      rw [ho] at hrd
      have heq : runV (valsL m.reads) a = runV (valsL s) a := by
        refine runV_congr ha1 fun k hk => ?_
        have hb := reads_bd ha1 hk
        rw [readsOk, List.all_eq_true] at hro
        have hmem : (⟨k, atV (valsL m.reads) k⟩ : Ent) ∈ (actReads a).map (fun k => (⟨k, atV (valsL m.reads) k⟩ : Ent)) := List.mem_map.2 ⟨k, hk, rfl⟩
        rw [← hrd] at hmem
        have := hro _ hmem
        simp only [Bool.and_eq_true, beq_iff_eq] at this
        rw [atV_vals hs hb]
        exact this.2.symm
      have hme : m = runV (valsL s) a := by rw [← heq, ho]
      have := ih ms (applyL s m.writes) (applyL_storeB hs hd) (fun b hb => ha b (List.mem_cons_of_mem _ hb)) (by simpa using hl) (fun k h1 h2 => hf (k + 1) (by simpa using h1) (by simpa using h2)) hrest
      rw [vals_apply hs hd] at this
      rw [runAllE, ← hme, ← this]
theorem rightB_serial {s : List Ent} {al : List Act} (hs : storeB s = true) (ha : actsB al = true) : rightB s (serialE s al) = true := by
  unfold rightB serialE
  rw [if_pos ⟨hs, ha⟩, hs, Bool.true_and]
  exact right_serial al s hs (acts_all ha)
theorem rightB_fit {s : List Ent} {al : List Act} {es : List Eff} (hs : storeB s = true) (ha : actsB al = true) (hl : es.length = al.length)
    (hf : ∀ k (h1 : k < es.length) (h2 : k < al.length), storeB es[k].reads = true ∧ ownE es[k].reads al[k] = es[k]) (hr : rightB s es = true) : es = serialE s al := by
  unfold serialE
  rw [if_pos ⟨hs, ha⟩]
  rw [rightB, hs, Bool.true_and] at hr
  exact right_fit al es s hs (acts_all ha) hl hf hr
/-- a row of entries does not lie in the box of an effect -/
theorem ents_not_box {w : World} {q : Nat} {t : TypeId} {P : Nat → Prop} {A : Option Addr} {es : List Ent} {d : Bool} {a b : Option Addr} {n1 c1 n2 c2 : Nat} (hb : Blk w q t #[.bool d, .slice a n1 c1, .slice b n2 c2]) (h : RdP P w A (es.flatMap encE)) : RdP (fun k => k ≠ q) w A (es.flatMap encE) := fun h0 => by
  obtain ⟨g, off, e, hp, hg, hc⟩ := h h0
  refine ⟨g, off, e, ?_, hg, hc⟩
  rintro rfl
  cases es with
  | nil => simp at h0
  | cons x xs =>
    have h1 : w.cell? ⟨g, off + 0, none⟩ = some (.int .i64 x.k) := hc 0 _ rfl
    rcases off with _ | _ | _ | off
    · have := hb.cell 0
      rw [show (⟨g, 0 + 0, none⟩ : Addr) = ⟨g, 0, none⟩ from rfl] at h1
      rw [h1] at this
      cases this
    · have := hb.cell 1
      rw [show (⟨g, 0 + 1 + 0, none⟩ : Addr) = ⟨g, 1, none⟩ from rfl] at h1
      rw [h1] at this
      cases this
    · have := hb.cell 2
      rw [show (⟨g, 0 + 1 + 1 + 0, none⟩ : Addr) = ⟨g, 2, none⟩ from rfl] at h1
      rw [h1] at this
      cases this
    · have := hb.cell (off + 3)
      rw [show (⟨g, off + 1 + 1 + 1 + 0, none⟩ : Addr) = ⟨g, off + 3, none⟩ from rfl] at h1
      rw [h1] at this
      simp at this
end Go.Proofs.Ytiaodcjocogkkaa
