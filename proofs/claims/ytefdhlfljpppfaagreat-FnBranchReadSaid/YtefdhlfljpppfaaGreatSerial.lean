/- Serial runs of the program: RunSerial, RunAction; effects compared; FirstWrong. -/
import Derived.Test.YtefdhlfljpppfaaGreatRunAll
import Derived.Test.YtefdhlfljpppfaaGreatSameS
namespace Go.Proofs.YtefdhlfljpppfaaGreat
open Go.RowKit
set_option linter.unusedVariables false
set_option linter.unusedSimpArgs false
attribute [local go_sem ↓] Go.wp_at_zero Go.wp_at_succ

def serialS (s : List Ent) (al : List Act) : List Ent := if storeB s = true ∧ actsB al = true then storeL (runAllV (valsL s) al) else []
def serialE (s : List Ent) (al : List Act) : List Eff := if storeB s = true ∧ actsB al = true then runAllE (valsL s) al else []
theorem serialE_small (s : List Ent) (al : List Act) : ∀ x ∈ serialE s al, x.reads.length ≤ 2 ∧ x.writes.length ≤ 2 := by
  unfold serialE
  split
  · exact runAllE_small _ _
  · intro x hx; cases hx
theorem serialE_len (s : List Ent) (al : List Act) : (serialE s al).length ≤ 10 := by
  unfold serialE
  split
  · rename_i h
    rw [runAllE_len]
    exact (actsB_yes h.2).1
  · simp
theorem serialS_len (s : List Ent) (al : List Act) : (serialS s al).length ≤ 32 := by
  unfold serialS
  split
  · exact storeL_len _
  · simp
theorem acts_all {al : List Act} (h : actsB al = true) : ∀ a ∈ al, actB a = true := fun a ha => by
  obtain ⟨k, hk, rfl⟩ := List.getElem_of_mem ha
  exact (actsB_yes h).2 k hk
set_option maxRecDepth 100000 in
set_option maxHeartbeats 1000000 in
theorem runSerial_impl (A : Option Addr) (ca : Nat) (s : List Ent) (B : Option Addr) (cb : Nat) (al : List Act) (w : World) (ha : Rd w A (s.flatMap encE)) (hla : s.length ≤ 4611686018427387904) (hb : Rd w B (al.flatMap encA)) (hlb : al.length ≤ 4611686018427387904) :
    Calls Tryz.prog 86 #[.slice A s.length ca, .slice B al.length cb] w fun e w' => ∃ A1 c1 A2 c2, e = .returned (.tuple #[.slice A1 (serialS s al).length c1, .slice A2 (serialE s al).length c2]) ∧ w'.ownsRow w.heap.size 85 2 (.slice A1 (serialS s al).length c1) (serialS s al).length ((serialS s al).flatMap encE) ∧ ((serialE s al).length ≤ c2 ∧ c2 ≤ maxLen) ∧ RdD effR (fun k => w.heap.size ≤ k) w' A2 (serialE s al) ∧ Below w.heap.size w w' := by
  cases hsa : storeB s
  · have HL := hide (show serialS s al = [] by simp [serialS, hsa])
    have HM := hide (show serialE s al = [] by simp [serialE, hsa])
    go_enter Tryz.func86, Tryz.ntmps86
    go_wp2_with fail
    refine (storeB_impl A ca s w ha hla).mono ?_
    rintro e w1 ⟨rfl, b1⟩
    rw [hsa]
    go_wp2
    go_ret2
    rw [unhide HL, unhide HM]
    exact ⟨none, 0, none, 0, rfl, own_nil _ _ _ _, ⟨Nat.le_refl _, by simp [maxLen]⟩, RdD.nil _ _ _ _, b1⟩
  cases hab : actsB al
  · have HL := hide (show serialS s al = [] by simp [serialS, hab])
    have HM := hide (show serialE s al = [] by simp [serialE, hab])
    go_enter Tryz.func86, Tryz.ntmps86
    go_wp2_with fail
    refine (storeB_impl A ca s w ha hla).mono ?_
    rintro e w1 ⟨rfl, b1⟩
    rw [hsa]
    go_wp2_with fail
    refine (actionsValid_impl B cb al w1 (hb.new b1) hlb).mono ?_
    rintro e w2 ⟨rfl, b2⟩
    rw [hab]
    go_wp2
    go_ret2
    rw [unhide HL, unhide HM]
    exact ⟨none, 0, none, 0, rfl, own_nil _ _ _ _, ⟨Nat.le_refl _, by simp [maxLen]⟩, RdD.nil _ _ _ _, bthen b1 b2⟩
  have HL := hide (show serialS s al = storeL (runAllV (valsL s) al) by unfold serialS; rw [if_pos ⟨hsa, hab⟩])
  have HM := hide (show serialE s al = runAllE (valsL s) al by unfold serialE; rw [if_pos ⟨hsa, hab⟩])
  have HKS := hide (store_keys hsa)
  have HV := hide (show valOk (valsL s) from valOk_vals (show evOk 1 (-1) s = true from hsa) (by omega))
  have HA := hide (acts_all hab)
  have hal := (actsB_yes hab).1
  go_enter Tryz.func86, Tryz.ntmps86
  go_wp2_with fail
  refine (storeB_impl A ca s w ha hla).mono ?_
  rintro e w1 ⟨rfl, b1⟩
  rw [hsa]
  go_wp2_with fail
  refine (actionsValid_impl B cb al w1 (hb.new b1) hlb).mono ?_
  rintro e w2 ⟨rfl, b2⟩
  rw [hab]
  have hB2 := bthen b1 b2
  clear hsa hab
  go_wp2_with fail
  refine (valuesOf_any A ca s w2 (ha.new hB2) hla (unhide HKS)).mono ?_
  rintro e w3 ⟨rfl, b3⟩
  have hB3 := bthen hB2 b3
  generalize valsL s = v at *
  go_wp2_with fail
  refine (runAll_any v B cb al w3 (unhide HV) (hb.new hB3) (unhide HA) (by omega)).mono ?_
  rintro e w4 ⟨A4, c4, rfl, hc4, r4, b4⟩
  have hs3 := hB3.size
  replace r4 := r4.mono eff_good (Q := fun k => w.heap.size ≤ k) fun q hq _ => by omega
  have hB4 := bthen hB3 b4
  have HVO := hide (valOk_runAll (unhide HV) (unhide HA))
  generalize runAllV v al = u at *
  have hul := (unhide HVO).1
  have hsU : (vA u).size = 32 := by rw [vA_size, hul]
  obtain ⟨k0, kU, bU⟩ := one_vals w4 76 u
  have hB5 := bthen hB4 bU
  have r5 := r4.new eff_good bU
  go_wp2_with (first | (refine wpList_store_row rfl 76 (.tmp 6) (.tmp 21) rfl w4.heap.size (vA u) rfl rfl 76 _ k0 (by rw [hsU]; exact info_vals) (by rw [hsU]; rfl) (vA_one _) ?_) | (refine wpList_load_row rfl 76 (.tmp 6) rfl w4.heap.size rfl 76 (vA u) (0, 0) _ kU Tryz.underlying76 rfl (by rw [hsU]; exact info_vals) ?_))
  refine (store_any u _ hul).mono ?_
  rintro e w6 ⟨A6, c6, rfl, o6, b6⟩
  go_wp2
  go_ret2
  rw [unhide HL, unhide HM]
  exact ⟨A6, c6, A4, c4, rfl, own_base o6 hB5.size, hc4, r5.new eff_good b6, bthen hB5 b6⟩
/-- the first effect that is not right -/
def fwGo : Nat → List Eff → List Eff → Nat
  | n, x :: xs, y :: ys => if x = y then fwGo (n + 1) xs ys else n
  | n, _, _ => n
def firstW (s : List Ent) (al : List Act) (es : List Eff) : Int := if storeB s = true ∧ actsB al = true ∧ es.length = al.length then (fwGo 0 es (serialE s al) : Int) else -1
theorem fwGo_hit {es ws : List Eff} (n k : Nat) (hk : k < es.length) (hw : k < ws.length) (h : ∀ j (h1 : j < es.length) (h2 : j < ws.length), j < k → es[j] = ws[j]) (hne : es[k] ≠ ws[k]) : fwGo n es ws = n + k := by
  induction k generalizing n es ws with
  | zero =>
    cases es with
    | nil => simp at hk
    | cons x xs => cases ws with | nil => simp at hw | cons y ys => rw [fwGo, if_neg (by simpa using hne)]; rfl
  | succ k ih =>
    cases es with
    | nil => simp at hk
    | cons x xs =>
      cases ws with
      | nil => simp at hw
      | cons y ys =>
        have h0 := h 0 (by simp) (by simp) (by omega)
        simp only [List.getElem_cons_zero] at h0
        rw [fwGo, if_pos h0, ih (n + 1) (by simpa using hk) (by simpa using hw) (fun j h1 h2 hj => by have := h (j + 1) (by simpa using h1) (by simpa using h2) (by omega); simpa using this) (by simpa using hne)]
        omega
theorem fwGo_all {es ws : List Eff} (n : Nat) (hl : es.length = ws.length) (h : ∀ j (h1 : j < es.length) (h2 : j < ws.length), es[j] = ws[j]) : fwGo n es ws = n + es.length := by
  induction es generalizing n ws with
  | nil => cases ws <;> rfl
  | cons x xs ih =>
    cases ws with
    | nil => simp at hl
    | cons y ys =>
      have h0 := h 0 (by simp) (by simp)
      simp only [List.getElem_cons_zero] at h0
      rw [fwGo, if_pos h0, ih (n + 1) (by simpa using hl) (fun j h1 h2 => by have := h (j + 1) (by simpa using h1) (by simpa using h2); simpa using this), List.length_cons]
      omega
end Go.Proofs.YtefdhlfljpppfaaGreat
