/- Slices of effects, in the laws: mark, held. -/
import Derived.Test.YtiaodcjocogkkaaEffS
namespace Go.Proofs.Ytiaodcjocogkkaa
open Go.RowKit
set_option linter.unusedVariables false
set_option linter.unusedSimpArgs false

def markEff1 (k : Int) (x : Eff) : Eff := ⟨k % 3 == 0, markEnt (k + 1) x.reads.length, markEnt (k + 1 + x.reads.length * 2) x.writes.length⟩
def markNext (k : Int) (x : Eff) : Int := k + 1 + x.reads.length * 2 + x.writes.length * 2
def markEffs : Int → List Eff → List Eff
  | _, [] => []
  | k, x :: xs => markEff1 k x :: markEffs (markNext k x) xs
def markEnd : Int → List Eff → Int
  | k, [] => k
  | k, x :: xs => markEnd (markNext k x) xs
theorem markEnd_eq (k : Int) (xs : List Eff) : markEnd k xs = k + (xs.length + 2 * effTot xs : Nat) := by
  induction xs generalizing k with
  | nil => simp [markEnd, effTot]
  | cons x xs ih => rw [markEnd, ih, markNext, effTot, List.length_cons]; omega
theorem markEffs_len (k : Int) (xs : List Eff) : (markEffs k xs).length = xs.length := by
  induction xs generalizing k with
  | nil => rfl
  | cons x xs ih => rw [markEffs, List.length_cons, ih, List.length_cons]
theorem markEffs_tot (k : Int) (xs : List Eff) : effTot (markEffs k xs) = effTot xs := by
  induction xs generalizing k with
  | nil => rfl
  | cons x xs ih => rw [markEffs, effTot, effTot, ih, markEff1, markEnt_length, markEnt_length]
theorem markEffs_snoc (k : Int) (xs : List Eff) (x : Eff) : markEffs k (xs ++ [x]) = markEffs k xs ++ [markEff1 (markEnd k xs) x] ∧ markEnd k (xs ++ [x]) = markNext (markEnd k xs) x := by
  induction xs generalizing k with
  | nil => exact ⟨rfl, rfl⟩
  | cons y xs ih =>
    obtain ⟨h1, h2⟩ := ih (markNext k y)
    exact ⟨by rw [List.cons_append, markEffs, h1, markEffs, markEnd, List.cons_append], by rw [List.cons_append, markEnd, h2, markEnd]⟩
theorem markEffs_get (k : Int) (xs : List Eff) (j : Nat) (hj : j < xs.length) : (markEffs k xs)[j]? = some (markEff1 (markEnd k (xs.take j)) xs[j]) := by
  induction xs generalizing k j with
  | nil => simp at hj
  | cons x xs ih =>
    cases j with
    | zero => rfl
    | succ j => simpa [markEffs, markEnd] using ih (markNext k x) j (by simpa using hj)
theorem effTot_append (xs ys : List Eff) : effTot (xs ++ ys) = effTot xs + effTot ys := by
  induction xs with
  | nil => simp [effTot]
  | cons x xs ih => rw [List.cons_append, effTot, effTot, ih]; omega
theorem set_flatten (s : Nat) (vs : List (List Value)) (hv : ∀ v ∈ vs, v.length = s) (k : Nat) (hk : k < vs.length) (j : Nat) (hj : j < s) (u : Value) : vs.flatten.set (k * s + j) u = (vs.set k (vs[k].set j u)).flatten := by
  induction vs generalizing k with
  | nil => simp at hk
  | cons y vs ih =>
    have hy := hv y (by simp)
    cases k with
    | zero =>
      rw [Nat.zero_mul, Nat.zero_add, List.flatten_cons, List.set_append_left _ _ (by omega)]
      rfl
    | succ k =>
      rw [List.flatten_cons, List.set_append_right _ _ (by rw [hy, Nat.add_mul]; omega), hy, show (k + 1) * s + j - s = k * s + j by rw [Nat.add_mul]; omega, ih (fun v h => hv v (by simp [h])) k (by simpa using hk)]
      rfl
theorem AllO.set {α : Type} {O : ORel α} {w : World} {xs : List α} {vs : List (List Value)} {fs : List (List Nat)} (h : AllO O w xs vs fs) {k : Nat} (hk : k < xs.length) {x : α} {cs : List Value} (hx : ∀ f, fs[k]? = some f → O x w cs f) : AllO O w (xs.set k x) (vs.set k cs) fs := by
  induction xs generalizing vs fs k with
  | nil => simp at hk
  | cons y xs ih =>
    cases vs with
    | nil => cases fs <;> exact h.elim
    | cons v vs =>
      cases fs with
      | nil => exact h.elim
      | cons f fs =>
        cases k with
        | zero => exact ⟨hx f rfl, h.2⟩
        | succ k => exact ⟨h.1, ih h.2 (by simpa using hk) fun f hf => hx f (by simpa using hf)⟩
/-- one thing changes its cells and its own blocks; the others do not -/
theorem AllO.upd {α : Type} {O : ORel α} {R : Rel α} (G : OGood O R) {w w' : World} {xs : List α} {vs : List (List Value)} {fs : List (List Nat)} (h : AllO O w xs vs fs) (hnd : fs.flatten.Nodup) {k : Nat} (hk : k < xs.length) {x : α} {cs : List Value} {f : List Nat}
    (hf : fs[k]? = some f) (hx : O x w' cs f) (hkeep : ∀ q, q ∉ f → q ∈ fs.flatten → q < w.heap.size → w'.heap[q]? = w.heap[q]?) : AllO O w' (xs.set k x) (vs.set k cs) fs := by
  induction xs generalizing vs fs k with
  | nil => simp at hk
  | cons y xs ih =>
    cases vs with
    | nil => cases fs <;> exact h.elim
    | cons v vs =>
      cases fs with
      | nil => exact h.elim
      | cons g fs =>
        rw [List.flatten_cons, List.nodup_append] at hnd
        obtain ⟨n1, n2, n3⟩ := hnd
        cases k with
        | zero =>
          have : g = f := by simpa using hf
          subst this
          exact ⟨hx, h.2.keep G fun q hq hqw => hkeep q (fun hg => n3 q hg q hq rfl) (by rw [List.flatten_cons]; exact List.mem_append_right _ hq) hqw⟩
        | succ k =>
          have hf' : fs[k]? = some f := by simpa using hf
          have hmem : ∀ q ∈ f, q ∈ fs.flatten := fun q hq => List.mem_flatten.2 ⟨f, List.mem_of_getElem? hf', hq⟩
          exact ⟨G.keep h.1 fun q hq hqw => hkeep q (fun hqf => n3 q hq q (hmem q hqf) rfl) (by rw [List.flatten_cons]; exact List.mem_append_left _ hq) hqw,
            ih h.2 n2 (by simpa using hk) hf' fun q hq hq2 hqw => hkeep q hq (by rw [List.flatten_cons]; exact List.mem_append_right _ hq2) hqw⟩
set_option maxHeartbeats 1000000 in
theorem markEffectS_any (A : Option Addr) (c : Nat) (k0 : Int) (xs : List Eff) (fp : List Nat) (w : World) (h : OwnD effO 71 3 w A c xs fp) (h0 : 0 ≤ k0) (h1 : markEnd k0 xs ≤ 576460752303423488) :
    Calls Try.prog 21 #[.slice A xs.length c, .int .i64 k0] w fun e w' => e = .returned (.int .i64 (markEnd k0 xs)) ∧ OwnD effO 71 3 w' A c (markEffs k0 xs) fp ∧ Chg (fun q => q ∈ fp) w w' := by
  obtain ⟨vs, fs, hall, hown, hfp, hnd⟩ := h
  have HFP := hide hfp
  have HND := hide hnd
  have HNF := hide (show fs.flatten.Nodup by rw [hfp, List.nodup_append] at hnd; exact hnd.2.1)
  have HAF := hide (show ∀ q ∈ blk A, q ∉ fs.flatten by rw [hfp, List.nodup_append] at hnd; exact fun q hq hq2 => hnd.2.2 q hq q hq2 rfl)
  have hxl : (xs.length : Int) ≤ 576460752303423488 := by rw [markEnd_eq] at h1; omega
  clear hfp hnd
  go_enter Try.func21, Try.ntmps21
  go_wp2
  go_loopw [1, 5] (fun kk i wr => ∃ (k : Nat) (z : Int) (vs : List (List Value)), k ≤ xs.length ∧ i = .int .i64 k ∧ kk = .int .i64 z ∧ Hid (z = markEnd k0 (xs.take k)) ∧ AllO effO wr (markEffs k0 (xs.take k) ++ xs.drop k) vs fs ∧ wr.ownsRow 0 71 3 (.slice A xs.length c) xs.length vs.flatten ∧ Chg (fun q => q ∈ fp) w wr) (fun _ i _ => xs.length - (intOf i).toNat)
  case atStart => exact ⟨0, k0, vs, Nat.zero_le _, rfl, rfl, hide rfl, by simpa [markEffs] using hall, hown, Chg.refl _ _⟩
  case round =>
    clear hall hown
    obtain ⟨k, z, vs, hk, rfl, rfl, HZ, hall, hown, hch⟩ := hrel
    by_cases hlt : k < xs.length
    · have hml : (markEffs k0 (xs.take k)).length = k := by rw [markEffs_len, List.length_take]; omega
      have hkl : k < (markEffs k0 (xs.take k) ++ xs.drop k).length := by rw [List.length_append, hml, List.length_drop]; omega
      have hget : (markEffs k0 (xs.take k) ++ xs.drop k)[k]'hkl = xs[k] := by rw [List.getElem_append_right (by omega)]; simp [hml]
      obtain ⟨hv, hf, -, hO, -⟩ := hall.split k hkl
      have hve := hall.each effO_good eff_good
      rw [hget] at hO
      obtain ⟨g, rfl, hg0, hgs⟩ := own_addr hown (by omega)
      have hfk : fs[k]? = some fs[k] := List.getElem?_eq_getElem hf
      have HSN := hide (markEffs_snoc k0 (xs.take k) xs[k])
      have hzb : 0 ≤ z ∧ z + 1 + 2 * (xs[k].reads.length : Int) + 2 * (xs[k].writes.length : Int) ≤ 576460752303423488 := by
        have e1 := unhide HZ
        have e2 : effTot (xs.take k) + (xs[k].reads.length + xs[k].writes.length) ≤ effTot xs := by
          have e3 : xs = xs.take k ++ xs[k] :: xs.drop (k + 1) := by rw [← drop_get xs k hlt, List.take_append_drop]
          have e4 := congrArg effTot e3
          rw [effTot_append, effTot] at e4
          omega
        rw [markEnd_eq] at e1 h1
        rw [List.length_take] at e1
        omega
      have HTK := hide (List.take_succ_eq_append_getElem hlt)
      have HDR := hide (drop_get xs k hlt)
      generalize hxk : xs[k] = x at *
      clear hxk hget
      obtain ⟨A1, c1, A2, c2, hvk, o1, o2, hfp⟩ := hO
      have HFK := hide hfp
      have hsf := set_flatten 3 vs hve k hv 0 (by omega) (.bool (z % 3 == 0))
      rw [hvk] at hsf
      have hs3 := own_set hown (k * 3) (.bool (z % 3 == 0))
      rw [Nat.add_zero] at hsf
      rw [hsf] at hs3
      have hvl : vs.flatten.length = xs.length * 3 := hown.1
      have hcc : ∀ j, j < 3 → wr.cell? ⟨g, k * 3 + j, none⟩ = (effV x A1 c1 A2 c2)[j]? := fun j hj => by
        have h5 := (hall.rd effO_good eff_good (P := fun _ => True) fun _ _ => trivial).flat_get eff_good hv hj
        rw [hvk] at h5
        obtain ⟨h6, h7⟩ := List.getElem?_eq_some_iff.1 (show vs.flatten[k * 3 + j]? = some (vs.flatten[k * 3 + j]'(by omega)) from List.getElem?_eq_getElem _)
        rw [own_cell hown (k * 3 + j) (by omega), ← h5]
        exact (List.getElem?_eq_getElem _).symm
      have d0 : wr.cell? ⟨g, k * 3, none⟩ = some (.bool x.done) := hcc 0 (by omega)
      have d1 : wr.cell? ⟨g, k * 3 + 1, none⟩ = some (.slice A1 x.reads.length c1) := hcc 1 (by omega)
      have d2 : wr.cell? ⟨g, k * 3 + 2, none⟩ = some (.slice A2 x.writes.length c2) := hcc 2 (by omega)
      have z0 : wr.frozen? ⟨g, k * 3, none⟩ = false := own_frozen hown _
      have hgA : g ∉ fs.flatten := unhide HAF g (by simp [blk])
      have hinf : ∀ q ∈ fs[k], q ∈ fs.flatten := fun q hq => List.mem_flatten.2 ⟨fs[k], List.getElem_mem hf, hq⟩
      have hg1 : ∀ q, A1 = some ⟨q, 0, none⟩ → q ≠ g := fun q hq e => hgA (by rw [← e]; exact hinf q (by rw [hfp]; exact List.mem_append_left _ (mem_blk hq)))
      have hg2 : ∀ q, A2 = some ⟨q, 0, none⟩ → q ≠ g := fun q hq e => hgA (by rw [← e]; exact hinf q (by rw [hfp]; exact List.mem_append_right _ (mem_blk hq)))
      have h12 : ∀ q, A1 = some ⟨q, 0, none⟩ → A2 ≠ some ⟨q, 0, none⟩ := fun q hq hq2 => by
        have hn := (unhide HNF).sublist (List.sublist_flatten_of_mem (List.getElem_mem hf))
        rw [hfp, List.nodup_append] at hn
        exact hn.2.2 q (mem_blk hq) q (mem_blk hq2) rfl
      have ch1 : Chg (fun q => q = g) wr (wr.setCell ⟨g, k * 3, none⟩ (.bool (z % 3 == 0))) := (Chg.refl (fun q => q = g) wr).setCell (.inl rfl) _
      have o1' := own_chg o1 ch1 (fun q hq e => hg1 q hq e)
      have o2' := own_chg o2 ch1 (fun q hq e => hg2 q hq e)
      have i1 : (k : Int) < (xs.length : Int) := by omega
      have e1 : (wr.setCell ⟨g, k * 3, none⟩ (.bool (z % 3 == 0))).cell? ⟨g, k * 3 + 1, none⟩ = some (.slice A1 x.reads.length c1) := by rw [World.cell?_setCell_other _ _ _ _ (fun e => by injection e; omega)]; exact d1
      have e2 : (wr.setCell ⟨g, k * 3, none⟩ (.bool (z % 3 == 0))).cell? ⟨g, k * 3 + 2, none⟩ = some (.slice A2 x.writes.length c2) := by rw [World.cell?_setCell_other _ _ _ _ (fun e => by injection e; omega)]; exact d2
      have HALL := hide hall
      clear hall hcc hvk hsf
      go_wp2_with fail
      generalize (wr.setCell ⟨g, k * 3, none⟩ (.bool (z % 3 == 0))) = w1 at *
      refine (markEntryS_any A1 c1 0 (z + 1) x.reads w1 o1' (by omega) (by omega) (by omega)).mono ?_
      rintro e w2 ⟨rfl, m1, ch2⟩
      have hs3' := own_chg hs3 ch2 (fun q hq e => by injection hq with hq; injection hq with hq; subst hq; exact hg1 _ e rfl)
      have f2 : w2.cell? ⟨g, k * 3 + 2, none⟩ = some (.slice A2 x.writes.length c2) := ch2.cell (p := ⟨g, k * 3 + 2, none⟩) e2 (fun e => hg1 g e rfl)
      have o2'' := own_chg o2' ch2 (fun q hq e => h12 q e hq)
      go_wp2_with fail
      refine (markEntryS_any A2 c2 0 (z + 1 + x.reads.length * 2) x.writes w2 o2'' (by omega) (by omega) (by omega)).mono ?_
      rintro e w3 ⟨rfl, m2, ch3⟩
      have hs4 := own_chg hs3' ch3 (fun q hq e => by injection hq with hq; injection hq with hq; subst hq; exact hg2 _ e rfl)
      have m1' := own_chg m1 ch3 (fun q hq e => h12 q hq e)
      have hmo : effO (markEff1 z x) w3 (effV (markEff1 z x) A1 c1 A2 c2) fs[k] := ⟨A1, c1, A2, c2, rfl, by simpa [markEff1, markEnt_length] using m1', by simpa [markEff1, markEnt_length] using m2, hfp⟩
      have hks : ∀ q, q ∉ fs[k] → q ≠ g → q < wr.heap.size → w3.heap[q]? = wr.heap[q]? := fun q hq hqg hqw => by
        have n1 : A1 ≠ some ⟨q, 0, none⟩ := fun e => hq (by rw [hfp]; exact List.mem_append_left _ (mem_blk e))
        have n2 : A2 ≠ some ⟨q, 0, none⟩ := fun e => hq (by rw [hfp]; exact List.mem_append_right _ (mem_blk e))
        have t1 := ch1.size
        have t2 := ch2.size
        exact ((ch3.block q (by omega) n2).trans (ch2.block q (by omega) n1)).trans (ch1.block q hqw hqg)
      have hup := (unhide HALL).upd effO_good (unhide HNF) hkl hfk hmo (fun q hq hq2 hqw => hks q hq (fun e => hgA (e ▸ hq2)) hqw)
      have hchg : Chg (fun q => q ∈ fp) w w3 := by
        have hgp : g ∈ fp := by rw [unhide HFP]; simp [blk]
        have t1 : Chg (fun q => q ∈ fp) wr w1 := ch1.mono fun q _ e => e ▸ hgp
        have t2 : Chg (fun q => q ∈ fp) w1 w2 := ch2.mono fun q _ e => by rw [unhide HFP]; exact List.mem_append_right _ (hinf q (by rw [hfp]; exact List.mem_append_left _ (mem_blk e)))
        have t3 : Chg (fun q => q ∈ fp) w2 w3 := ch3.mono fun q _ e => by rw [unhide HFP]; exact List.mem_append_right _ (hinf q (by rw [hfp]; exact List.mem_append_right _ (mem_blk e)))
        exact ((hch.trans t1).trans t2).trans t3
      have hset : (markEffs k0 (xs.take k) ++ xs.drop k).set k (markEff1 z x) = markEffs k0 (xs.take (k + 1)) ++ xs.drop (k + 1) := by
        rw [unhide HTK, (unhide HSN).1, ← unhide HZ, List.set_append_right _ _ (by omega), hml, Nat.sub_self, unhide HDR, List.set_cons_zero, List.append_assoc]
        rfl
      rw [hset] at hup
      have hvs : (effV x A1 c1 A2 c2).set 0 (.bool (z % 3 == 0)) = effV (markEff1 z x) A1 c1 A2 c2 := by simp [effV, markEff1, markEnt_length]
      rw [hvs] at hs4
      have HUP := hide hup
      have HS4 := hide hs4
      have HCH := hide hchg
      have HZN := hide (show z + 1 + x.reads.length * 2 + x.writes.length * 2 = markEnd k0 (xs.take (k + 1)) by rw [unhide HTK, (unhide HSN).2, ← unhide HZ]; rfl)
      clear hset hup hs4 hchg hvs hks hmo m1 m1' m2 o1 o2 o1' o2' o2'' hs3 hs3' ch1 ch2 ch3 hfp hve hown hg1 hg2 h12 hinf hgA hfk d0 d1 d2 e1 e2
      go_wp2
      go_roundw
      case rel => exact ⟨k + 1, _, _, by omega, by go_num, rfl, HZN, unhide HUP, unhide HS4, unhide HCH⟩
      case measure => simp [intOf]; omega
    · obtain rfl : k = xs.length := by omega
      rw [List.take_length] at HZ hall
      rw [List.drop_length, List.append_nil] at hall
      go_wp2
      go_ret
      exact ⟨reti (unhide HZ), ⟨vs, fs, hall, by rw [markEffs_len]; exact hown, unhide HFP, unhide HND⟩, hch⟩
end Go.Proofs.Ytiaodcjocogkkaa
