/- Claims that are drawn. -/
import Derived.Test.YtiaodcjocogkkaaDrawE
import Derived.Test.YtiaodcjocogkkaaDrawActs
import Derived.Test.YtiaodcjocogkkaaDeepSet
import Derived.OwnWalk
import Derived.Test.YtiaodcjocogkkaaLocS
namespace Go.Proofs.Ytiaodcjocogkkaa
open Go.RowKit
set_option linter.unusedVariables false
set_option linter.unusedSimpArgs false
attribute [local go_sem ↓] Go.wp_at_zero Go.wp_at_succ

/-- what a drawn claim is -/
def ClaimD (w : World) (g : Nat) (e : Ending) (w' : World) : Prop := ∃ (A : Option Addr) (c : Nat) (s : List Ent) (B : Option Addr) (cb : Nat) (al : List Act) (C : Option Addr) (cc : Nat) (es : List Eff), s.length ≤ 7 ∧ al.length ≤ 11 ∧ es.length ≤ 10 ∧ (∀ x ∈ es, x.reads.length ≤ 3 ∧ x.writes.length ≤ 3) ∧ (es.length ≤ cc ∧ cc ≤ maxLen) ∧ e = .returned (.tuple #[.slice A s.length c, .slice B al.length cb, .slice C es.length cc]) ∧ w'.ownsRow w.heap.size 80 2 (.slice A s.length c) s.length (s.flatMap encE) ∧ w'.ownsRow w.heap.size 75 4 (.slice B al.length cb) al.length (al.flatMap encA) ∧ RdD effR (fun k => w.heap.size ≤ k) w' C es ∧ Chg (fun k => k = g) w w'
theorem claim_end {w W : World} {g qb c4 c cb : Nat} {A B : Option Addr} {xs : List Ent} {al : List Act} {es : List Eff} {vs : List (List Value)} {k : Nat} {x : Eff} {cs : List Value} (hxl : xs.length ≤ 7) (hal : al.length ≤ 11) (hel : es.length ≤ 10) (hsm : ∀ x ∈ es, x.reads.length ≤ 2 ∧ x.writes.length ≤ 2) (hcp : es.length ≤ c4 ∧ c4 ≤ maxLen) (hx : x.reads.length ≤ 3 ∧ x.writes.length ≤ 3) (hqb : w.heap.size ≤ qb) (o1 : W.ownsRow w.heap.size 80 2 (.slice A xs.length c) xs.length (xs.flatMap encE)) (o2 : W.ownsRow w.heap.size 75 4 (.slice B al.length cb) al.length (al.flatMap encA)) (hq : Chg (fun k => k = g) w W)
    (hrow : W.ownsRow 0 71 3 (.slice (some ⟨qb, 0, none⟩) es.length c4) es.length (vs.set k cs).flatten) (hall : AllR effR (fun q => w.heap.size ≤ q) W (es.set k x) (vs.set k cs)) :
    ClaimD w g (.returned (.tuple #[.slice A xs.length c, .slice B al.length cb, .slice (some ⟨qb, 0, none⟩) es.length c4])) W := by
  refine ⟨A, c, xs, B, cb, al, some ⟨qb, 0, none⟩, c4, es.set k x, hxl, hal, by rw [List.length_set]; exact hel, fun y hy => ?_, by rw [List.length_set]; exact hcp, by rw [List.length_set], o1, o2, ⟨_, hall, (own_rdP hrow).mono fun q hq _ => ?_⟩, hq⟩
  · rcases List.mem_or_eq_of_mem_set hy with h | h
    · have := hsm y h; omega
    · rw [h]; exact hx
  · obtain ⟨_, h⟩ := hq; injection h with h; injection h with h; omega
set_option maxRecDepth 100000 in
set_option maxHeartbeats 8000000 in
theorem l20Claim_any (g N : Nat) (w : World) (h : Rdr w g N) (hN : N ≤ 500000) :
    Calls Try.prog 76 #[.pointer (some ⟨g, 0, none⟩)] w fun e w' => ClaimD w g e w' := by
  have hg := h.lt
  go_enter Try.func76, Try.ntmps76
  go_wp2_with fail
  refine (l20Store_any g N 14 _ h (by omega) (by omega) (by omega)).mono ?_
  rintro e w1 ⟨A, c, xs, hxl, rfl, o1, h1, ch1⟩
  have hs1 := ch1.size
  go_wp2_with fail
  refine (l20Actions_any g _ 14 w1 h1 (by omega) (by omega) (by omega)).mono ?_
  rintro e w2 ⟨B, cb, al, hal, rfl, o2, h2, ch2⟩
  replace o1 := own_chg o1 ch2 (fun q hA e => by have := own_rng o1 q hA; omega)
  replace o2 := own_base o2 hs1
  have q2 := ch1.trans ch2
  have hs2 := q2.size
  have HO1 := hide (fun q hA => (own_rng o1 q hA).2)
  have HO2 := hide (fun q hA => (own_rng o2 q hA).2)
  clear ch1 ch2 h h1
  go_wp2_with fail
  refine (runSerial_own A c xs B cb al w2 (own_rd o1) (by omega) (own_rd o2) (by omega)).mono ?_
  rintro e w3 ⟨A3, c3, A4, c4, fp, rfl, -, o4, hfp, b3⟩
  replace o1 := own_new o1 b3
  replace o2 := own_new o2 b3
  have h3 := h2.new b3
  have q3 := q2.trans (Chg.of_new (S := fun k => k = g) b3)
  have hel := serialE_len xs al
  have HSM := hide (serialE_small xs al)
  generalize serialE xs al = es at *
  have HFP := hide (fun q hq => show w.heap.size ≤ q by have := hfp q hq; omega)
  have HSEP := hide hfp
  clear b3 q2 h2 hfp
  have hcp := o4.cap
  have HRET := hide (fun (W : World) (ro : W.ownsRow w.heap.size 80 2 (.slice A xs.length c) xs.length (xs.flatMap encE)) (ra : W.ownsRow w.heap.size 75 4 (.slice B al.length cb) al.length (al.flatMap encA)) (re : OwnD effO 71 3 W A4 c4 es fp) (hq : Chg (fun k => k = g) w W) =>
    show ClaimD w g (.returned (.tuple #[.slice A xs.length c, .slice B al.length cb, .slice A4 es.length c4])) W from
    ⟨A, c, xs, B, cb, al, A4, c4, es, hxl, hal, hel, fun x hx => ⟨by have := (unhide HSM x hx).1; omega, by have := (unhide HSM x hx).2; omega⟩, hcp, rfl, ro, ra, re.rd effO_good eff_good (fun q hq => unhide HFP q hq), hq⟩)
  by_cases h0 : es.length = 0
  · have hd : decide (0 < (es.length : Int)) = false := by simp [h0]
    have hd2 : decide (0 < es.length) = false := by simp [h0]
    have H0 := hide h0
    clear h0
    go_wp2
    go_ret3
    exact unhide HRET _ o1 o2 o4 q3
  have hd : decide (0 < (es.length : Int)) = true := by simp; omega
  have hd2 : decide (0 < es.length) = true := by simp; omega
  go_wp2_with fail
  refine (odd_any g _ 2 w3 h3 (by omega) (by omega) (by omega)).mono ?_
  rintro e w5 ⟨b, rfl, -, h5, ch5⟩
  have hg3 := h3.lt
  replace o1 := own_chg o1 ch5 (fun q hA e => by have := own_rng o1 q hA; omega)
  replace o2 := own_chg o2 ch5 (fun q hA e => by have := own_rng o2 q hA; omega)
  replace o4 := o4.keep effO_good (w' := w5) fun q hq hqw => ch5.block q hqw (fun e => by have := unhide HFP q hq; omega)
  have q5 := q3.trans ch5
  clear ch5 q3 h3
  cases b
  · go_wp2
    go_ret3
    exact unhide HRET _ o1 o2 o4 q5
  go_wp2_with fail
  refine (pick_any g _ (es.length : Int) w5 h5 (by omega) (by omega) (by omega)).mono ?_
  rintro e w6 ⟨k, hk, rfl, h6, ch6⟩
  replace o1 := own_chg o1 ch6 (fun q hA e => by have := own_rng o1 q hA; omega)
  replace o2 := own_chg o2 ch6 (fun q hA e => by have := own_rng o2 q hA; omega)
  replace o4 := o4.keep effO_good (w' := w6) fun q hq hqw => ch6.block q hqw (fun e => by have := unhide HFP q hq; omega)
  have q6 := q5.trans ch6
  clear ch6 q5 h5
  go_wp2_with fail
  refine (pick_any g _ 4 w6 h6 (by omega) (by omega) (by omega)).mono ?_
  rintro e w7 ⟨v, hv, rfl, h7, ch7⟩
  replace o1 := own_chg o1 ch7 (fun q hA e => by have := own_rng o1 q hA; omega)
  replace o2 := own_chg o2 ch7 (fun q hA e => by have := own_rng o2 q hA; omega)
  replace o4 := o4.keep effO_good (w' := w7) fun q hq hqw => ch7.block q hqw (fun e => by have := unhide HFP q hq; omega)
  have q7 := q6.trans ch7
  clear ch7 q6 h6
  have hkl : k < es.length := by omega
  have hs7 := q7.size
  have hv : v = 0 ∨ v = 1 ∨ v = 2 ∨ v = 3 := by omega
  obtain ⟨vs, fs, hall, hown, rfl, hnd⟩ := o4
  obtain ⟨qb, rfl⟩ : ∃ qb, A4 = some ⟨qb, 0, none⟩ := by
    rcases hown.2 with ⟨hv, h9⟩ | ⟨qb, cap, cur, hv, _⟩
    · injection hv with _ h8 _; omega
    · injection hv with hv; exact ⟨qb, hv⟩
  have hqb := unhide HFP qb (List.mem_append_left _ (by simp [blk]))
  have hve := hall.each effO_good eff_good
  have hvl := hall.len.1
  have hfl := hall.len.2
  have hkv : k < vs.length := by omega
  have hrw := hown.1
  have hkf : k < fs.length := by omega
  have HND := hide (fun j (hj : j < fs.length) q (hq : q ∈ fs[j]) => show q ≠ qb by
    rintro rfl
    rw [List.nodup_append] at hnd
    exact hnd.2.2 q (by simp [blk]) q (List.mem_flatten.2 ⟨_, List.getElem_mem hj, hq⟩) rfl)
  have hik : (k : Int) < (es.length : Int) := by omega
  rcases hv with rfl | rfl | rfl | rfl
  · -- another effect
    go_wp2_with fail
    refine (l20Effect_any g _ 3 w7 h7 (by omega) (by omega) (by omega)).mono ?_
    rintro e w8 ⟨ed, er, ew, A1, c1, A2, c2, hl1, hl2, rfl, or, ow, hap, h8, ch8⟩
    have p1 := own_chg o1 ch8 (fun q hA e => by have := own_rng o1 q hA; omega)
    have p2 := own_chg o2 ch8 (fun q hA e => by have := own_rng o2 q hA; omega)
    have hown8 := own_chg hown ch8 (fun q hA e => by injection hA with hA; injection hA with hA; omega)
    have q8 := q7.trans ch8
    have hall8 := hall.keep effO_good (w' := w8) fun q hq hqw => ch8.block q hqw (fun e => by have := unhide HFP q (List.mem_append_right _ hq); omega)
    have hqw := own_rng hown qb rfl
    have hcc : ∀ j, j < 3 → ∃ u, w8.cell? ⟨qb, k * 3 + j, none⟩ = some u := fun j hj => ⟨_, own_cell hown8 (k * 3 + j) (by rw [hrw]; omega)⟩
    obtain ⟨u0, y0⟩ := hcc 0 (by omega)
    obtain ⟨u1, y1⟩ := hcc 1 (by omega)
    obtain ⟨u2, y2⟩ := hcc 2 (by omega)
    rw [Nat.add_zero] at y0
    have z0 : w8.frozen? ⟨qb, k * 3, none⟩ = false := own_frozen hown8 _
    have z1 : w8.frozen? ⟨qb, k * 3 + 1, none⟩ = false := own_frozen hown8 _
    have z2 : w8.frozen? ⟨qb, k * 3 + 2, none⟩ = false := own_frozen hown8 _
    have hset := own_set3 hown8 hve hkv (.bool ed) (.slice A1 er.length c1) (.slice A2 ew.length c2)
    have hc := (((Chg.refl (fun q => q = qb) w8).setCell (p := ⟨qb, k * 3, none⟩) (.inl rfl) (.bool ed)).setCell (p := ⟨qb, k * 3 + 1, none⟩) (.inl rfl) (.slice A1 er.length c1)).setCell (p := ⟨qb, k * 3 + 2, none⟩) (.inl rfl) (.slice A2 ew.length c2)
    have hqq := ((q8.setCell (p := ⟨qb, k * 3, none⟩) (.inr hqb) (.bool ed)).setCell (p := ⟨qb, k * 3 + 1, none⟩) (.inr hqb) (.slice A1 er.length c1)).setCell (p := ⟨qb, k * 3 + 2, none⟩) (.inr hqb) (.slice A2 ew.length c2)
    have s8 := ch8.size
    have rT := own_chg or hc (fun q hA e => by have := own_rng or q hA; omega)
    have wT := own_chg ow hc (fun q hA e => by have := own_rng ow q hA; omega)
    have pT1 := own_chg p1 hc (fun q hA e => by have := unhide HO1 q hA; have := unhide HSEP q (by rw [e]; exact List.mem_append_left _ (by simp [blk])); omega)
    have pT2 := own_chg p2 hc (fun q hA e => by have := unhide HO2 q hA; have := unhide HSEP q (by rw [e]; exact List.mem_append_left _ (by simp [blk])); omega)
    have hAT := hall8.set_rd effO_good eff_good k (P := fun q => w.heap.size ≤ q) (x := ⟨ed, er, ew⟩) (w' := ((w8.setCell ⟨qb, k * 3, none⟩ (.bool ed)).setCell ⟨qb, k * 3 + 1, none⟩ (.slice A1 er.length c1)).setCell ⟨qb, k * 3 + 2, none⟩ (.slice A2 ew.length c2)) (cs := [.bool ed, .slice A1 er.length c1, .slice A2 ew.length c2]) (fun q hq => unhide HFP q (List.mem_append_right _ hq)) (eff_good.mono (eff_own (E := ⟨ed, er, ew⟩) rT wT) fun q hq _ => by omega) (fun j hj hne q hq hqw => hc.block q hqw (unhide HND j hj q hq))
    have HEND := hide (claim_end hxl hal hel (unhide HSM) hcp ⟨hl1, hl2⟩ hqb pT1 pT2 hqq hset hAT)
    clear hall hall8 hown hown8 hset hAT rT wT pT1 pT2 hqq hc or ow hap h8 ch8 o1 o2 p1 p2 HRET hnd hve
    go_wp2
    go_ret3
    exact unhide HEND
  · -- Done flipped
    obtain ⟨hv1, hf1, _, hk1, _⟩ := hall.split k hkl
    obtain ⟨A1, c1, A2, c2, hcs, or, ow, hfs⟩ := hk1
    have hw1 := unhide HSM es[k] (List.getElem_mem hkl)
    generalize es[k] = x at *
    obtain ⟨xd, xr, xw⟩ := x
    simp only [effV] at hw1 hcs or ow
    have hqw := own_rng hown qb rfl
    have hj0 : (vs.flatten)[k * 3]? = some (.bool xd) := by
      have h2 := (hall.rd effO_good eff_good (P := fun _ => True) fun _ _ => trivial)
      have h3 := h2.flat_get eff_good hkv (j := 0) (by omega)
      rw [Nat.add_zero] at h3
      rw [h3, hcs]; rfl
    have y0 : w7.cell? ⟨qb, k * 3, none⟩ = some (.bool xd) := by
      have h9 := own_cell hown (k * 3) (by rw [hrw]; omega)
      rw [h9, ← hj0, List.getElem?_eq_getElem]
    have z0 : w7.frozen? ⟨qb, k * 3, none⟩ = false := own_frozen hown _
    have hset := own_setj hown hve hkv 0 (by omega) (.bool !xd)
    rw [hcs] at hset
    have hc := (Chg.refl (fun q => q = qb) w7).setCell (p := ⟨qb, k * 3, none⟩) (.inl rfl) (.bool !xd)
    have hqq := q7.setCell (p := ⟨qb, k * 3, none⟩) (.inr hqb) (.bool !xd)
    have hb1 : ∀ q ∈ blk A1 ++ blk A2, q ≠ qb ∧ w.heap.size ≤ q := fun q hq => by rw [← hfs] at hq; exact ⟨unhide HND k hkf q hq, unhide HFP q (List.mem_append_right _ (List.mem_flatten.2 ⟨_, List.getElem_mem hkf, hq⟩))⟩
    have rT := own_chg or hc (fun q hA e => (hb1 q (List.mem_append_left _ (mem_blk hA))).1 e)
    have wT := own_chg ow hc (fun q hA e => (hb1 q (List.mem_append_right _ (mem_blk hA))).1 e)
    have pT1 := own_chg o1 hc (fun q hA e => by have := unhide HO1 q hA; have := unhide HSEP q (by rw [e]; exact List.mem_append_left _ (by simp [blk])); omega)
    have pT2 := own_chg o2 hc (fun q hA e => by have := unhide HO2 q hA; have := unhide HSEP q (by rw [e]; exact List.mem_append_left _ (by simp [blk])); omega)
    have hAT := hall.set_rd effO_good eff_good k (P := fun q => w.heap.size ≤ q) (x := ⟨!xd, xr, xw⟩) (w' := w7.setCell ⟨qb, k * 3, none⟩ (.bool !xd)) (cs := [.bool !xd, .slice A1 xr.length c1, .slice A2 xw.length c2]) (fun q hq => unhide HFP q (List.mem_append_right _ hq)) ⟨A1, c1, A2, c2, rfl, own_cap or, own_cap ow, (own_rdP rT).mono fun q hq _ => (hb1 q (List.mem_append_left _ (mem_blk hq.2))).2, (own_rdP wT).mono fun q hq _ => (hb1 q (List.mem_append_right _ (mem_blk hq.2))).2⟩ (fun j hj hne q hq hqw => hc.block q hqw (unhide HND j hj q hq))
    have HEND := hide (claim_end hxl hal hel (unhide HSM) hcp ⟨by simp only []; omega, by simp only []; omega⟩ hqb pT1 pT2 hqq hset hAT)
    clear hall hown hset hAT rT wT pT1 pT2 hqq hc or ow o1 o2 HRET hnd hve hcs hfs hb1 hj0 hf1
    go_wp2
    go_ret3
    exact unhide HEND
  · -- the first one left out
    have HD := hide ((show RdD effR (fun q => w.heap.size ≤ q) w7 (some ⟨qb, 0, none⟩) es from ⟨vs, hall.rd effO_good eff_good (fun q hq => unhide HFP q (List.mem_append_right _ hq)), (own_rdP hown).mono fun q hq _ => by obtain ⟨_, h⟩ := hq; injection h with h; injection h with h; omega⟩).drop eff_good 1 (by omega))
    have hcl : (1 : Int) ≤ (es.length : Int) := by omega
    have hcl2 : (es.length : Int) ≤ (c4 : Int) := by have := hcp.1; omega
    clear hall hown hnd hve hrw hvl hfl HRET
    have HLD := hide (show (es.drop 1).length = es.length - 1 by simp)
    have HSD := hide (fun x (hx : x ∈ es.drop 1) => show x.reads.length ≤ 3 ∧ x.writes.length ≤ 3 from ⟨by have := (unhide HSM x (List.mem_of_mem_drop hx)).1; omega, by have := (unhide HSM x (List.mem_of_mem_drop hx)).2; omega⟩)
    by_cases hc1 : c4 = 1
    · have HN := hide (show es.drop 1 = [] by rw [List.drop_eq_nil_iff]; have := hcp.1; omega)
      go_wp2
      go_ret3
      refine ⟨A, c, xs, B, cb, al, some ⟨qb, 0, none⟩, 0, es.drop 1, hxl, hal, by rw [unhide HLD]; omega, unhide HSD, by rw [unhide HLD]; exact ⟨by have := hcp.1; omega, by simp [maxLen]⟩, ?_, o1, o2, by rw [unhide HN]; exact RdD.nil _ _ _ _, q7⟩
      rw [unhide HLD]; rfl
    · go_wp2
      go_ret3
      refine ⟨A, c, xs, B, cb, al, some ⟨qb, 3, none⟩, c4 - 1, es.drop 1, hxl, hal, by rw [unhide HLD]; omega, unhide HSD, by rw [unhide HLD]; omega, ?_, o1, o2, by have h9 := unhide HD; simpa using h9, q7⟩
      rw [unhide HLD]; rfl
  · -- an entry more among the writes
    obtain ⟨hv1, hf1, _, hk1, _⟩ := hall.split k hkl
    obtain ⟨A1, c1, A2, c2, hcs, or, ow, hfs⟩ := hk1
    have hw1 := unhide HSM es[k] (List.getElem_mem hkl)
    generalize es[k] = x at *
    obtain ⟨xd, xr, xw⟩ := x
    simp only [effV] at hw1 hcs or ow
    have hqw := own_rng hown qb rfl
    have hj2 : (vs.flatten)[k * 3 + 2]? = some (.slice A2 xw.length c2) := by
      have h2 := (hall.rd effO_good eff_good (P := fun _ => True) fun _ _ => trivial)
      have h3 := h2.flat_get eff_good hkv (j := 2) (by omega)
      rw [h3, hcs]; rfl
    have y2 : w7.cell? ⟨qb, k * 3 + 2, none⟩ = some (.slice A2 xw.length c2) := by
      have h9 := own_cell hown (k * 3 + 2) (by rw [hrw]; omega)
      rw [h9, ← hj2, List.getElem?_eq_getElem]
    have hb1 : ∀ q ∈ blk A1 ++ blk A2, q ≠ qb ∧ w.heap.size ≤ q ∧ q < w7.heap.size := fun q hq => by rw [← hfs] at hq; exact ⟨unhide HND k hkf q hq, unhide HFP q (List.mem_append_right _ (List.mem_flatten.2 ⟨_, List.getElem_mem hkf, hq⟩)), hall.lt effO_good q (List.mem_flatten.2 ⟨_, List.getElem_mem hkf, hq⟩)⟩
    have hfnd : (fs.flatten).Nodup := (List.nodup_append.1 hnd).2.1
    have hn12 : ∀ q ∈ blk A1, A2 ≠ some ⟨q, 0, none⟩ := fun q hq e => by
      have h1 : (fs[k]).Nodup := by
        have : ∀ (l : List (List Nat)) (j : Nat) (hj : j < l.length), l.flatten.Nodup → l[j].Nodup := by
          intro l
          induction l with
          | nil => intro j hj; simp at hj
          | cons f l ih =>
            intro j hj h
            rw [List.flatten_cons, List.nodup_append] at h
            cases j with
            | zero => exact h.1
            | succ j => exact ih j (by simpa using hj) h.2.1
        exact this fs k hkf hfnd
      rw [hfs, List.nodup_append] at h1
      exact h1.2.2 q hq q (mem_blk e) rfl
    -- the blocks that change
    have hSg : ∀ q, AppS g A2 q → q < w7.heap.size := fun q hq => by
      rcases hq with rfl | hq
      · omega
      · exact (hb1 q (List.mem_append_right _ (mem_blk hq))).2.2
    have hSold : ∀ q, AppS g A2 q → q = g ∨ w.heap.size ≤ q := fun q hq => by
      rcases hq with rfl | hq
      · exact .inl rfl
      · exact .inr (hb1 q (List.mem_append_right _ (mem_blk hq))).2.1
    have hSqb : ¬ AppS g A2 qb := fun hq => by
      rcases hq with h | hq
      · omega
      · exact (hb1 qb (List.mem_append_right _ (mem_blk hq))).1 rfl
    have hA2g : A2 ≠ some ⟨g, 0, none⟩ := fun e => by have := (hb1 g (List.mem_append_right _ (mem_blk e))).2.1; omega
    have hA2u : ∀ q, A2 = some ⟨q, 0, none⟩ → q ∈ fs[k] := fun q e => by rw [hfs]; exact List.mem_append_right _ (mem_blk e)
    have hgw : g < w7.heap.size := by omega
    generalize hM : w7.heap.size = M at hSg hgw
    have hCE : ∀ (a b : World), AppE g A2 xw.length M a b → Chg (AppS g A2) a b := fun _ _ h => h.1
    have hcE : ∀ (a b : World), Chg (fun k => k = g) a b → AppE g A2 xw.length M a b := fun a b h => appE_chg h hgw hA2g
    have hOW : ∀ (a b : World), Chg (fun k => k = g) a b → a.ownsRow 0 80 2 (.slice A2 xw.length c2) xw.length (xw.flatMap encE) → b.ownsRow 0 80 2 (.slice A2 xw.length c2) xw.length (xw.flatMap encE) := fun a b h o => own_chg o h (fun q hA e => by subst e; exact hA2g hA)
    have hlw : xw.length ≤ 2 := hw1.2
    have HW1 := hide hw1
    go_upto_region 7 with fail
    refine wp_region_loc (by kernel_rfl) [(0, some 33), (1, some 34), (2, some 35), (3, some 36), (4, some 37), (5, some 38), (6, some 39), (7, some 40), (8, some 41), (9, some 42), (10, some 43), (11, some 44), (12, some 45), (13, some 46), (14, some 47)] [[], [], [], [], [(2, some 35), (3, some 36)], [(4, some 37)], [(5, some 38)], [], [], [(8, some 41)], [(7, some 40), (9, some 42)], [(10, some 43)], [(11, some 44)], [(12, some 45)], [(6, some 39), (13, some 46)]] (by kernel_rfl)
      (locF [kV (.slice (some ⟨qb, 0, none⟩) es.length c4), kV (.int .i64 (k : Int)), kV (.slice (some ⟨qb, 0, none⟩) es.length c4), kV (.int .i64 (k : Int)), kV (.pointer (some ⟨qb, k * 3, none⟩)), kV (.pointer (some ⟨qb, k * 3 + 2, none⟩)), kV (.slice A2 xw.length c2), sRow (AppS g A2) 3 2 31 32, kV (.pointer (some ⟨g, 0, none⟩)), kInt 0 1, sPtr (AppS g A2) 31 32, kInt 31 32, kPair, sEnt (AppS g A2), sGot A2 xw.length M])
      (AppE g A2 xw.length M) (rdrO g 900000 (fun W => W.ownsRow 0 80 2 (.slice A2 xw.length c2) xw.length (xw.flatMap encE))) [0, 0, 0, 0, 0, 0, 0, 0, 0, 1, 0, 0, 0, 0, 100] 101 (by kernel_rfl) (appE_refl _ _ _ _) (fun _ _ _ => appE_trans)
      (fun i v a b h1 h2 hc => locF_stx (stxl_cons (sx_V _) (stxl_cons (sx_V _) (stxl_cons (sx_V _) (stxl_cons (sx_V _) (stxl_cons (sx_V _) (stxl_cons (sx_V _) (stxl_cons (sx_V _) (stxl_cons (sx_Row hCE _ _ _ _) (stxl_cons (sx_V _) (stxl_cons (sx_Int _ _) (stxl_cons (sx_Ptr hCE _ _) (stxl_cons (sx_Int _ _) (stxl_cons (fun _ _ _ _ h => h) (stxl_cons (sx_Ent hCE) (stxl_cons sx_Got stxl_nil))))))))))))))) i v a b 15 h1 h2 hc)
      ⟨⟨_, by omega, h7.drew⟩, by omega, fun _ => ow⟩ ?_ ?_
    · refine steps_cons ?s0 (steps_cons ?s1 (steps_cons ?s2 (steps_cons ?s3 (steps_cons ?s4 (steps_cons ?s5 (steps_cons ?s6 (steps_cons ?s7 (steps_cons ?s8 (steps_cons ?s9 (steps_cons ?s10 (steps_cons ?s11 (steps_cons ?s12 (steps_cons ?s13 (steps_cons ?s14 steps_nil))))))))))))))
      case s0 =>
        intro w1 m hE hR Q hQ
        go_wp2
        exact hQ _ _ _ rfl rfl (appE_refl _ _ _ _ _) hR
      case s1 =>
        intro w1 m hE hR Q hQ
        go_wp2
        exact hQ _ _ _ rfl rfl (appE_refl _ _ _ _ _) hR
      case s2 =>
        intro w1 m hE hR Q hQ
        go_wp2
        exact hQ _ _ _ rfl rfl (appE_refl _ _ _ _ _) hR
      case s3 =>
        intro w1 m hE hR Q hQ
        go_wp2
        exact hQ _ _ _ rfl rfl (appE_refl _ _ _ _ _) hR
      case s4 =>
        intro w1 m hE hR
        rintro _ rfl _ rfl Q hQ
        go_wp2
        exact hQ _ _ _ rfl (by first | rfl | simp [locF, kV]) (appE_refl _ _ _ _ _) hR
      case s5 =>
        intro w1 m hE hR
        rintro _ rfl Q hQ
        go_wp2
        exact hQ _ _ _ rfl rfl (appE_refl _ _ _ _ _) hR
      case s6 =>
        intro w1 m hE hR
        rintro _ rfl Q hQ
        have z := (chg_undrew hE.1).cell (p := ⟨qb, k * 3 + 2, none⟩) y2 hSqb
        go_wp2
        exact hQ _ _ _ rfl rfl (appE_refl _ _ _ _ _) hR
      case s7 =>
        intro w1 m hE hR Q hQ
        have hs := hE.1.size
        have hs' : w7.heap.size = w7.drew.heap.size := rfl
        go_wp2
        exact hQ _ _ _ rfl (sRow_new [31, 32] 3 31 32 (fun h => by have := hSg _ h; omega) (by intro i hi; simp at hi; rcases i with _ | _ | i <;> simp <;> omega)) (hcE _ _ ((Chg.refl _ _).alloc _)) ⟨rdrR_alloc hR.1 _, hR.2.1, fun h => hOW _ _ ((Chg.refl _ _).alloc _) (hR.2.2 h)⟩
      case s8 =>
        intro w1 m hE hR Q hQ
        go_wp2
        exact hQ _ _ _ rfl rfl (appE_refl _ _ _ _ _) hR
      case s9 =>
        intro w1 m hE hR
        rintro _ rfl Q hQ
        obtain ⟨hR, hM1, hO⟩ := hR
        obtain ⟨N1, hN1, hr1⟩ := rdrR_use hR
        simp only [List.getD_cons_succ, List.getD_cons_zero] at hN1 hM1 hO
        go_wp2_with fail
        refine (pick_any g N1 2 _ hr1 (by omega) (by omega) (by omega)).mono ?_
        rintro e w2 ⟨x, hx, rfl, h2, ch2⟩
        go_wp2
        exact hQ _ _ _ rfl ⟨_, rfl, by omega, by omega⟩ (hcE _ _ ch2) ⟨⟨N1 + 1, by omega, h2⟩, by omega, fun h => hOW _ _ ch2 (hO (by omega))⟩
      case s10 =>
        intro w1 m hE hR
        rintro _ ⟨q0, zs0, rfl, a0, b0, c0, d0⟩ _ ⟨x1, rfl, l1, h1⟩
        intro Q hQ
        obtain ⟨i, z, e1, e2, e3, e4, e5, e6⟩ := kRow_cell (g := g) b0 c0 d0 (x := x1) (by omega) (by omega)
        subst e1
        have i1 : (i : Int) < 2 := by omega
        go_wp2
        exact hQ _ _ _ rfl ⟨q0, i, z, by first | rfl | simp, a0, e3, e4, e5, e6⟩ (appE_refl _ _ _ _ _) hR
      case s11 =>
        intro w1 m hE hR
        rintro _ ⟨q0, i0, z0, rfl, a0, b0, c0, d0, e0⟩
        intro Q hQ
        go_wp2
        exact hQ _ _ _ rfl ⟨_, rfl, by omega, by omega⟩ (appE_refl _ _ _ _ _) hR
      case s12 =>
        intro w1 m hE hR
        rintro _ ⟨x, rfl, l1, l2⟩
        intro Q hQ
        go_wp2
        exact hQ _ _ _ rfl ⟨_, _, rfl⟩ (appE_refl _ _ _ _ _) hR
      case s13 =>
        intro w1 m hE hR
        rintro _ ⟨x, y, rfl⟩
        intro Q hQ
        have hs := hE.1.size
        have hs' : w7.heap.size = w7.drew.heap.size := rfl
        go_wp2
        exact hQ _ _ _ rfl ⟨_, x, y, rfl, fun h => by have := hSg _ h; omega, Blk.new _ _ _⟩ (hcE _ _ ((Chg.refl _ _).alloc _)) ⟨rdrR_alloc hR.1 _, hR.2.1, fun h => hOW _ _ ((Chg.refl _ _).alloc _) (hR.2.2 h)⟩
      case s14 =>
        intro w1 m hE hR
        rintro _ rfl _ ⟨q, x, y, rfl, hq, hk⟩
        intro Q hQ
        obtain ⟨⟨N1, hN1, hr1⟩, hM1, hO⟩ := hR
        simp only [List.getD_cons_succ, List.getD_cons_zero] at hN1 hM1 hO
        have ow1 := hO (by omega)
        have hs := hE.1.size
        have hs' : w7.heap.size = w7.drew.heap.size := rfl
        refine wpList_app rfl (.tmp 39) (.tmp 46) 27 rfl el_ent rfl ow1 rfl (rd_blk hk) rfl (one_ents [⟨x, y⟩]) (by simp only [maxLen]; omega) (by omega) (by omega) ?_
        intro A8 c8 w8 o8 ch8 d8 _
        rw [snoc_ents] at o8
        obtain ⟨g1, g2⟩ := appE_app (g := g) (M := M) ch8 o8 (by simp) d8 (by omega)
        go_wp2
        exact hQ _ _ _ rfl ⟨A8, c8, rfl, own_cap o8, g2⟩ g1 ⟨⟨N1, by omega, hr1.chg ch8 (fun k hk hA => by have := (hb1 k (List.mem_append_right _ (mem_blk hA))).2.1; omega)⟩, by omega, fun h => absurd h (by omega)⟩
    · intro w8 hE hR
      rintro v0 h0 v1 h1 v2 - v3 - v4 - v5 - v6 - v7 - v8 - v9 - v10 - v11 - v12 - v13 - v14 ⟨A8, c8, rfl, hc8, q8, ys, rfl, hq8, hl8, hy8, hrd8⟩
      obtain rfl : v0 = _ := h0
      obtain rfl : v1 = _ := h1
      have cE := chg_undrew hE.1
      have q8c : Chg (fun k => k = g) w w8 := ((q7.mono (T := fun q => q = g ∨ w.heap.size ≤ q) fun q _ e => .inl e).trans (cE.mono fun q _ e => hSold q e)).mono fun q hq e => by omega
      have p1 := own_chg o1 cE (fun q hA e => by
        rcases e with rfl | e
        · have := own_rng o1 _ hA; omega
        · have := unhide HO1 q hA; have := unhide HSEP q (List.mem_append_right _ (List.mem_flatten.2 ⟨_, List.getElem_mem hkf, hA2u q e⟩)); omega)
      have p2 := own_chg o2 cE (fun q hA e => by
        rcases e with rfl | e
        · have := own_rng o2 _ hA; omega
        · have := unhide HO2 q hA; have := unhide HSEP q (List.mem_append_right _ (List.mem_flatten.2 ⟨_, List.getElem_mem hkf, hA2u q e⟩)); omega)
      have hown8 := own_chg hown cE (fun q hA e => by injection hA with hA; injection hA with hA; subst hA; exact hSqb e)
      have or8 := own_chg or cE (fun q hA e => by
        rcases e with rfl | e
        · have := (hb1 _ (List.mem_append_left _ (mem_blk hA))).2.1; omega
        · exact hn12 q (mem_blk hA) e)
      have hcc : w8.cell? ⟨qb, k * 3 + 2, none⟩ = some (.slice A2 xw.length c2) := cE.cell (p := ⟨qb, k * 3 + 2, none⟩) y2 hSqb
      have z2 : w8.frozen? ⟨qb, k * 3 + 2, none⟩ = false := own_frozen hown8 _
      have hset := own_setj hown8 hve hkv 2 (by omega) (.slice (some ⟨q8, 0, none⟩) (xw.length + 1) c8)
      rw [hcs] at hset
      have hc := (Chg.refl (fun q => q = qb) w8).setCell (p := ⟨qb, k * 3 + 2, none⟩) (.inl rfl) (.slice (some ⟨q8, 0, none⟩) (xw.length + 1) c8)
      have hqq := q8c.setCell (p := ⟨qb, k * 3 + 2, none⟩) (.inr hqb) (.slice (some ⟨q8, 0, none⟩) (xw.length + 1) c8)
      have rT := own_chg or8 hc (fun q hA e => (hb1 q (List.mem_append_left _ (mem_blk hA))).1 e)
      have hq8b : q8 ≠ qb ∧ w.heap.size ≤ q8 := by
        rcases hq8 with h | h
        · have := hb1 q8 (List.mem_append_right _ (mem_blk h)); exact ⟨this.1, this.2.1⟩
        · have := hown.lt qb rfl; omega
      have wT := rd_chgq hrd8 hc hq8b.1
      have pT1 := own_chg p1 hc (fun q hA e => by have := unhide HO1 q hA; have := unhide HSEP q (by rw [e]; exact List.mem_append_left _ (by simp [blk])); omega)
      have pT2 := own_chg p2 hc (fun q hA e => by have := unhide HO2 q hA; have := unhide HSEP q (by rw [e]; exact List.mem_append_left _ (by simp [blk])); omega)
      have hcT : Chg (fun q => q = qb ∨ AppS g A2 q) w7 (w8.setCell ⟨qb, k * 3 + 2, none⟩ (.slice (some ⟨q8, 0, none⟩) (xw.length + 1) c8)) := (cE.mono fun q _ e => .inr e).trans (hc.mono fun q _ e => .inl e)
      have hAT := hall.set_rd effO_good eff_good k (P := fun q => w.heap.size ≤ q) (x := ⟨xd, xr, ys⟩) (w' := w8.setCell ⟨qb, k * 3 + 2, none⟩ (.slice (some ⟨q8, 0, none⟩) (xw.length + 1) c8)) (cs := [.bool xd, .slice A1 xr.length c1, .slice (some ⟨q8, 0, none⟩) (xw.length + 1) c8]) (fun q hq => unhide HFP q (List.mem_append_right _ hq)) ⟨A1, c1, some ⟨q8, 0, none⟩, c8, by simp only [effV, hy8], own_cap or, by rw [hy8]; exact hc8, (own_rdP rT).mono fun q hq _ => (hb1 q (List.mem_append_left _ (mem_blk hq.2))).2.1, RdP.of_rd wT fun b off hA => by injection hA with hA; injection hA with hA; omega⟩ (fun j hj hne q hq hqw => hcT.block q hqw (fun e => by
        rcases e with e | e | e
        · exact unhide HND j hj q hq e
        · have := unhide HFP q (List.mem_append_right _ (List.mem_flatten.2 ⟨_, List.getElem_mem hj, hq⟩)); omega
        · exact flat_apart hfnd hj hkf hne hq (hA2u q e)))
      have HEND := hide (claim_end hxl hal hel (unhide HSM) hcp ⟨by simp only []; omega, by simp only []; omega⟩ hqb pT1 pT2 hqq hset hAT)
      have hq8w := cE.size
      clear hall hown hown8 hset hAT rT wT pT1 pT2 hqq hc hcT or ow or8 o1 o2 p1 p2 HRET hnd hve hcs hfs hb1 hj2 hf1 hfnd hn12 hSg hSold hSqb hA2u hA2g hCE hcE hOW hE cE q8c hR hrd8 hq8
      change wpList _ _ _ [_, _, _] _ _
      simp only [Go.Act.put, List.setIfInBounds_toArray, List.set_cons_succ, List.set_cons_zero]
      go_wp2
      go_ret3
      exact unhide HEND
end Go.Proofs.Ytiaodcjocogkkaa
