/- Slices of blocks, in the laws: mark. -/
import Derived.Test.YtmpdopjailomlaaGreatEffM
import Derived.Test.YtmpdopjailomlaaGreatBkS
namespace Go.Proofs.YtmpdopjailomlaaGreat
open Go.RowKit
set_option linter.unusedVariables false
set_option linter.unusedSimpArgs false

def markBk1 (k : Int) (x : Bk) : Bk := ⟨k, k + 1, k + 1 + 1, markAct (k + 1 + 1 + 1) x.list.length, k + 1 + 1 + 1 + x.list.length * 4, k + 1 + 1 + 1 + x.list.length * 4 + 1⟩
def markBkN (k : Int) (x : Bk) : Int := k + 1 + 1 + 1 + x.list.length * 4 + 1 + 1
def markBks : Int → List Bk → List Bk
  | _, [] => []
  | k, x :: xs => markBk1 k x :: markBks (markBkN k x) xs
def markBkE : Int → List Bk → Int
  | k, [] => k
  | k, x :: xs => markBkE (markBkN k x) xs
theorem markBkE_eq (k : Int) (xs : List Bk) : markBkE k xs = k + (5 * xs.length + 4 * bkTot xs : Nat) := by
  induction xs generalizing k with
  | nil => simp [markBkE, bkTot]
  | cons x xs ih => rw [markBkE, ih, markBkN, bkTot, List.length_cons]; omega
theorem markBks_len (k : Int) (xs : List Bk) : (markBks k xs).length = xs.length := by
  induction xs generalizing k with
  | nil => rfl
  | cons x xs ih => rw [markBks, List.length_cons, ih, List.length_cons]
theorem markBks_snoc (k : Int) (xs : List Bk) (x : Bk) : markBks k (xs ++ [x]) = markBks k xs ++ [markBk1 (markBkE k xs) x] ∧ markBkE k (xs ++ [x]) = markBkN (markBkE k xs) x := by
  induction xs generalizing k with
  | nil => exact ⟨rfl, rfl⟩
  | cons y xs ih =>
    obtain ⟨h1, h2⟩ := ih (markBkN k y)
    exact ⟨by rw [List.cons_append, markBks, h1, markBks, markBkE, List.cons_append], by rw [List.cons_append, markBkE, h2, markBkE]⟩
theorem bkTot_append (xs ys : List Bk) : bkTot (xs ++ ys) = bkTot xs + bkTot ys := by
  induction xs with
  | nil => simp [bkTot]
  | cons x xs ih => rw [List.cons_append, bkTot, bkTot, ih]; omega
theorem set_step (s : Nat) (us : List (List Value)) (hu : ∀ v ∈ us, v.length = s) (k : Nat) (hk : k < us.length) (cs : List Value) (hc : cs.length = s) (j : Nat) (hj : j < s) (u : Value) : (us.set k cs).flatten.set (k * s + j) u = (us.set k (cs.set j u)).flatten := by
  rw [set_flatten s (us.set k cs) (fun v hv => by
    rcases List.mem_or_eq_of_mem_set hv with h | h
    · exact hu v h
    · rw [h]; exact hc) k (by simpa using hk) j hj u]
  simp
set_option maxHeartbeats 2000000 in
theorem markBlockS_any (A : Option Addr) (c : Nat) (k0 : Int) (xs : List Bk) (fp : List Nat) (w : World) (h : OwnD bkO 69 6 w A c xs fp) (h0 : 0 ≤ k0) (h1 : markBkE k0 xs ≤ 576460752303423488) :
    Calls Tryz.prog 48 #[.slice A xs.length c, .int .i64 k0] w fun e w' => e = .returned (.int .i64 (markBkE k0 xs)) ∧ OwnD bkO 69 6 w' A c (markBks k0 xs) fp ∧ Chg (fun q => q ∈ fp) w w' := by
  obtain ⟨vs, fs, hall, hown, hfp, hnd⟩ := h
  have HFP := hide hfp
  have HND := hide hnd
  have HNF := hide (show fs.flatten.Nodup by rw [hfp, List.nodup_append] at hnd; exact hnd.2.1)
  have HAF := hide (show ∀ q ∈ blk A, q ∉ fs.flatten by rw [hfp, List.nodup_append] at hnd; exact fun q hq hq2 => hnd.2.2 q hq q hq2 rfl)
  have hxl : (xs.length : Int) ≤ 576460752303423488 := by rw [markBkE_eq] at h1; omega
  clear hfp hnd
  go_enter Tryz.func48, Tryz.ntmps48
  go_wp2
  go_loopw [1, 5] (fun kk i wr => ∃ (k : Nat) (z : Int) (vs : List (List Value)), k ≤ xs.length ∧ i = .int .i64 k ∧ kk = .int .i64 z ∧ Hid (z = markBkE k0 (xs.take k)) ∧ AllO bkO wr (markBks k0 (xs.take k) ++ xs.drop k) vs fs ∧ wr.ownsRow 0 69 6 (.slice A xs.length c) xs.length vs.flatten ∧ Chg (fun q => q ∈ fp) w wr) (fun _ i _ => xs.length - (intOf i).toNat)
  case atStart => exact ⟨0, k0, vs, Nat.zero_le _, rfl, rfl, hide rfl, by simpa [markBks] using hall, hown, Chg.refl _ _⟩
  case round =>
    clear hall hown
    obtain ⟨k, z, vs, hk, rfl, rfl, HZ, hall, hown, hch⟩ := hrel
    by_cases hlt : k < xs.length
    · have hml : (markBks k0 (xs.take k)).length = k := by rw [markBks_len, List.length_take]; omega
      have hkl : k < (markBks k0 (xs.take k) ++ xs.drop k).length := by rw [List.length_append, hml, List.length_drop]; omega
      have hget : (markBks k0 (xs.take k) ++ xs.drop k)[k]'hkl = xs[k] := by rw [List.getElem_append_right (by omega)]; simp [hml]
      obtain ⟨hv, hf, -, hO, -⟩ := hall.split k hkl
      have hve := hall.each bkO_good bk_good
      rw [hget] at hO
      obtain ⟨g, rfl, hg0, hgs⟩ := own_addr hown (by omega)
      have hfk : fs[k]? = some fs[k] := List.getElem?_eq_getElem hf
      have HSN := hide (markBks_snoc k0 (xs.take k) xs[k])
      have hzb : 0 ≤ z ∧ z + 5 + 4 * (xs[k].list.length : Int) ≤ 576460752303423488 := by
        have e1 := unhide HZ
        have e2 : bkTot (xs.take k) + xs[k].list.length ≤ bkTot xs := by
          have e3 : xs = xs.take k ++ xs[k] :: xs.drop (k + 1) := by rw [← drop_get xs k hlt, List.take_append_drop]
          have e4 := congrArg bkTot e3
          rw [bkTot_append, bkTot] at e4
          omega
        rw [markBkE_eq] at e1 h1
        rw [List.length_take] at e1
        omega
      have HTK := hide (List.take_succ_eq_append_getElem hlt)
      have HDR := hide (drop_get xs k hlt)
      generalize hxk : xs[k] = x at *
      clear hxk hget
      obtain ⟨A1, c1, hvk, o1, hfp⟩ := hO
      have HFK := hide hfp
      have hvl : vs.flatten.length = xs.length * 6 := hown.1
      have hcc : ∀ j, j < 6 → wr.cell? ⟨g, k * 6 + j, none⟩ = (bkV x A1 c1)[j]? := fun j hj => by
        have h5 := (hall.rd bkO_good bk_good (P := fun _ => True) fun _ _ => trivial).flat_get bk_good hv hj
        rw [hvk] at h5
        obtain ⟨h6, h7⟩ := List.getElem?_eq_some_iff.1 (show vs.flatten[k * 6 + j]? = some (vs.flatten[k * 6 + j]'(by omega)) from List.getElem?_eq_getElem _)
        rw [own_cell hown (k * 6 + j) (by omega), ← h5]
        exact (List.getElem?_eq_getElem _).symm
      have hgA : g ∉ fs.flatten := unhide HAF g (by simp [blk])
      have hinf : ∀ q ∈ fs[k], q ∈ fs.flatten := fun q hq => List.mem_flatten.2 ⟨fs[k], List.getElem_mem hf, hq⟩
      have hg1 : ∀ q, A1 = some ⟨q, 0, none⟩ → q ≠ g := fun q hq e => hgA (by rw [← e]; exact hinf q (by rw [hfp]; exact mem_blk hq))
      have i1 : (k : Int) < (xs.length : Int) := by omega
      have hvn : ∀ v ∈ vs, v.length = 6 := hve
      have hs0 := hown
      rw [← List.set_getElem_self hv, hvk] at hs0
      have hs1 := own_set hs0 (k * 6 + 0) (.int .i64 z)
      rw [set_step 6 vs hvn k hv (bkV x A1 c1) rfl 0 (by omega)] at hs1
      have hs2 := own_set hs1 (k * 6 + 1) (.int .i64 (z + 1))
      rw [set_step 6 vs hvn k hv _ (by simp [bkV]) 1 (by omega)] at hs2
      have hs3 := own_set hs2 (k * 6 + 2) (.int .i64 (z + 1 + 1))
      rw [set_step 6 vs hvn k hv _ (by simp [bkV]) 2 (by omega), Nat.add_zero] at hs3
      have d0 : wr.cell? ⟨g, k * 6, none⟩ = some (.int .i64 x.before) := hcc 0 (by omega)
      have d1 : wr.cell? ⟨g, k * 6 + 1, none⟩ = some (.int .i64 x.height) := hcc 1 (by omega)
      have d2 : wr.cell? ⟨g, k * 6 + 2, none⟩ = some (.int .i64 x.view) := hcc 2 (by omega)
      have d3 : wr.cell? ⟨g, k * 6 + 3, none⟩ = some (.slice A1 x.list.length c1) := hcc 3 (by omega)
      have d4 : wr.cell? ⟨g, k * 6 + 4, none⟩ = some (.int .i64 x.root) := hcc 4 (by omega)
      have d5 : wr.cell? ⟨g, k * 6 + 5, none⟩ = some (.int .i64 x.eff) := hcc 5 (by omega)
      have z0 : wr.frozen? ⟨g, k * 6, none⟩ = false := own_frozen hown _
      have z1 : wr.frozen? ⟨g, k * 6 + 1, none⟩ = false := own_frozen hown _
      have z2 : wr.frozen? ⟨g, k * 6 + 2, none⟩ = false := own_frozen hown _
      have ch1 : Chg (fun q => q = g) wr (((wr.setCell ⟨g, k * 6, none⟩ (.int .i64 z)).setCell ⟨g, k * 6 + 1, none⟩ (.int .i64 (z + 1))).setCell ⟨g, k * 6 + 2, none⟩ (.int .i64 (z + 1 + 1))) := (((Chg.refl (fun q => q = g) wr).setCell (.inl rfl) _).setCell (.inl rfl) _).setCell (.inl rfl) _
      have o1' := own_chg o1 ch1 (fun q hq e => hg1 q hq e)
      have e3 : (((wr.setCell ⟨g, k * 6, none⟩ (.int .i64 z)).setCell ⟨g, k * 6 + 1, none⟩ (.int .i64 (z + 1))).setCell ⟨g, k * 6 + 2, none⟩ (.int .i64 (z + 1 + 1))).cell? ⟨g, k * 6 + 3, none⟩ = some (.slice A1 x.list.length c1) := by
        rw [World.cell?_setCell_other _ _ _ _ (fun e => by injection e; omega), World.cell?_setCell_other _ _ _ _ (fun e => by injection e; omega), World.cell?_setCell_other _ _ _ _ (fun e => by injection e; omega)]; exact d3
      have e4 : (((wr.setCell ⟨g, k * 6, none⟩ (.int .i64 z)).setCell ⟨g, k * 6 + 1, none⟩ (.int .i64 (z + 1))).setCell ⟨g, k * 6 + 2, none⟩ (.int .i64 (z + 1 + 1))).cell? ⟨g, k * 6 + 4, none⟩ = some (.int .i64 x.root) := by
        rw [World.cell?_setCell_other _ _ _ _ (fun e => by injection e; omega), World.cell?_setCell_other _ _ _ _ (fun e => by injection e; omega), World.cell?_setCell_other _ _ _ _ (fun e => by injection e; omega)]; exact d4
      have e5 : (((wr.setCell ⟨g, k * 6, none⟩ (.int .i64 z)).setCell ⟨g, k * 6 + 1, none⟩ (.int .i64 (z + 1))).setCell ⟨g, k * 6 + 2, none⟩ (.int .i64 (z + 1 + 1))).cell? ⟨g, k * 6 + 5, none⟩ = some (.int .i64 x.eff) := by
        rw [World.cell?_setCell_other _ _ _ _ (fun e => by injection e; omega), World.cell?_setCell_other _ _ _ _ (fun e => by injection e; omega), World.cell?_setCell_other _ _ _ _ (fun e => by injection e; omega)]; exact d5
      have HALL := hide hall
      have hs3' := hs3
      clear hall hcc hvk hs0 hs1 hs2 hs3
      go_wp2_with fail
      generalize (((wr.setCell ⟨g, k * 6, none⟩ (.int .i64 z)).setCell ⟨g, k * 6 + 1, none⟩ (.int .i64 (z + 1))).setCell ⟨g, k * 6 + 2, none⟩ (.int .i64 (z + 1 + 1))) = w1 at *
      refine (markActionS_any A1 c1 0 (z + 1 + 1 + 1) x.list w1 o1' (by omega) (by omega) (by omega)).mono ?_
      rintro e w2 ⟨rfl, m1, ch2⟩
      have hs4 := own_chg hs3' ch2 (fun q hq e => by injection hq with hq; injection hq with hq; subst hq; exact hg1 _ e rfl)
      have f4 : w2.cell? ⟨g, k * 6 + 4, none⟩ = some (.int .i64 x.root) := ch2.cell (p := ⟨g, k * 6 + 4, none⟩) e4 (fun e => hg1 g e rfl)
      have f5 : w2.cell? ⟨g, k * 6 + 5, none⟩ = some (.int .i64 x.eff) := ch2.cell (p := ⟨g, k * 6 + 5, none⟩) e5 (fun e => hg1 g e rfl)
      have q4 : w2.frozen? ⟨g, k * 6 + 4, none⟩ = false := own_frozen hs4 _
      have q5 : w2.frozen? ⟨g, k * 6 + 5, none⟩ = false := own_frozen hs4 _
      have hs5 := own_set hs4 (k * 6 + 4) (.int .i64 (z + 1 + 1 + 1 + x.list.length * 4))
      rw [set_step 6 vs hvn k hv _ (by simp [bkV]) 4 (by omega)] at hs5
      have hs6 := own_set hs5 (k * 6 + 5) (.int .i64 (z + 1 + 1 + 1 + x.list.length * 4 + 1))
      rw [set_step 6 vs hvn k hv _ (by simp [bkV]) 5 (by omega)] at hs6
      have ch3 : Chg (fun q => q = g) w2 ((w2.setCell ⟨g, k * 6 + 4, none⟩ (.int .i64 (z + 1 + 1 + 1 + x.list.length * 4))).setCell ⟨g, k * 6 + 5, none⟩ (.int .i64 (z + 1 + 1 + 1 + x.list.length * 4 + 1))) := ((Chg.refl (fun q => q = g) w2).setCell (.inl rfl) _).setCell (.inl rfl) _
      have m1' := own_chg m1 ch3 (fun q hq e => hg1 q hq e)
      have hmo : bkO (markBk1 z x) ((w2.setCell ⟨g, k * 6 + 4, none⟩ (.int .i64 (z + 1 + 1 + 1 + x.list.length * 4))).setCell ⟨g, k * 6 + 5, none⟩ (.int .i64 (z + 1 + 1 + 1 + x.list.length * 4 + 1))) (bkV (markBk1 z x) A1 c1) fs[k] := ⟨A1, c1, rfl, by simpa [markBk1, markAct_length] using m1', hfp⟩
      have hup := (unhide HALL).upd bkO_good (unhide HNF) hkl hfk hmo (fun q hq hq2 hqw => by
        have hqg : q ≠ g := fun e => hgA (e ▸ hq2)
        have n1 : A1 ≠ some ⟨q, 0, none⟩ := fun e => hq (by rw [hfp]; exact mem_blk e)
        have t1 := ch1.size
        have t2 := ch2.size
        exact ((ch3.block q (by omega) hqg).trans (ch2.block q (by omega) n1)).trans (ch1.block q hqw hqg))
      have hchg : Chg (fun q => q ∈ fp) w ((w2.setCell ⟨g, k * 6 + 4, none⟩ (.int .i64 (z + 1 + 1 + 1 + x.list.length * 4))).setCell ⟨g, k * 6 + 5, none⟩ (.int .i64 (z + 1 + 1 + 1 + x.list.length * 4 + 1))) := by
        have hgp : g ∈ fp := by rw [unhide HFP]; simp [blk]
        have t1 : Chg (fun q => q ∈ fp) wr w1 := ch1.mono fun q _ e => e ▸ hgp
        have t2 : Chg (fun q => q ∈ fp) w1 w2 := ch2.mono fun q _ e => by rw [unhide HFP]; exact List.mem_append_right _ (hinf q (by rw [hfp]; exact mem_blk e))
        exact ((hch.trans t1).trans t2).trans (ch3.mono fun q _ e => (show q ∈ fp from e ▸ hgp))
      have hset : (markBks k0 (xs.take k) ++ xs.drop k).set k (markBk1 z x) = markBks k0 (xs.take (k + 1)) ++ xs.drop (k + 1) := by
        rw [unhide HTK, (unhide HSN).1, ← unhide HZ, List.set_append_right _ _ (by omega), hml, Nat.sub_self, unhide HDR, List.set_cons_zero, List.append_assoc]
        rfl
      rw [hset] at hup
      have hvs : (((((bkV x A1 c1).set 0 (.int .i64 z)).set 1 (.int .i64 (z + 1))).set 2 (.int .i64 (z + 1 + 1))).set 4 (.int .i64 (z + 1 + 1 + 1 + x.list.length * 4))).set 5 (.int .i64 (z + 1 + 1 + 1 + x.list.length * 4 + 1)) = bkV (markBk1 z x) A1 c1 := by simp [bkV, markBk1, markAct_length]
      rw [hvs] at hs6
      have HUP := hide hup
      have HS4 := hide hs6
      have HCH := hide hchg
      have HZN := hide (show z + 1 + 1 + 1 + x.list.length * 4 + 1 + 1 = markBkE k0 (xs.take (k + 1)) by rw [unhide HTK, (unhide HSN).2, ← unhide HZ]; rfl)
      clear hset hup hs4 hs5 hs6 hchg hvs hmo m1 m1' o1 o1' hs3' ch1 ch2 ch3 hfp hve hvn hown hg1 hinf hgA hfk d0 d1 d2 d3 d4 d5 e3 e4 e5 z0 z1 z2
      go_wp2
      go_roundw
      case rel => exact ⟨k + 1, _, _, by omega, by go_num, rfl, HZN, unhide HUP, unhide HS4, unhide HCH⟩
      case measure => simp [intOf]; omega
    · obtain rfl : k = xs.length := by omega
      rw [List.take_length] at HZ hall
      rw [List.drop_length, List.append_nil] at hall
      go_wp2
      go_ret
      exact ⟨reti (unhide HZ), ⟨vs, fs, hall, by rw [markBks_len]; exact hown, unhide HFP, unhide HND⟩, hch⟩
end Go.Proofs.YtmpdopjailomlaaGreat
