/- Slices of effects, in the laws: to, eq, sz, mark. -/
import Derived.Test.YtiaodcjocogkkaaValEffect
import Derived.Test.YtiaodcjocogkkaaOwn
namespace Go.Proofs.Ytiaodcjocogkkaa
open Go.RowKit
set_option linter.unusedVariables false
set_option linter.unusedSimpArgs false

def effV (x : Eff) (A1 : Option Addr) (c1 : Nat) (A2 : Option Addr) (c2 : Nat) : List Value := [.bool x.done, .slice A1 x.reads.length c1, .slice A2 x.writes.length c2]
/-- an effect in three cells -/
def effR : Rel Eff := fun P x w cs => ∃ A1 c1 A2 c2, cs = effV x A1 c1 A2 c2 ∧ (x.reads.length ≤ c1 ∧ c1 ≤ maxLen) ∧ (x.writes.length ≤ c2 ∧ c2 ≤ maxLen) ∧ RdP P w A1 (x.reads.flatMap encE) ∧ RdP P w A2 (x.writes.flatMap encE)
theorem eff_good : Good effR 3 :=
  ⟨fun ⟨_, _, _, _, h, _⟩ => by rw [h]; rfl, fun ⟨A1, c1, A2, c2, h0, h1, h2, h3, h4⟩ hPQ => ⟨A1, c1, A2, c2, h0, h1, h2, h3.mono hPQ, h4.mono hPQ⟩, fun ⟨A1, c1, A2, c2, h0, h1, h2, h3, h4⟩ hk => ⟨A1, c1, A2, c2, h0, h1, h2, h3.keep hk, h4.keep hk⟩⟩
def effO : ORel Eff := fun x w cs fp => ∃ A1 c1 A2 c2, cs = effV x A1 c1 A2 c2 ∧ w.ownsRow 0 80 2 (.slice A1 x.reads.length c1) x.reads.length (x.reads.flatMap encE) ∧ w.ownsRow 0 80 2 (.slice A2 x.writes.length c2) x.writes.length (x.writes.flatMap encE) ∧ fp = blk A1 ++ blk A2
theorem effO_good : OGood effO effR :=
  ⟨fun ⟨A1, c1, A2, c2, h0, h1, h2, h3⟩ => ⟨A1, c1, A2, c2, h0, own_cap h1, own_cap h2, (own_rdP h1).mono fun k hk _ => by rw [h3]; exact List.mem_append_left _ (mem_blk hk.2), (own_rdP h2).mono fun k hk _ => by rw [h3]; exact List.mem_append_right _ (mem_blk hk.2)⟩,
   fun ⟨A1, c1, A2, c2, h0, h1, h2, h3⟩ hk => ⟨A1, c1, A2, c2, h0, own_keep h1 fun g hA hg => hk g (by rw [h3]; exact List.mem_append_left _ (mem_blk hA)) hg, own_keep h2 fun g hA hg => hk g (by rw [h3]; exact List.mem_append_right _ (mem_blk hA)) hg, h3⟩,
   fun ⟨A1, c1, A2, c2, h0, h1, h2, h3⟩ k hk => by
    rw [h3] at hk
    rcases List.mem_append.1 hk with hk | hk
    · exact (blk_own h1 hk).2.2
    · exact (blk_own h2 hk).2.2⟩
theorem RdD.eff {P : Nat → Prop} {w : World} {A : Option Addr} {xs : List Eff} (h : RdD effR P w A xs) {k : Nat} (hk : k < xs.length) :
    ∃ b off A1 c1 A2 c2, A = some ⟨b, off, none⟩ ∧ P b ∧ b < w.heap.size ∧ w.cell? ⟨b, off + k * 3, none⟩ = some (.bool xs[k].done) ∧ w.cell? ⟨b, off + k * 3 + 1, none⟩ = some (.slice A1 xs[k].reads.length c1) ∧ w.cell? ⟨b, off + k * 3 + 2, none⟩ = some (.slice A2 xs[k].writes.length c2) ∧
      (xs[k].reads.length ≤ c1 ∧ c1 ≤ maxLen) ∧ (xs[k].writes.length ≤ c2 ∧ c2 ≤ maxLen) ∧ RdP P w A1 (xs[k].reads.flatMap encE) ∧ RdP P w A2 (xs[k].writes.flatMap encE) := by
  obtain ⟨b, off, cs, hA, hp, hb, ⟨A1, c1, A2, c2, rfl, h1, h2, h3, h4⟩, hc⟩ := h.get eff_good (by omega) hk
  exact ⟨b, off, A1, c1, A2, c2, hA, hp, hb, hc 0 _ rfl, hc 1 _ rfl, hc 2 _ rfl, h1, h2, h3, h4⟩
theorem info_eff : (Try.prog.info? 71).map (fun i => (i.zero, i.size, i.bytes)) = some (some (.agg #[.bool false, .slice none 0 0, .slice none 0 0]), 3, 56) := by kernel_rfl
theorem el_eff : El Try.prog 29 71 3 56 := El.mk_ Try.underlying29 info_eff rfl (by omega)
/-- cells that make lays, as things of s cells -/
theorem zeroes_flat (z : List Value) (s n : Nat) (hz : z.length = s) (hs : 0 < s) : madeCells z.toArray (n * s) = (List.replicate n z).flatten.toArray := by
  have hall : ∀ v ∈ List.replicate n z, v.length = s := fun v hv => by rw [List.eq_of_mem_replicate hv, hz]
  have hfl : (List.replicate n z).flatten.length = n * s := by rw [List.length_flatten]; simp [hz]
  apply Array.ext
  · rw [size_madeCells, List.size_toArray, hfl]
  · intro i h1 h2
    have hi : i < n * s := by rw [size_madeCells] at h1; exact h1
    have hq : i / s < n := Nat.div_lt_of_lt_mul (by rw [Nat.mul_comm]; exact hi)
    have hm := Nat.mod_lt i hs
    have key : ∀ (m q r : Nat), q < m → r < s → (List.replicate m z).flatten[q * s + r]? = z[r]? := by
      intro m
      induction m with
      | zero => intro q r h; omega
      | succ m ih =>
        intro q r h hr
        rw [List.replicate_succ, List.flatten_cons]
        cases q with
        | zero => rw [Nat.zero_mul, Nat.zero_add, List.getElem?_append_left (by omega)]
        | succ q =>
          have e : (q + 1) * s + r = s + (q * s + r) := by rw [Nat.add_mul]; omega
          rw [e, List.getElem?_append_right (by omega), hz, Nat.add_sub_cancel_left]
          exact ih q r (by omega) hr
    have h3 := key n (i / s) (i % s) hq hm
    rw [Nat.div_add_mod' i s] at h3
    have h4 : z[i % s]? = some (z[i % s]'(by omega)) := List.getElem?_eq_getElem _
    rw [h4] at h3
    have h5 := (List.getElem?_eq_some_iff.1 h3).2
    refine Eq.trans ?_ ((List.getElem_toArray h2).trans h5).symm
    simp only [madeCells, Array.getElem_map, Array.getElem_range, List.size_toArray, hz]
    simp [hm, hz]
theorem make_eff (n : Nat) (hn : n ≤ 1048576) (w : World) : (Instr.makeSlice 29 (.int .i64 (n : Int)) (.int .i64 (n : Int))).run Try.prog w = .ok (.slice (some ⟨w.heap.size, 0, none⟩) n n) (w.alloc (.cells (List.replicate n [Value.bool false, .slice none 0 0, .slice none 0 0]).flatten.toArray 71)) := by
  obtain ⟨i0, hi0, hz0, hz1, hz2⟩ := info_parts info_eff
  rw [run_make_rowN 29 71 i0 _ Try.underlying29 hi0 hz0 _ _ n n (Nat.le_refl _) (by rw [hz2]; omega) (by omega), hz1]
  simp only [Value.cells]
  rw [← zeroes_flat [Value.bool false, .slice none 0 0, .slice none 0 0] 3 n rfl (by omega)]
/-- three cells of a row of the call's own, set -/
theorem own_set3 {w : World} {e : TypeId} {g n c : Nat} {vs : List (List Value)} (h : w.ownsRow 0 e 3 (.slice (some ⟨g, 0, none⟩) n c) n vs.flatten) (hv : ∀ v ∈ vs, v.length = 3) {k : Nat} (hk : k < vs.length) (x y z : Value) :
    (((w.setCell ⟨g, k * 3, none⟩ x).setCell ⟨g, k * 3 + 1, none⟩ y).setCell ⟨g, k * 3 + 2, none⟩ z).ownsRow 0 e 3 (.slice (some ⟨g, 0, none⟩) n c) n (vs.set k [x, y, z]).flatten := by
  have h3 := own_set (own_set (own_set h (k * 3) x) (k * 3 + 1) y) (k * 3 + 2) z
  rw [← setAt_flatten 3 vs hv k hk [x, y, z] rfl]
  exact h3
set_option maxHeartbeats 1000000 in
theorem toEffectS_any (A : Option Addr) (c : Nat) (xs : List Eff) (w : World) (hb : xs.length ≤ 1048576) (P : Nat → Prop) (h : RdD effR P w A xs) (hbs : ∀ x ∈ xs, x.reads.length ≤ 1048576 ∧ x.writes.length ≤ 1048576) :
    Calls Try.prog 14 #[.slice A xs.length c] w fun e w' => ∃ A' c' fp, e = .returned (.slice A' xs.length c') ∧ OwnD effO 71 3 w' A' c' xs fp ∧ (∀ k ∈ fp, w.heap.size ≤ k) ∧ Below w.heap.size w w' := by
  have hmk := fun W => make_eff xs.length hb W
  have HBS := hide hbs
  clear hbs
  go_enter Try.func14, Try.ntmps14
  go_wp2
  go_loopw [4] (fun i wr => ∃ (k : Nat) (vs : List (List Value)) (fs : List (List Nat)), k ≤ xs.length ∧ i = .int .i64 k ∧ wr.ownsRow 0 71 3 (.slice (some ⟨w.heap.size, 0, none⟩) xs.length xs.length) xs.length (vs ++ List.replicate (xs.length - k) [Value.bool false, .slice none 0 0, .slice none 0 0]).flatten ∧ AllO effO wr (xs.take k) vs fs ∧ (w.heap.size :: fs.flatten).Nodup ∧ (∀ q ∈ fs.flatten, w.heap.size < q) ∧ Below w.heap.size w wr) (fun i _ => xs.length - (intOf i).toNat)
  case atStart =>
    refine ⟨0, [], [], Nat.zero_le _, rfl, ?_, trivial, by simp, by simp, (Below.refl _ _).alloc (Nat.le_refl _) _⟩
    have := own_made (base := 0) (e := 71) (size := 3) w (List.replicate xs.length [Value.bool false, .slice none 0 0, .slice none 0 0]).flatten.toArray xs.length (Nat.zero_le _) (by simp only [maxLen]; omega) (by rw [List.size_toArray, List.length_flatten]; simp)
    simpa using this
  case round =>
    clear hmk
    obtain ⟨k, vs, fs, hk, rfl, hown, hall, hnd, hgt, hB⟩ := hrel
    by_cases hlt : k < xs.length
    · obtain ⟨b, off, A1, c1, A2, c2, rfl, hbP, hbb, d0, d1, d2, hl1, hl2, r1, r2⟩ := (h.new eff_good hB).eff hlt
      obtain ⟨hx1, hx2⟩ := unhide HBS xs[k] (List.getElem_mem hlt)
      have HT := hide (List.take_succ_eq_append_getElem hlt)
      have hvl := hall.len.1
      have hve := hall.each effO_good eff_good
      have hfl := hall.lt effO_good
      rw [List.length_take, Nat.min_eq_left hk] at hvl
      generalize xs[k] = x at *
      obtain ⟨xd, xr, xw⟩ := x
      simp only at *
      have i1 : (k : Int) < (xs.length : Int) := by omega
      go_wp2_with fail
      refine (toEffect_any ⟨xd, xr, xw⟩ A1 c1 A2 c2 wr r1.rd hx1 r2.rd hx2).mono ?_
      rintro e w1 ⟨B1, e1, B2, e2, rfl, o1, o2, hap, b1⟩
      have hown1 := own_new hown b1
      have hG : w.heap.size < wr.heap.size := by
        rcases hown.2 with ⟨hv, _⟩ | ⟨g, cap, cur, hv, hg, hh, _⟩
        · cases hv
        · injection hv with hv; injection hv with hv; injection hv with hv
          subst hv
          exact (Array.getElem?_eq_some_iff.1 hh).1
      have hs := hB.size
      have hs1 := b1.size
      have hB1 := bthen hB b1
      have hall1 : AllO effO w1 (xs.take k) vs fs := hall.keep effO_good fun q _ hq => b1.block q hq
      have hvs : ∀ v ∈ vs ++ List.replicate (xs.length - k) [Value.bool false, .slice none 0 0, .slice none 0 0], v.length = 3 := fun v hv => by
        rcases List.mem_append.1 hv with hv | hv
        · exact hve v hv
        · rw [List.eq_of_mem_replicate hv]; rfl
      have hkl : k < (vs ++ List.replicate (xs.length - k) [Value.bool false, Value.slice none 0 0, .slice none 0 0]).length := by simp; omega
      have hset := own_set3 hown1 hvs hkl (.bool xd) (.slice B1 xr.length e1) (.slice B2 xw.length e2)
      have hle : (vs ++ List.replicate (xs.length - k) [Value.bool false, Value.slice none 0 0, .slice none 0 0]).flatten.length = xs.length * 3 := hown1.1
      have hcc : ∀ j, j < 3 → ∃ u, w1.cell? ⟨w.heap.size, k * 3 + j, none⟩ = some u := fun j hj => ⟨_, own_cell hown1 (k * 3 + j) (by rw [hle]; omega)⟩
      obtain ⟨u0, y0⟩ := hcc 0 (by omega)
      obtain ⟨u1, y1⟩ := hcc 1 (by omega)
      obtain ⟨u2, y2⟩ := hcc 2 (by omega)
      rw [Nat.add_zero] at y0
      have z0 : w1.frozen? ⟨w.heap.size, k * 3, none⟩ = false := own_frozen hown1 _
      have z1 : w1.frozen? ⟨w.heap.size, k * 3 + 1, none⟩ = false := own_frozen hown1 _
      have z2 : w1.frozen? ⟨w.heap.size, k * 3 + 2, none⟩ = false := own_frozen hown1 _
      have hsetl : (vs ++ List.replicate (xs.length - k) [Value.bool false, Value.slice none 0 0, .slice none 0 0]).set k [.bool xd, .slice B1 xr.length e1, .slice B2 xw.length e2] = (vs ++ [[.bool xd, .slice B1 xr.length e1, .slice B2 xw.length e2]]) ++ List.replicate (xs.length - (k + 1)) [Value.bool false, Value.slice none 0 0, .slice none 0 0] := by
        rw [List.set_append_right _ _ (by omega), hvl, Nat.sub_self, show xs.length - k = (xs.length - (k + 1)) + 1 by omega, List.replicate_succ, List.set_cons_zero, List.append_assoc]
        rfl
      rw [hsetl] at hset
      have HSET := hide hset
      have hch : Chg (fun q => q = w.heap.size) w1 (((w1.setCell ⟨w.heap.size, k * 3, none⟩ (.bool xd)).setCell ⟨w.heap.size, k * 3 + 1, none⟩ (.slice B1 xr.length e1)).setCell ⟨w.heap.size, k * 3 + 2, none⟩ (.slice B2 xw.length e2)) := (((Chg.refl (fun q => q = w.heap.size) w1).setCell (.inl rfl) _).setCell (.inl rfl) _).setCell (.inl rfl) _
      have hq12 : ∀ q ∈ blk B1 ++ blk B2, wr.heap.size ≤ q ∧ q < w1.heap.size := fun q hq => by
        rcases List.mem_append.1 hq with hq | hq
        · exact (blk_own o1 hq).2
        · exact (blk_own o2 hq).2
      have hnew : AllO effO w1 [⟨xd, xr, xw⟩] [[.bool xd, .slice B1 xr.length e1, .slice B2 xw.length e2]] [blk B1 ++ blk B2] := AllO.one ⟨B1, e1, B2, e2, rfl, own_base0 o1, own_base0 o2, rfl⟩
      have hall2 := (hall1.append hnew).keep effO_good (w' := (((w1.setCell ⟨w.heap.size, k * 3, none⟩ (.bool xd)).setCell ⟨w.heap.size, k * 3 + 1, none⟩ (.slice B1 xr.length e1)).setCell ⟨w.heap.size, k * 3 + 2, none⟩ (.slice B2 xw.length e2))) (fun q hq hqw => hch.block q hqw (fun e => by
        subst e
        rw [List.flatten_append] at hq
        rcases List.mem_append.1 hq with hq | hq
        · have := hgt _ hq; omega
        · have := hq12 _ (by simpa using hq); omega))
      have HALL := hide hall2
      have hnd2 : (w.heap.size :: (fs ++ [blk B1 ++ blk B2]).flatten).Nodup := by
        rw [List.flatten_append, List.flatten_singleton, ← List.cons_append]
        refine fresh_nodup (m := wr.heap.size) hnd ?_ (fun q hq => ?_) (fun q hq => (hq12 q hq).1)
        · rw [List.nodup_append]
          refine ⟨blk_nodup _, blk_nodup _, fun p hp q hq e => ?_⟩
          have := hap p q (blk_own o1 hp).1 (blk_own o2 hq).1
          omega
        · rcases List.mem_cons.1 hq with rfl | hq
          · exact hG
          · exact hfl q hq
      have hgt2 : ∀ q ∈ (fs ++ [blk B1 ++ blk B2]).flatten, w.heap.size < q := fun q hq => by
        rw [List.flatten_append, List.flatten_singleton] at hq
        rcases List.mem_append.1 hq with hq | hq
        · exact hgt q hq
        · have := hq12 q hq; omega
      have HND := hide hnd2
      have HGT := hide hgt2
      have HBF := hide (hB1.trans (hch.below (fun q hq e => by omega) hB1.size))
      clear hset hsetl hall hall1 hall2 hnew hnd hnd2 hgt hgt2 hown hown1 hvs hkl hle hcc hvl hve hfl o1 o2 hap hq12 hch b1 r1 r2
      go_wp2
      go_roundw
      case rel => exact ⟨k + 1, _, _, by omega, by go_num, unhide HSET, by rw [unhide HT]; exact unhide HALL, unhide HND, unhide HGT, unhide HBF⟩
      case measure => simp [intOf]; omega
    · obtain rfl : k = xs.length := by omega
      rw [List.take_length] at hall
      rw [Nat.sub_self, List.replicate_zero, List.append_nil] at hown
      go_wp2
      go_ret
      exact ⟨some ⟨w.heap.size, 0, none⟩, xs.length, w.heap.size :: fs.flatten, rfl, ⟨vs, fs, hall, hown, rfl, hnd⟩, fun q hq => by
        rcases List.mem_cons.1 hq with rfl | hq
        · exact Nat.le_refl _
        · exact Nat.le_of_lt (hgt q hq), hB⟩
set_option maxRecDepth 100000 in
set_option maxHeartbeats 1000000 in
theorem eqEffectS_any (A B : Option Addr) (c d : Nat) (xs ys : List Eff) (w : World) (P Q : Nat → Prop) (hx : RdD effR P w A xs) (hy : RdD effR Q w B ys) (hbx : xs.length ≤ 4611686018427387904) (hbs : ∀ x ∈ xs, x.reads.length ≤ 4611686018427387904 ∧ x.writes.length ≤ 4611686018427387904) :
    Calls Try.prog 17 #[.slice A xs.length c, .slice B ys.length d] w fun e w' => e = .returned (.bool (decide (xs = ys))) ∧ Below w.heap.size w w' := by
  have HBS := hide hbs
  clear hbs
  by_cases hl : xs.length = ys.length
  · have hd : ((xs.length : Int) != (ys.length : Int)) = false := by simp [hl]
    have HL := hide hl
    have hl1 : xs.length ≤ ys.length := by omega
    have hl2 : ys.length ≤ xs.length := by omega
    clear hl
    go_enter Try.func17, Try.ntmps17
    go_wp2
    go_loopw [5] (fun i wr => ∃ k : Nat, k ≤ xs.length ∧ i = .int .i64 k ∧ (∀ j (h1 : j < xs.length) (h2 : j < ys.length), j < k → xs[j] = ys[j]) ∧ Below w.heap.size w wr) (fun i _ => xs.length - (intOf i).toNat)
    case atStart => exact ⟨0, Nat.zero_le _, rfl, fun j _ _ h => absurd h (by omega), Below.refl _ _⟩
    case round =>
      obtain ⟨k, hk, rfl, hsame, hbel⟩ := hrel
      have HS := hide hsame
      clear hsame
      by_cases hlt : k < xs.length
      · have hlt2 : k < ys.length := by omega
        obtain ⟨b, off, A1, c1, A2, c2, rfl, hbP, hbb, d0, d1, d2, hl1', hl2', r1, r2⟩ := (hx.new eff_good hbel).eff hlt
        obtain ⟨b', off', B1, e1, B2, e2, rfl, hbP', hbb', f0, f1, f2, _, _, q1, q2⟩ := (hy.new eff_good hbel).eff hlt2
        obtain ⟨hx1, hx2⟩ := unhide HBS xs[k] (List.getElem_mem hlt)
        generalize hxk : xs[k] = xk at *
        generalize hyk : ys[k] = yk at *
        have HX := hide hxk
        have HY := hide hyk
        clear hxk hyk
        have i1 : (k : Int) < (xs.length : Int) := by omega
        have i2 : (k : Int) < (ys.length : Int) := by omega
        have hbel2 := hbel.drew
        have K := hide (eqEffect_any xk yk A1 c1 B1 e1 A2 c2 B2 e2 wr.drew r1.rd.drew q1.rd.drew hx1 r2.rd.drew q2.rd.drew hx2)
        clear r1 r2 q1 q2 hl1' hl2'
        by_cases he : xk = yk
        · have hn : decide (xk = yk) = true := by simp [he]
          have HE := hide he
          rw [hn] at K
          clear he hn
          go_wp2
          go_still_tail 8, (by kernel_rfl)
          change wpList _ _ _ _ _ wr.drew
          go_wp2_with fail
          refine (unhide K).mono ?_
          rintro e w1 ⟨rfl, hb1⟩
          go_wp2
          go_roundw
          case rel =>
            refine ⟨k + 1, by omega, by go_num, fun j h1 h2 hj => ?_, below_then hbel2 hb1 hbel2.size⟩
            rcases Nat.lt_or_ge j k with h3 | h3
            · exact unhide HS j h1 h2 h3
            · have : j = k := by omega
              subst this
              exact (unhide HX).trans ((unhide HE).trans (unhide HY).symm)
          case measure => simp [intOf]; omega
        · have hn : decide (xk = yk) = false := by simp [he]
          have HE := hide he
          rw [hn] at K
          clear he hn
          go_wp2
          go_still_tail 8, (by kernel_rfl)
          change wpList _ _ _ _ _ wr.drew
          go_wp2_with fail
          refine (unhide K).mono ?_
          rintro e w1 ⟨rfl, hb1⟩
          go_wp2
          go_ret
          refine ⟨retb ?_, below_then hbel2 hb1 hbel2.size⟩
          symm
          rw [decide_eq_false_iff_not]
          intro hxy
          apply unhide HE
          have h1 := unhide HX
          have h2 := unhide HY
          subst hxy
          exact h1.symm.trans h2
      · go_wp2
        go_ret
        refine ⟨retb ?_, hbel⟩
        symm
        rw [decide_eq_true_iff]
        exact List.ext_getElem (unhide HL) fun j h1 h2 => unhide HS j h1 h2 (by omega)
  · have hd : ((xs.length : Int) != (ys.length : Int)) = true := by simp; omega
    have HL := hide hl
    clear hl
    go_enter Try.func17, Try.ntmps17
    go_wp2
    go_ret
    refine ⟨retb ?_, Below.refl _ _⟩
    symm
    rw [decide_eq_false_iff_not]
    exact fun h => unhide HL (by rw [h])
/-- how many entries there are -/
def effTot : List Eff → Nat
  | [] => 0
  | x :: xs => x.reads.length + x.writes.length + effTot xs
theorem effTot_mem {x : Eff} {xs : List Eff} (h : x ∈ xs) : x.reads.length + x.writes.length ≤ effTot xs := by
  induction xs with
  | nil => cases h
  | cons y xs ih =>
    rw [effTot]
    rcases List.mem_cons.1 h with rfl | h
    · omega
    · have := ih h; omega
/-- what is left of l -/
def szL (n : Nat) (l : Int) : Int := if (n : Int) ≤ l then l - (n : Int) else -1
theorem szL_yes {n : Nat} {l : Int} (h : (n : Int) ≤ l) : szL n l = l - (n : Int) := if_pos h
theorem szL_no {n : Nat} {l : Int} (h : ¬ (n : Int) ≤ l) : szL n l = -1 := if_neg h
set_option maxHeartbeats 1000000 in
theorem szEffectS_any (A : Option Addr) (c : Nat) (xs : List Eff) (l : Int) (w : World) (P : Nat → Prop) (h : RdD effR P w A xs) (hn : xs.length ≤ 9223372036854775807) (h0 : 0 ≤ l) (h1 : l ≤ 1048576) :
    Calls Try.prog 11 #[.slice A xs.length c, .int .i64 l] w fun e w' => e = .returned (.int .i64 (szL (xs.length + effTot xs) l)) ∧ Below w.heap.size w w' := by
  by_cases hl : (xs.length : Int) ≤ l
  · have h2 : 0 ≤ l - (xs.length : Int) := by omega
    have HR := hide (show ∀ z : Int, z - (effTot xs : Int) = l - (xs.length : Int) - (effTot xs : Int) → True from fun _ _ => trivial)
    go_enter Try.func11, Try.ntmps11
    go_wp2
    go_loopw [1, 5] (fun lf i wr => ∃ (k : Nat) (z : Int), k ≤ xs.length ∧ i = .int .i64 k ∧ lf = .int .i64 z ∧ 0 ≤ z ∧ z ≤ l ∧ z - (effTot (xs.drop k) : Int) = l - (xs.length : Int) - (effTot xs : Int) ∧ Below w.heap.size w wr) (fun _ i _ => xs.length - (intOf i).toNat)
    case atStart => exact ⟨0, _, Nat.zero_le _, rfl, rfl, by omega, by omega, by rw [List.drop_zero], Below.refl _ _⟩
    case round =>
      obtain ⟨k, z, hk, rfl, rfl, hz0, hz1, hz, hB⟩ := hrel
      by_cases hlt : k < xs.length
      · obtain ⟨b, off, A1, c1, A2, c2, rfl, hbP, hbb, d0, d1, d2, hl1', hl2', r1, r2⟩ := (h.new eff_good hB).eff hlt
        rw [drop_get xs k hlt, effTot] at hz
        have hmx : maxLen = 9223372036854775807 := rfl
        generalize xs[k] = xk at *
        have i1 : (k : Int) < (xs.length : Int) := by omega
        have K := hide (szEffect_any xk A1 c1 A2 c2 z wr (by omega) (by omega) hz0 (by omega))
        clear hmx hl1' hl2' r1 r2
        by_cases hf : (xk.reads.length : Int) + (xk.writes.length : Int) ≤ z
        · have K2 := unhide K
          rw [if_pos hf] at K2
          have K3 := hide K2
          have HZ := hide (show z - ((xk.reads.length : Int) + (xk.writes.length : Int)) - (effTot (xs.drop (k + 1)) : Int) = l - (xs.length : Int) - (effTot xs : Int) by omega)
          have hnn : 0 ≤ z - ((xk.reads.length : Int) + (xk.writes.length : Int)) := by omega
          have hnl : z - ((xk.reads.length : Int) + (xk.writes.length : Int)) ≤ l := by omega
          clear K K2 hz
          go_wp2_with fail
          refine (unhide K3).mono ?_
          rintro e w1 ⟨rfl, b1⟩
          generalize z - ((xk.reads.length : Int) + (xk.writes.length : Int)) = z2 at *
          have hB1 := bthen hB b1
          go_wp2
          go_roundw
          case rel => exact ⟨k + 1, z2, by omega, by go_num, rfl, hnn, hnl, unhide HZ, hB1⟩
          case measure => simp [intOf]; omega
        · have K2 := unhide K
          rw [if_neg hf] at K2
          have K3 := hide K2
          have HZ := hide (szL_no (n := xs.length + effTot xs) (l := l) (by omega))
          clear K K2 hz
          go_wp2_with fail
          refine (unhide K3).mono ?_
          rintro e w1 ⟨rfl, b1⟩
          have hB1 := bthen hB b1
          go_wp2
          go_ret
          exact ⟨reti (unhide HZ).symm, hB1⟩
      · obtain rfl : k = xs.length := by omega
        rw [List.drop_length, effTot] at hz
        have HZ := hide (show z = szL (xs.length + effTot xs) l by rw [szL_yes (by omega)]; omega)
        clear hz
        go_wp2
        go_ret
        exact ⟨reti (unhide HZ), hB⟩
  · have h2 : l - (xs.length : Int) < 0 := by omega
    have HZ := hide (szL_no (n := xs.length + effTot xs) (l := l) (by omega))
    go_enter Try.func11, Try.ntmps11
    go_wp2
    go_ret
    exact ⟨reti (unhide HZ).symm, Below.refl _ _⟩
end Go.Proofs.Ytiaodcjocogkkaa
