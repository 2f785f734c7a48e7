/- Slices of blocks, in the laws: to, eq, sz. -/
import Derived.Test.YtmpdopjailomlaaGreatEffS
import Derived.Test.YtmpdopjailomlaaGreatValBlock
import Derived.Test.YtmpdopjailomlaaGreatOwn
namespace Go.Proofs.YtmpdopjailomlaaGreat
open Go.RowKit
set_option linter.unusedVariables false
set_option linter.unusedSimpArgs false

def bkV (x : Bk) (A : Option Addr) (c : Nat) : List Value := [.int .i64 x.before, .int .i64 x.height, .int .i64 x.view, .slice A x.list.length c, .int .i64 x.root, .int .i64 x.eff]
/-- a block in six cells -/
def bkR : Rel Bk := fun P x w cs => ∃ A c, cs = bkV x A c ∧ (x.list.length ≤ c ∧ c ≤ maxLen) ∧ RdP P w A (x.list.flatMap encA)
theorem bk_good : Good bkR 6 :=
  ⟨fun ⟨_, _, h, _⟩ => by rw [h]; rfl, fun ⟨A, c, h0, h1, h2⟩ hPQ => ⟨A, c, h0, h1, h2.mono hPQ⟩, fun ⟨A, c, h0, h1, h2⟩ hk => ⟨A, c, h0, h1, h2.keep hk⟩⟩
def bkO : ORel Bk := fun x w cs fp => ∃ A c, cs = bkV x A c ∧ w.ownsRow 0 134 4 (.slice A x.list.length c) x.list.length (x.list.flatMap encA) ∧ fp = blk A
theorem bkO_good : OGood bkO bkR :=
  ⟨fun ⟨A, c, h0, h1, h3⟩ => ⟨A, c, h0, own_cap h1, (own_rdP h1).mono fun k hk _ => by rw [h3]; exact mem_blk hk.2⟩,
   fun ⟨A, c, h0, h1, h3⟩ hk => ⟨A, c, h0, own_keep h1 fun g hA hg => hk g (by rw [h3]; exact mem_blk hA) hg, h3⟩,
   fun ⟨A, c, h0, h1, h3⟩ k hk => by
    rw [h3] at hk
    exact (blk_own h1 hk).2.2⟩
theorem RdD.bk {P : Nat → Prop} {w : World} {A : Option Addr} {xs : List Bk} (h : RdD bkR P w A xs) {k : Nat} (hk : k < xs.length) :
    ∃ b off A1 c1, A = some ⟨b, off, none⟩ ∧ P b ∧ b < w.heap.size ∧ w.cell? ⟨b, off + k * 6, none⟩ = some (.int .i64 xs[k].before) ∧ w.cell? ⟨b, off + k * 6 + 1, none⟩ = some (.int .i64 xs[k].height) ∧ w.cell? ⟨b, off + k * 6 + 2, none⟩ = some (.int .i64 xs[k].view) ∧ w.cell? ⟨b, off + k * 6 + 3, none⟩ = some (.slice A1 xs[k].list.length c1) ∧ w.cell? ⟨b, off + k * 6 + 4, none⟩ = some (.int .i64 xs[k].root) ∧ w.cell? ⟨b, off + k * 6 + 5, none⟩ = some (.int .i64 xs[k].eff) ∧
      (xs[k].list.length ≤ c1 ∧ c1 ≤ maxLen) ∧ RdP P w A1 (xs[k].list.flatMap encA) := by
  obtain ⟨b, off, cs, hA, hp, hb, ⟨A1, c1, rfl, h1, h3⟩, hc⟩ := h.get bk_good (by omega) hk
  exact ⟨b, off, A1, c1, hA, hp, hb, hc 0 _ rfl, hc 1 _ rfl, hc 2 _ rfl, hc 3 _ rfl, hc 4 _ rfl, hc 5 _ rfl, h1, h3⟩
theorem info_bk : (Tryz.prog.info? 69).map (fun i => (i.zero, i.size, i.bytes)) = some (some (.agg #[.int .i64 0, .int .i64 0, .int .i64 0, .slice none 0 0, .int .i64 0, .int .i64 0]), 6, 64) := by kernel_rfl
theorem el_bk : El Tryz.prog 29 69 6 64 := El.mk_ Tryz.underlying29 info_bk rfl (by omega)
def zbk : List Value := [.int .i64 0, .int .i64 0, .int .i64 0, .slice none 0 0, .int .i64 0, .int .i64 0]
theorem make_bk (n : Nat) (hn : n ≤ 1048576) (w : World) : (Instr.makeSlice 29 (.int .i64 (n : Int)) (.int .i64 (n : Int))).run Tryz.prog w = .ok (.slice (some ⟨w.heap.size, 0, none⟩) n n) (w.alloc (.cells (List.replicate n zbk).flatten.toArray 69)) := by
  obtain ⟨i0, hi0, hz0, hz1, hz2⟩ := info_parts info_bk
  rw [run_make_rowN 29 69 i0 _ Tryz.underlying29 hi0 hz0 _ _ n n (Nat.le_refl _) (by rw [hz2]; omega) (by omega), hz1]
  simp only [Value.cells]
  rw [← zeroes_flat zbk 6 n rfl (by omega)]
  rfl
/-- six cells of a row of the call's own, set -/
theorem own_set6 {w : World} {e : TypeId} {g n c base : Nat} {vs : List (List Value)} (h : w.ownsRow base e 6 (.slice (some ⟨g, 0, none⟩) n c) n vs.flatten) (hv : ∀ v ∈ vs, v.length = 6) {k : Nat} (hk : k < vs.length) (x0 x1 x2 x3 x4 x5 : Value) :
    ((((((w.setCell ⟨g, k * 6, none⟩ x0).setCell ⟨g, k * 6 + 1, none⟩ x1).setCell ⟨g, k * 6 + 2, none⟩ x2).setCell ⟨g, k * 6 + 3, none⟩ x3).setCell ⟨g, k * 6 + 4, none⟩ x4).setCell ⟨g, k * 6 + 5, none⟩ x5).ownsRow base e 6 (.slice (some ⟨g, 0, none⟩) n c) n (vs.set k [x0, x1, x2, x3, x4, x5]).flatten := by
  have h3 := own_set (own_set (own_set (own_set (own_set (own_set h (k * 6) x0) (k * 6 + 1) x1) (k * 6 + 2) x2) (k * 6 + 3) x3) (k * 6 + 4) x4) (k * 6 + 5) x5
  rw [← setAt_flatten 6 vs hv k hk [x0, x1, x2, x3, x4, x5] rfl]
  exact h3
theorem chg_set6 (w : World) (g o : Nat) (x0 x1 x2 x3 x4 x5 : Value) : Chg (fun q => q = g) w ((((((w.setCell ⟨g, o, none⟩ x0).setCell ⟨g, o + 1, none⟩ x1).setCell ⟨g, o + 2, none⟩ x2).setCell ⟨g, o + 3, none⟩ x3).setCell ⟨g, o + 4, none⟩ x4).setCell ⟨g, o + 5, none⟩ x5) :=
  ((((((Chg.refl (fun q => q = g) w).setCell (.inl rfl) _).setCell (.inl rfl) _).setCell (.inl rfl) _).setCell (.inl rfl) _).setCell (.inl rfl) _).setCell (.inl rfl) _
set_option maxHeartbeats 1000000 in
theorem toBlockS_any (A : Option Addr) (c : Nat) (xs : List Bk) (w : World) (hb : xs.length ≤ 1048576) (P : Nat → Prop) (h : RdD bkR P w A xs) (hbs : ∀ x ∈ xs, x.list.length ≤ 1048576) :
    Calls Tryz.prog 39 #[.slice A xs.length c] w fun e w' => ∃ A' c' fp, e = .returned (.slice A' xs.length c') ∧ OwnD bkO 69 6 w' A' c' xs fp ∧ (∀ k ∈ fp, w.heap.size ≤ k) ∧ Below w.heap.size w w' := by
  have hmk := fun W => make_bk xs.length hb W
  have HBS := hide hbs
  clear hbs
  go_enter Tryz.func39, Tryz.ntmps39
  go_wp2
  go_loopw [4] (fun i wr => ∃ (k : Nat) (vs : List (List Value)) (fs : List (List Nat)), k ≤ xs.length ∧ i = .int .i64 k ∧ wr.ownsRow 0 69 6 (.slice (some ⟨w.heap.size, 0, none⟩) xs.length xs.length) xs.length (vs ++ List.replicate (xs.length - k) zbk).flatten ∧ AllO bkO wr (xs.take k) vs fs ∧ (w.heap.size :: fs.flatten).Nodup ∧ (∀ q ∈ fs.flatten, w.heap.size < q) ∧ Below w.heap.size w wr) (fun i _ => xs.length - (intOf i).toNat)
  case atStart =>
    refine ⟨0, [], [], Nat.zero_le _, rfl, ?_, trivial, by simp, by simp, (Below.refl _ _).alloc (Nat.le_refl _) _⟩
    have := own_made (base := 0) (e := 69) (size := 6) w (List.replicate xs.length zbk).flatten.toArray xs.length (Nat.zero_le _) (by simp only [maxLen]; omega) (by rw [List.size_toArray, List.length_flatten]; simp [zbk])
    simpa using this
  case round =>
    clear hmk
    obtain ⟨k, vs, fs, hk, rfl, hown, hall, hnd, hgt, hB⟩ := hrel
    by_cases hlt : k < xs.length
    · obtain ⟨b, off, A1, c1, rfl, hbP, hbb, d0, d1, d2, d3, d4, d5, hl1, r1⟩ := (h.new bk_good hB).bk hlt
      have hx1 := unhide HBS xs[k] (List.getElem_mem hlt)
      have HT := hide (List.take_succ_eq_append_getElem hlt)
      have hvl := hall.len.1
      have hve := hall.each bkO_good bk_good
      have hfl := hall.lt bkO_good
      rw [List.length_take, Nat.min_eq_left hk] at hvl
      generalize xs[k] = x at *
      obtain ⟨x0, x1, x2, x3, x4, x5⟩ := x
      simp only at *
      have i1 : (k : Int) < (xs.length : Int) := by omega
      go_wp2_with fail
      refine (toBlock_any ⟨x0, x1, x2, x3, x4, x5⟩ A1 c1 wr r1.rd hx1).mono ?_
      rintro e w1 ⟨B1, e1, rfl, o1, b1⟩
      have hown1 := own_new hown b1
      have hG : w.heap.size < wr.heap.size := by
        rcases hown.2 with ⟨hv, _⟩ | ⟨g, cap, cur, hv, hg, hh, _⟩
        · cases hv
        · injection hv with hv; injection hv with hv; injection hv with hv
          subst hv
          exact (Array.getElem?_eq_some_iff.1 hh).1
      have hs := hB.size
      have hs1 := b1.size
      have hB1 := bthen hB b1
      have hall1 : AllO bkO w1 (xs.take k) vs fs := hall.keep bkO_good fun q _ hq => b1.block q hq
      have hvs : ∀ v ∈ vs ++ List.replicate (xs.length - k) zbk, v.length = 6 := fun v hv => by
        rcases List.mem_append.1 hv with hv | hv
        · exact hve v hv
        · rw [List.eq_of_mem_replicate hv]; rfl
      have hkl : k < (vs ++ List.replicate (xs.length - k) zbk).length := by simp; omega
      have hset := own_set6 hown1 hvs hkl (.int .i64 x0) (.int .i64 x1) (.int .i64 x2) (.slice B1 x3.length e1) (.int .i64 x4) (.int .i64 x5)
      have hle : (vs ++ List.replicate (xs.length - k) zbk).flatten.length = xs.length * 6 := hown1.1
      have hcc : ∀ j, j < 6 → ∃ u, w1.cell? ⟨w.heap.size, k * 6 + j, none⟩ = some u := fun j hj => ⟨_, own_cell hown1 (k * 6 + j) (by rw [hle]; omega)⟩
      obtain ⟨u0, y0⟩ := hcc 0 (by omega)
      obtain ⟨u1, y1⟩ := hcc 1 (by omega)
      obtain ⟨u2, y2⟩ := hcc 2 (by omega)
      obtain ⟨u3, y3⟩ := hcc 3 (by omega)
      obtain ⟨u4, y4⟩ := hcc 4 (by omega)
      obtain ⟨u5, y5⟩ := hcc 5 (by omega)
      rw [Nat.add_zero] at y0
      have z0 : w1.frozen? ⟨w.heap.size, k * 6, none⟩ = false := own_frozen hown1 _
      have z1 : w1.frozen? ⟨w.heap.size, k * 6 + 1, none⟩ = false := own_frozen hown1 _
      have z2 : w1.frozen? ⟨w.heap.size, k * 6 + 2, none⟩ = false := own_frozen hown1 _
      have z3 : w1.frozen? ⟨w.heap.size, k * 6 + 3, none⟩ = false := own_frozen hown1 _
      have z4 : w1.frozen? ⟨w.heap.size, k * 6 + 4, none⟩ = false := own_frozen hown1 _
      have z5 : w1.frozen? ⟨w.heap.size, k * 6 + 5, none⟩ = false := own_frozen hown1 _
      have hsetl : (vs ++ List.replicate (xs.length - k) zbk).set k [.int .i64 x0, .int .i64 x1, .int .i64 x2, .slice B1 x3.length e1, .int .i64 x4, .int .i64 x5] = (vs ++ [[.int .i64 x0, .int .i64 x1, .int .i64 x2, .slice B1 x3.length e1, .int .i64 x4, .int .i64 x5]]) ++ List.replicate (xs.length - (k + 1)) zbk := by
        rw [List.set_append_right _ _ (by omega), hvl, Nat.sub_self, show xs.length - k = (xs.length - (k + 1)) + 1 by omega, List.replicate_succ, List.set_cons_zero, List.append_assoc]
        rfl
      rw [hsetl] at hset
      have HSET := hide hset
      have hch := chg_set6 w1 w.heap.size (k * 6) (.int .i64 x0) (.int .i64 x1) (.int .i64 x2) (.slice B1 x3.length e1) (.int .i64 x4) (.int .i64 x5)
      have hq12 : ∀ q ∈ blk B1, wr.heap.size ≤ q ∧ q < w1.heap.size := fun q hq => (blk_own o1 hq).2
      have hnew : AllO bkO w1 [⟨x0, x1, x2, x3, x4, x5⟩] [[.int .i64 x0, .int .i64 x1, .int .i64 x2, .slice B1 x3.length e1, .int .i64 x4, .int .i64 x5]] [blk B1] := AllO.one ⟨B1, e1, rfl, own_base0 o1, rfl⟩
      have hall2 := (hall1.append hnew).keep bkO_good (w' := _) (fun q hq hqw => hch.block q hqw (fun e => by
        subst e
        rw [List.flatten_append] at hq
        rcases List.mem_append.1 hq with hq | hq
        · have := hgt _ hq; omega
        · have := hq12 _ (by simpa using hq); omega))
      have HALL := hide hall2
      have hnd2 : (w.heap.size :: (fs ++ [blk B1]).flatten).Nodup := by
        rw [List.flatten_append, List.flatten_singleton, ← List.cons_append]
        refine fresh_nodup (m := wr.heap.size) hnd (blk_nodup _) (fun q hq => ?_) (fun q hq => (hq12 q hq).1)
        rcases List.mem_cons.1 hq with rfl | hq
        · exact hG
        · exact hfl q hq
      have hgt2 : ∀ q ∈ (fs ++ [blk B1]).flatten, w.heap.size < q := fun q hq => by
        rw [List.flatten_append, List.flatten_singleton] at hq
        rcases List.mem_append.1 hq with hq | hq
        · exact hgt q hq
        · have := hq12 q hq; omega
      have HND := hide hnd2
      have HGT := hide hgt2
      have HBF := hide (hB1.trans (hch.below (fun q hq e => by omega) hB1.size))
      clear hset hsetl hall hall1 hall2 hnew hnd hnd2 hgt hgt2 hown hown1 hvs hkl hle hcc hvl hve hfl o1 hq12 hch b1 r1
      go_wp2
      go_roundw
      case rel => exact ⟨k + 1, _, _, by omega, by go_num, unhide HSET, by rw [unhide HT]; exact unhide HALL, unhide HND, unhide HGT, unhide HBF⟩
      case measure => simp [intOf]; omega
    · obtain rfl : k = xs.length := by omega
      rw [List.take_length] at hall
      rw [Nat.sub_self, List.replicate_zero, List.append_nil] at hown
      go_wp2
      go_ret
      exact ⟨some ⟨w.heap.size, 0, none⟩, xs.length, w.heap.size :: fs.flatten, rfl, ⟨vs, fs, hall, hown, rfl, hnd⟩, fun q hq => by
        rcases List.mem_cons.1 hq with rfl | hq
        · exact Nat.le_refl _
        · exact Nat.le_of_lt (hgt q hq), hB⟩
set_option maxRecDepth 100000 in
set_option maxHeartbeats 1000000 in
theorem eqBlockS_any (A B : Option Addr) (c d : Nat) (xs ys : List Bk) (w : World) (P Q : Nat → Prop) (hx : RdD bkR P w A xs) (hy : RdD bkR Q w B ys) (hbx : xs.length ≤ 4611686018427387904) (hbs : ∀ x ∈ xs, x.list.length ≤ 4611686018427387904) :
    Calls Tryz.prog 46 #[.slice A xs.length c, .slice B ys.length d] w fun e w' => e = .returned (.bool (decide (xs = ys))) ∧ Below w.heap.size w w' := by
  have HBS := hide hbs
  clear hbs
  by_cases hl : xs.length = ys.length
  · have hd : ((xs.length : Int) != (ys.length : Int)) = false := by simp [hl]
    have HL := hide hl
    have hl1 : xs.length ≤ ys.length := by omega
    have hl2 : ys.length ≤ xs.length := by omega
    clear hl
    go_enter Tryz.func46, Tryz.ntmps46
    go_wp2
    go_loopw [5] (fun i wr => ∃ k : Nat, k ≤ xs.length ∧ i = .int .i64 k ∧ (∀ j (h1 : j < xs.length) (h2 : j < ys.length), j < k → xs[j] = ys[j]) ∧ Below w.heap.size w wr) (fun i _ => xs.length - (intOf i).toNat)
    case atStart => exact ⟨0, Nat.zero_le _, rfl, fun j _ _ h => absurd h (by omega), Below.refl _ _⟩
    case round =>
      obtain ⟨k, hk, rfl, hsame, hbel⟩ := hrel
      have HS := hide hsame
      clear hsame
      by_cases hlt : k < xs.length
      · have hlt2 : k < ys.length := by omega
        obtain ⟨b, off, A1, c1, rfl, hbP, hbb, d0, d1, d2, d3, d4, d5, hl1', r1⟩ := (hx.new bk_good hbel).bk hlt
        obtain ⟨b', off', B1, e1, rfl, hbP', hbb', f0, f1, f2, f3, f4, f5, hl2', q1⟩ := (hy.new bk_good hbel).bk hlt2
        have hx1 := unhide HBS xs[k] (List.getElem_mem hlt)
        generalize hxk : xs[k] = xk at *
        generalize hyk : ys[k] = yk at *
        have HX := hide hxk
        have HY := hide hyk
        clear hxk hyk
        have i1 : (k : Int) < (xs.length : Int) := by omega
        have i2 : (k : Int) < (ys.length : Int) := by omega
        have hbel2 := hbel.drew
        have K := hide (eqBlock_any xk yk A1 c1 B1 e1 wr.drew r1.rd.drew q1.rd.drew hx1)
        clear r1 q1 hl1' hl2'
        by_cases he : xk = yk
        · have hn : decide (xk = yk) = true := by simp [he]
          have HE := hide he
          rw [hn] at K
          clear he hn
          go_wp2
          go_still_tail 8, (by kernel_rfl)
          change wpList _ _ _ _ _ wr.drew
          go_wp2_with fail
          refine (unhide K).mono ?_
          rintro e w1 ⟨rfl, hb1⟩
          go_wp2
          go_roundw
          case rel =>
            refine ⟨k + 1, by omega, by go_num, fun j h1 h2 hj => ?_, below_then hbel2 hb1 hbel2.size⟩
            rcases Nat.lt_or_ge j k with h3 | h3
            · exact unhide HS j h1 h2 h3
            · have : j = k := by omega
              subst this
              exact (unhide HX).trans ((unhide HE).trans (unhide HY).symm)
          case measure => simp [intOf]; omega
        · have hn : decide (xk = yk) = false := by simp [he]
          have HE := hide he
          rw [hn] at K
          clear he hn
          go_wp2
          go_still_tail 8, (by kernel_rfl)
          change wpList _ _ _ _ _ wr.drew
          go_wp2_with fail
          refine (unhide K).mono ?_
          rintro e w1 ⟨rfl, hb1⟩
          go_wp2
          go_ret
          refine ⟨retb ?_, below_then hbel2 hb1 hbel2.size⟩
          symm
          rw [decide_eq_false_iff_not]
          intro hxy
          apply unhide HE
          have h1 := unhide HX
          have h2 := unhide HY
          subst hxy
          exact h1.symm.trans h2
      · go_wp2
        go_ret
        refine ⟨retb ?_, hbel⟩
        symm
        rw [decide_eq_true_iff]
        exact List.ext_getElem (unhide HL) fun j h1 h2 => unhide HS j h1 h2 (by omega)
  · have hd : ((xs.length : Int) != (ys.length : Int)) = true := by simp; omega
    have HL := hide hl
    clear hl
    go_enter Tryz.func46, Tryz.ntmps46
    go_wp2
    go_ret
    refine ⟨retb ?_, Below.refl _ _⟩
    symm
    rw [decide_eq_false_iff_not]
    exact fun h => unhide HL (by rw [h])
/-- how many actions there are -/
def bkTot : List Bk → Nat
  | [] => 0
  | x :: xs => x.list.length + bkTot xs
theorem bkTot_mem {x : Bk} {xs : List Bk} (h : x ∈ xs) : x.list.length ≤ bkTot xs := by
  induction xs with
  | nil => cases h
  | cons y xs ih =>
    rw [bkTot]
    rcases List.mem_cons.1 h with rfl | h
    · omega
    · have := ih h; omega
set_option maxHeartbeats 1000000 in
theorem szBlockS_any (A : Option Addr) (c : Nat) (xs : List Bk) (l : Int) (w : World) (P : Nat → Prop) (h : RdD bkR P w A xs) (hn : xs.length ≤ 9223372036854775807) (h0 : 0 ≤ l) (h1 : l ≤ 1048576) :
    Calls Tryz.prog 33 #[.slice A xs.length c, .int .i64 l] w fun e w' => e = .returned (.int .i64 (szL (xs.length + bkTot xs) l)) ∧ Below w.heap.size w w' := by
  by_cases hl : (xs.length : Int) ≤ l
  · have h2 : 0 ≤ l - (xs.length : Int) := by omega
    have HR := hide (show ∀ z : Int, z - (bkTot xs : Int) = l - (xs.length : Int) - (bkTot xs : Int) → True from fun _ _ => trivial)
    go_enter Tryz.func33, Tryz.ntmps33
    go_wp2
    go_loopw [1, 5] (fun lf i wr => ∃ (k : Nat) (z : Int), k ≤ xs.length ∧ i = .int .i64 k ∧ lf = .int .i64 z ∧ 0 ≤ z ∧ z ≤ l ∧ z - (bkTot (xs.drop k) : Int) = l - (xs.length : Int) - (bkTot xs : Int) ∧ Below w.heap.size w wr) (fun _ i _ => xs.length - (intOf i).toNat)
    case atStart => exact ⟨0, _, Nat.zero_le _, rfl, rfl, by omega, by omega, by rw [List.drop_zero], Below.refl _ _⟩
    case round =>
      obtain ⟨k, z, hk, rfl, rfl, hz0, hz1, hz, hB⟩ := hrel
      by_cases hlt : k < xs.length
      · obtain ⟨b, off, A1, c1, rfl, hbP, hbb, d0, d1, d2, d3, d4, d5, hl1', r1⟩ := (h.new bk_good hB).bk hlt
        rw [drop_get xs k hlt, bkTot] at hz
        have hmx : maxLen = 9223372036854775807 := rfl
        generalize xs[k] = xk at *
        have i1 : (k : Int) < (xs.length : Int) := by omega
        have K := hide (szBlock_any xk A1 c1 z wr (by omega) hz0 (by omega))
        clear hmx hl1' r1
        by_cases hf : (xk.list.length : Int) ≤ z
        · have K2 := unhide K
          rw [if_pos hf] at K2
          have K3 := hide K2
          have HZ := hide (show z - ((xk.list.length : Int)) - (bkTot (xs.drop (k + 1)) : Int) = l - (xs.length : Int) - (bkTot xs : Int) by omega)
          have hnn : 0 ≤ z - ((xk.list.length : Int)) := by omega
          have hnl : z - ((xk.list.length : Int)) ≤ l := by omega
          clear K K2 hz
          go_wp2_with fail
          refine (unhide K3).mono ?_
          rintro e w1 ⟨rfl, b1⟩
          generalize z - ((xk.list.length : Int)) = z2 at *
          have hB1 := bthen hB b1
          go_wp2
          go_roundw
          case rel => exact ⟨k + 1, z2, by omega, by go_num, rfl, hnn, hnl, unhide HZ, hB1⟩
          case measure => simp [intOf]; omega
        · have K2 := unhide K
          rw [if_neg hf] at K2
          have K3 := hide K2
          have HZ := hide (szL_no (n := xs.length + bkTot xs) (l := l) (by omega))
          clear K K2 hz
          go_wp2_with fail
          refine (unhide K3).mono ?_
          rintro e w1 ⟨rfl, b1⟩
          have hB1 := bthen hB b1
          go_wp2
          go_ret
          exact ⟨reti (unhide HZ).symm, hB1⟩
      · obtain rfl : k = xs.length := by omega
        rw [List.drop_length, bkTot] at hz
        have HZ := hide (show z = szL (xs.length + bkTot xs) l by rw [szL_yes (by omega)]; omega)
        clear hz
        go_wp2
        go_ret
        exact ⟨reti (unhide HZ), hB⟩
  · have h2 : l - (xs.length : Int) < 0 := by omega
    have HZ := hide (szL_no (n := xs.length + bkTot xs) (l := l) (by omega))
    go_enter Tryz.func33, Tryz.ntmps33
    go_wp2
    go_ret
    exact ⟨reti (unhide HZ).symm, Below.refl _ _⟩
end Go.Proofs.YtmpdopjailomlaaGreat
