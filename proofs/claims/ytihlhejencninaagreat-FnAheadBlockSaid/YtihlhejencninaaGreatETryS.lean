/- Trials, and copies of effects, of the reference (printed by gen_in.py from xetrys.in). -/
import Derived.Test.YtihlhejencninaaGreatPutV
import Derived.Test.YtihlhejencninaaGreatEngS
import Derived.Test.YtihlhejencninaaGreatGact
import Derived.Test.YtihlhejencninaaGreatL6
import Derived.Test.YtihlhejencninaaGreatStepI
import Derived.Test.YtihlhejencninaaGreatEClone
namespace Go.Proofs.YtihlhejencninaaGreat
open Go.RowKit
set_option linter.unusedVariables false
set_option linter.unusedSimpArgs false

theorem sameEntries_spec (A B : Option Addr) (c d : Nat) (xs ys : List Ent) (w : World) (hx : Rd w A (xs.flatMap encE)) (hy : Rd w B (ys.flatMap encE)) (hbx : xs.length ≤ 4611686018427387904) :
    Calls Tryz.prog 184 #[.slice A xs.length c, .slice B ys.length d] w fun e w' => e = .returned (.bool (decide (xs = ys))) ∧ ∃ m, w.drewN m = w' := by
  by_cases hl : xs.length = ys.length
  · have hd : ((xs.length : Int) != (ys.length : Int)) = false := by simp [hl]
    have HL := hide hl
    have hl1 : xs.length ≤ ys.length := by omega
    have hl2 : ys.length ≤ xs.length := by omega
    clear hl
    go_enter Tryz.func184, Tryz.ntmps184
    go_wp2
    go_loopw [5] (fun i wr => ∃ k : Nat, k ≤ xs.length ∧ i = .int .i64 k ∧ (∀ j (h1 : j < xs.length) (h2 : j < ys.length), j < k → xs[j] = ys[j]) ∧ ∃ m, w.drewN m = wr) (fun i _ => xs.length - (intOf i).toNat)
    case atStart => exact ⟨0, Nat.zero_le _, rfl, fun j _ _ h => absurd h (by omega), 0, rfl⟩
    case round =>
      obtain ⟨k, hk, rfl, hsame, m, rfl⟩ := hrel
      have HS := hide hsame
      clear hsame
      by_cases hlt : k < xs.length
      · have hlt2 : k < ys.length := by omega
        obtain ⟨b, off, rfl, hbb, c0, c1⟩ := hx.ent hlt
        obtain ⟨b', off', rfl, hbb', d0, d1⟩ := hy.ent hlt2
        generalize hxk : xs[k] = xk at *
        generalize hyk : ys[k] = yk at *
        have HX := hide hxk
        have HY := hide hyk
        clear hxk hyk
        have i1 : (k : Int) < (xs.length : Int) := by omega
        have i2 : (k : Int) < (ys.length : Int) := by omega
        have e0 := eqIn_ent xk yk
        have e1 := hm_ent
        by_cases he : xk = yk
        · have e2 : decide (xk = yk) = true := by simpa using he
          have HE := hide he
          clear he
          rw [e2] at e0
          clear e2
          go_wp2
          go_quiet (fail)
          go_wp2
          go_roundw
          case rel =>
            refine ⟨k + 1, by omega, by go_num, fun j h1 h2 h3 => ?_, m + nq, rfl⟩
            rcases Nat.lt_or_ge j k with h4 | h4
            · exact unhide HS j h1 h2 h4
            · have : j = k := by omega
              subst this
              rw [unhide HX, unhide HY]
              exact unhide HE
          case measure => simp [intOf]; omega
        · have e2 : decide (xk = yk) = false := by simpa using he
          have HR := hide (show decide (xs = ys) = false by
            rw [decide_eq_false_iff_not]
            intro hh
            apply he
            subst hh
            rw [← unhide HX, ← unhide HY])
          clear he
          rw [e2] at e0
          clear e2
          go_wp2
          go_quiet (fail)
          go_wp2
          go_ret
          exact ⟨retb (unhide HR).symm, _, (World.drewN_drewN _ _ _).symm⟩
      · have HR := hide (show decide (xs = ys) = true by
          rw [decide_eq_true_eq]
          exact List.ext_getElem (unhide HL) fun j h1 h2 => unhide HS j h1 h2 (by omega))
        go_wp2
        go_ret
        exact ⟨retb (unhide HR).symm, m, rfl⟩
  · have hd : ((xs.length : Int) != (ys.length : Int)) = true := by simp; omega
    have HR := hide (show decide (xs = ys) = false by rw [decide_eq_false_iff_not]; intro hh; exact hl (by rw [hh]))
    clear hl
    go_enter Tryz.func184, Tryz.ntmps184
    go_wp2
    go_ret
    exact ⟨retb (unhide HR).symm, 0, rfl⟩
set_option maxRecDepth 100000 in
set_option maxHeartbeats 4000000 in
theorem effCopy_spec (x : Eff) (A1 : Option Addr) (c1 : Nat) (A2 : Option Addr) (c2 : Nat) (w : World) (h1 : Rd w A1 (x.reads.flatMap encE)) (h2 : Rd w A2 (x.writes.flatMap encE)) (hb1 : x.reads.length ≤ 1000000) (hb2 : x.writes.length ≤ 1000000) :
    Calls Tryz.prog 120 #[.agg #[.bool x.done, .slice A1 x.reads.length c1, .slice A2 x.writes.length c2]] w fun e w' => ∃ B1 d1 B2 d2, e = .returned (.agg #[.bool x.done, .slice B1 x.reads.length d1, .slice B2 x.writes.length d2]) ∧ (x.reads.length ≤ d1 ∧ d1 ≤ maxLen) ∧ (x.writes.length ≤ d2 ∧ d2 ≤ maxLen) ∧ RdP (fun k => w.heap.size ≤ k) w' B1 (x.reads.flatMap encE) ∧ RdP (fun k => w.heap.size ≤ k) w' B2 (x.writes.flatMap encE) ∧ Below w.heap.size w w' := by
  obtain ⟨W, hW⟩ : ∃ W : World, W = (w.alloc (.cells #[.bool x.done, .slice A1 x.reads.length c1, .slice A2 x.writes.length c2] 107)).alloc (.cells #[.bool false, .slice none 0 0, .slice none 0 0] 107) := ⟨_, rfl⟩
  have hb0 : Below w.heap.size w W := by rw [hW]; exact ((Below.refl _ _).alloc (Nat.le_refl _) _).alloc (by simp) _
  have K0 : Blk W w.heap.size 107 #[.bool x.done, .slice A1 x.reads.length c1, .slice A2 x.writes.length c2] := by rw [hW]; exact (Blk.new _ _ _).alloc _
  have K1 : Blk W (w.heap.size + 1) 107 #[.bool false, .slice none 0 0, .slice none 0 0] := by
    rw [hW]
    have := Blk.new (w.alloc (.cells #[.bool x.done, .slice A1 x.reads.length c1, .slice A2 x.writes.length c2] 107)) 107 #[.bool false, .slice none 0 0, .slice none 0 0]
    simpa using this
  have hW1 := K1.lt
  have HX := hide (fun (w' : World) (hb : Below W.heap.size W w') => show w'.cell? ⟨w.heap.size, 0, none⟩ = some (.bool x.done) ∧ w'.cell? ⟨w.heap.size, 1, none⟩ = some (.slice A1 x.reads.length c1) ∧ w'.cell? ⟨w.heap.size, 2, none⟩ = some (.slice A2 x.writes.length c2) ∧ Rd w' A1 (x.reads.flatMap encE) ∧ Rd w' A2 (x.writes.flatMap encE) from ⟨(K0.new_ hb).cell 0, (K0.new_ hb).cell 1, (K0.new_ hb).cell 2, h1.new (bthen hb0 hb), h2.new (bthen hb0 hb)⟩)
  clear h1 h2 K0
  go_enter Tryz.func120, Tryz.ntmps120
  go_wp2
  rw [← hW]
  clear hW
  have hF : StBL [bV (.pointer (some ⟨w.heap.size, 0, none⟩)), bV (.bool x.done), eOwn 79 2 W.heap.size, bV (.pointer (some ⟨w.heap.size, 1, none⟩)), bV (.slice A1 x.reads.length c1), sOwn W.heap.size x.reads, eOwn 79 2 W.heap.size, bV (.pointer (some ⟨w.heap.size, 2, none⟩)), bV (.slice A2 x.writes.length c2), sOwn W.heap.size x.writes] :=
    ⟨sb_V _, sb_V _, sb_eOwn _ _ _, sb_V _, sb_V _, sb_Own _ _, sb_eOwn _ _ _, sb_V _, sb_V _, sb_Own _ _, trivial⟩
  go_upto_region 1 with fail
  refine wp_region_loc (by kernel_rfl) [(0, some 3), (1, some 4), (2, some 5), (3, some 6), (4, some 7), (5, some 8), (6, some 9), (7, some 10), (8, some 11), (9, some 12)] [[], [(0, some 3)], [], [], [(3, some 6)], [(2, some 5), (4, some 7)], [], [], [(7, some 10)], [(6, some 9), (8, some 11)]] (by kernel_rfl)
    (locB _) (fun a b => Below a.heap.size a b) noR [0, 0, 0, 0, 0, 0, 0, 0, 0, 0] 0 (by kernel_rfl) (fun _ => Below.refl _ _) (fun _ _ _ => bthen) (locB_st hF _) trivial ?_ ?_
  · refine steps_cons ?s0 ( steps_cons ?s1 ( steps_cons ?s2 ( steps_cons ?s3 ( steps_cons ?s4 ( steps_cons ?s5 ( steps_cons ?s6 ( steps_cons ?s7 ( steps_cons ?s8 ( steps_cons ?s9 steps_nil)))))))))
    case s0 =>
      intro w' m' hE hR
      intro Q hQ
      go_wp2
      exact hQ _ _ _ rfl rfl (Below.refl _ _) trivial
    case s1 =>
      intro w' m' hE hR
      rintro _ rfl Q hQ
      obtain ⟨y0, y1, y2, r1, r2⟩ := unhide HX w' (below_undrew hE)
      go_wp2
      exact hQ _ _ _ rfl rfl (Below.refl _ _) trivial
    case s2 =>
      intro w' m' hE hR
      intro Q hQ
      have hsz := hE.size
      go_wp2
      exact hQ _ _ _ rfl ⟨_, rfl, by simpa using own_made (base := W.heap.size) (e := 79) (size := 2) w' #[] 0 hsz (by simp [maxLen]) rfl⟩ ((Below.refl _ _).alloc (Nat.le_refl _) _) trivial
    case s3 =>
      intro w' m' hE hR
      intro Q hQ
      go_wp2
      exact hQ _ _ _ rfl rfl (Below.refl _ _) trivial
    case s4 =>
      intro w' m' hE hR
      rintro _ rfl Q hQ
      obtain ⟨y0, y1, y2, r1, r2⟩ := unhide HX w' (below_undrew hE)
      go_wp2
      exact hQ _ _ _ rfl rfl (Below.refl _ _) trivial
    case s5 =>
      intro w' m' hE hR
      rintro _ ⟨A', rfl, oA⟩ _ rfl Q hQ
      obtain ⟨y0, y1, y2, r1, r2⟩ := unhide HX w' (below_undrew hE)
      have hsz := hE.size
      refine wpList_app0 rfl (.tmp 5) (.tmp 7) 34 rfl el_ent rfl oA rfl r1 (length_flat encE 2 encE_len x.reads) (one_ents x.reads) (by simp only [maxLen]; omega) (by omega) hsz ?_
      intro A9 c9 w2 o2 b2
      go_wp2
      exact hQ _ _ _ rfl ⟨A9, c9, rfl, o2⟩ b2 trivial
    case s6 =>
      intro w' m' hE hR
      intro Q hQ
      have hsz := hE.size
      go_wp2
      exact hQ _ _ _ rfl ⟨_, rfl, by simpa using own_made (base := W.heap.size) (e := 79) (size := 2) w' #[] 0 hsz (by simp [maxLen]) rfl⟩ ((Below.refl _ _).alloc (Nat.le_refl _) _) trivial
    case s7 =>
      intro w' m' hE hR
      intro Q hQ
      go_wp2
      exact hQ _ _ _ rfl rfl (Below.refl _ _) trivial
    case s8 =>
      intro w' m' hE hR
      rintro _ rfl Q hQ
      obtain ⟨y0, y1, y2, r1, r2⟩ := unhide HX w' (below_undrew hE)
      go_wp2
      exact hQ _ _ _ rfl rfl (Below.refl _ _) trivial
    case s9 =>
      intro w' m' hE hR
      rintro _ ⟨A', rfl, oA⟩ _ rfl Q hQ
      obtain ⟨y0, y1, y2, r1, r2⟩ := unhide HX w' (below_undrew hE)
      have hsz := hE.size
      refine wpList_app0 rfl (.tmp 9) (.tmp 11) 34 rfl el_ent rfl oA rfl r2 (length_flat encE 2 encE_len x.writes) (one_ents x.writes) (by simp only [maxLen]; omega) (by omega) hsz ?_
      intro A9 c9 w2 o2 b2
      go_wp2
      exact hQ _ _ _ rfl ⟨A9, c9, rfl, o2⟩ b2 trivial
  intro w9 hE _
  rintro v0 - v1 hv1 v2 - v3 - v4 - v5 ⟨B1, d1, rfl, o1⟩ v6 - v7 - v8 - v9 ⟨B2, d2, rfl, o2⟩
  obtain rfl : v1 = _ := hv1
  change wpList _ _ _ [_, _] _ _
  simp only [Act.put, List.setIfInBounds_toArray, List.set_cons_succ, List.set_cons_zero]
  have b9 := below_undrew hE
  have k9 := K1.new_ b9
  clear hE hF
  go_wp2_with (refine wpList_store_row rfl 107 (.tmp 2) (.tmp 13) rfl (w.heap.size + 1) #[.bool x.done, .slice B1 x.reads.length d1, .slice B2 x.writes.length d2] rfl rfl 107 #[.bool false, .slice none 0 0, .slice none 0 0] k9 info_eff3 rfl (eff3_one _ _ _ _ _ _ _) ?_)
  refine bodyPost_ret (v := .agg #[.bool x.done, .slice B1 x.reads.length d1, .slice B2 x.writes.length d2]) (results_cell_row (p := 2) (ty := 107) rfl _ _ (w.heap.size + 1) 107 #[.bool x.done, .slice B1 x.reads.length d1, .slice B2 x.writes.length d2] (0, 0) _ rfl (blk_setRow k9) Tryz.underlying107 rfl info_eff3) rfl ?_
  exact ⟨B1, d1, B2, d2, rfl, own_cap o1, own_cap o2, own_rdB (own_setRow o1 (by omega) _) (by omega), own_rdB (own_setRow o2 (by omega) _) (by omega), below_setRow (bthen hb0 b9) (by omega) _⟩
theorem rdK_app {A' A9 AK : Option Addr} {xs : List Value} {w w9 : World} {o : Obj} {T : Prop} (h : RdP (fun k => A' ≠ some ⟨k, 0, none⟩) w AK xs) (ch : Chg (fun k => A' = some ⟨k, 0, none⟩) (w.alloc o) w9) (d : A9 = A' ∨ (A9 = some ⟨(w.alloc o).heap.size, 0, none⟩ ∧ T)) : RdP (fun k => A9 ≠ some ⟨k, 0, none⟩) w9 AK xs := by
  have h1 : RdP (fun k => A' ≠ some ⟨k, 0, none⟩ ∧ k < w.heap.size) w AK xs := h.mono fun k hk hkl => ⟨hk, hkl⟩
  have h2 := (h1.keep (Kp.alloc _ w o)).keep (Kp.chg ch fun k hk => hk.1)
  refine h2.mono fun k hk _ => ?_
  rcases d with rfl | ⟨rfl, _⟩
  · exact hk.1
  · intro he
    injection he with he
    injection he with he
    have := hk.2
    simp at he
    omega
set_option maxRecDepth 100000 in
set_option maxHeartbeats 4000000 in
theorem try_spec (e : Eng) (A1 : Option Addr) (c1 : Nat) (A3 : Option Addr) (c3 : Nat) (n : Nat) (w : World) (h1 : Rd w A1 (e.base.flatMap encE)) (h3 : Rd w A3 (e.vers.flatMap encV)) (hok : EngOk e) (hn : n < e.slots.length) :
    Calls Tryz.prog 158 #[.slice A1 e.base.length c1, .agg #[.int .i64 (acAt e n).kind, .int .i64 (acAt e n).src, .int .i64 (acAt e n).dst, .int .i64 (acAt e n).amt], .slice A3 e.vers.length c3, .int .i64 (n : Int)] w fun x w' => ∃ B1 d1 B2 d2 B3 d3, x = .returned (.tuple #[.agg #[.bool (effN e n).done, .slice B1 (effN e n).reads.length d1, .slice B2 (effN e n).writes.length d2], .slice B3 (whoL e.base e.vers n (acAt e n)).length d3]) ∧ w'.ownsRow w.heap.size 79 2 (.slice B1 (effN e n).reads.length d1) (effN e n).reads.length ((effN e n).reads.flatMap encE) ∧ w'.ownsRow w.heap.size 79 2 (.slice B2 (effN e n).writes.length d2) (effN e n).writes.length ((effN e n).writes.flatMap encE) ∧ w'.ownsRow w.heap.size 3 1 (.slice B3 (whoL e.base e.vers n (acAt e n)).length d3) (whoL e.base e.vers n (acAt e n)).length ((whoL e.base e.vers n (acAt e n)).map (.int .i64)) ∧ Below w.heap.size w w' := by
  have ha := hok.act hn
  have hbl := hok.base_len
  have hvl := hok.vlen
  have HACT := hide ha
  have hsd := actB_bd ha
  have HRD := hide (fun (k : Int) (hk : 0 ≤ k ∧ k ≤ 31) => (hok.read hk n).1)
  have HEF := hide (show effN e n = actEff (acAt e n) (readV e.base e.vers (acAt e n).src n).1 (readV e.base e.vers (acAt e n).dst n).1 by
    unfold effN runV
    rw [nowV_at _ _ _ hsd.1, nowV_at _ _ _ hsd.2.1])
  have hx := unhide HRD _ hsd.1
  have hy := unhide HRD _ hsd.2.1
  have HXY := hide (And.intro hx hy)
  have hrl := actReads_len (acAt e n)
  clear hx hy hsd ha HRD
  generalize acAt e n = a at *
  obtain ⟨W, hW⟩ : ∃ W : World, W = (w.alloc (.cells #[.int .i64 a.kind, .int .i64 a.src, .int .i64 a.dst, .int .i64 a.amt] 56)).alloc (.cells #[.bool false, .slice none 0 0, .slice none 0 0] 107) := ⟨_, rfl⟩
  have hb0 : Below w.heap.size w W := by rw [hW]; exact ((Below.refl _ _).alloc (Nat.le_refl _) _).alloc (by simp) _
  have K0 : Blk W w.heap.size 56 #[.int .i64 a.kind, .int .i64 a.src, .int .i64 a.dst, .int .i64 a.amt] := by rw [hW]; exact (Blk.new _ _ _).alloc _
  have K1 : Blk W (w.heap.size + 1) 107 #[.bool false, .slice none 0 0, .slice none 0 0] := by
    rw [hW]
    have := Blk.new (w.alloc (.cells #[.int .i64 a.kind, .int .i64 a.src, .int .i64 a.dst, .int .i64 a.amt] 56)) 107 #[.bool false, .slice none 0 0, .slice none 0 0]
    simpa using this
  have hW1 := K1.lt
  have hW0 : w.heap.size < W.heap.size := by omega
  have HRV := hide (fun (key : Int) (w' : World) (hb : Below W.heap.size W w') => read_spec A1 c1 e.base A3 c3 e.vers key (n : Int) w' (h1.new (bthen hb0 hb)) (by omega) (h3.new (bthen hb0 hb)) (by omega))
  obtain ⟨y0, y1, y2, y3⟩ : W.cell? ⟨w.heap.size, 0, none⟩ = some (.int .i64 a.kind) ∧ W.cell? ⟨w.heap.size, 1, none⟩ = some (.int .i64 a.src) ∧ W.cell? ⟨w.heap.size, 2, none⟩ = some (.int .i64 a.dst) ∧ W.cell? ⟨w.heap.size, 3, none⟩ = some (.int .i64 a.amt) := ⟨K0.cell 0, K0.cell 1, K0.cell 2, K0.cell 3⟩
  clear h1 h3
  go_enter Tryz.func158, Tryz.ntmps158
  go_wp2_with fail
  rw [← hW]
  clear hW
  refine (unhide HRV a.src W (Below.refl _ _)).mono ?_
  rintro x w' ⟨rfl, rfl⟩
  go_wp2_with fail
  refine (unhide HRV a.dst W (Below.refl _ _)).mono ?_
  rintro x w' ⟨rfl, rfl⟩
  have be : Below W.heap.size W (W.alloc (.cells #[] 3)) := (Below.refl _ _).alloc (Nat.le_refl _) _
  have oe := own_made (base := W.heap.size) (e := 3) (size := 1) W #[] 0 (Nat.le_refl _) (by simp [maxLen]) rfl
  go_wp2_with fail
  refine (actionReads_spec a _ (unhide HACT)).mono ?_
  rintro x w3 ⟨AK, ck, rfl, oK, b3⟩
  have b03 := bthen be b3
  have o3 := own_new oe b3
  have hKr := own_rng oK
  simp only [World.size_alloc] at hKr
  have rK := own_rd oK
  have HRK0 := hide (show RdP (fun q => some (⟨W.heap.size, 0, none⟩ : Addr) ≠ some ⟨q, 0, none⟩) w3 AK ((actReads a).map (.int .i64)) from (own_rdP oK).mono fun q hq _ he => by injection he with he; injection he with he; have := hq.1; simp at this; omega)
  have HK0 := hide (fun (w' : World) (hb : Below W.heap.size W w') => K0.new_ hb)
  have HK1 := hide (fun (w' : World) (hb : Below W.heap.size W w') => K1.new_ hb)
  have h3w := b03.size
  obtain ⟨ks, hks⟩ : ∃ ks, ks = actReads a := ⟨_, rfl⟩
  have HWH := hide (show whoL e.base e.vers n a = (actReads a).map fun k => (readV e.base e.vers k n).2 from rfl)
  rw [← hks] at HRK0 hrl ⊢
  have HKS := hide hks.symm
  have hwl : (whoL e.base e.vers n a).length = ks.length := by rw [unhide HWH, List.length_map, unhide HKS]
  clear hks oK rK y0 y1 y2 y3 be K0 K1 oe b3
  go_wp2
  go_loopw [14, 16, 17, 18] (fun r i _ _ wr => ∃ (j : Nat) (A' : Option Addr) (c' : Nat), j ≤ ks.length ∧ i = .int .i64 j ∧ r = .slice A' j c' ∧ wr.ownsRow W.heap.size 3 1 (.slice A' j c') j (((ks.take j).map fun k => (readV e.base e.vers k n).2).map (.int .i64)) ∧ RdP (fun q => A' ≠ some ⟨q, 0, none⟩) wr AK (ks.map (.int .i64)) ∧ Below W.heap.size W wr) (fun _ i _ _ _ => ks.length - (intOf i).toNat)
  case atStart => exact ⟨0, _, _, Nat.zero_le _, rfl, rfl, by simpa using o3, unhide HRK0, b03⟩
  case round =>
    clear o3 b03
    obtain ⟨j, A', c', hj, rfl, rfl, hown, hrK, hB⟩ := hrel
    have hsz := hB.size
    by_cases hlt : j < ks.length
    · have j1 : (j : Int) < (ks.length : Int) := by omega
      obtain ⟨bk, ok, hAK, hbk, u0⟩ := hrK.rd.int hlt
      have HT := hide (show ((ks.take (j + 1)).map fun k => (readV e.base e.vers k n).2).map (Value.int .i64) = ((ks.take j).map fun k => (readV e.base e.vers k n).2).map (Value.int .i64) ++ [.int .i64 (readV e.base e.vers ks[j] n).2] by rw [List.take_succ_eq_append_getElem hlt, List.map_append, List.map_append]; rfl)
      generalize ks[j] = key at *
      have HAK := hide hAK
      clear hAK
      rw [unhide HAK]
      have hrg := own_rng hown
      go_wp2_with fail
      refine (unhide HRV key wr hB).mono ?_
      rintro x w' ⟨rfl, rfl⟩
      go_wp2_with (at_builtin; refine wpList_app rfl (.tmp 57) (.tmp 59) 26 rfl el_int rfl (own_alloc hown _) rfl (rd_lit wr [.int .i64 (readV e.base e.vers key n).2] _) rfl (by simp [Value.oneCell']) (by simp only [maxLen]; omega) (by omega) (by simp; omega) ?_; intro A9 c9 w9 o9 ch9 d9 _)
      have rK9 := rdK_app hrK ch9 d9
      have bW9 : Below W.heap.size W w9 := (hB.alloc hsz _).trans (ch9.below (fun q hq e => by have := hrg q e; omega) (by simp; omega))
      go_roundw
      case rel => exact ⟨j + 1, A9, c9, by omega, by go_num, rfl, by rw [unhide HT]; exact o9, by rw [← unhide HAK]; exact rK9, bW9⟩
      case measure => simp [intOf]; omega
    · obtain rfl : j = ks.length := by omega
      have HE := hide (show (ks.map fun k => (readV e.base e.vers k n).2) = whoL e.base e.vers n a by rw [unhide HWH, unhide HKS])
      rw [List.take_length, unhide HE] at hown
      have k0 := unhide HK0 wr hB
      obtain ⟨y0, y1, y2, y3⟩ : wr.cell? ⟨w.heap.size, 0, none⟩ = some (.int .i64 a.kind) ∧ wr.cell? ⟨w.heap.size, 1, none⟩ = some (.int .i64 a.src) ∧ wr.cell? ⟨w.heap.size, 2, none⟩ = some (.int .i64 a.dst) ∧ wr.cell? ⟨w.heap.size, 3, none⟩ = some (.int .i64 a.amt) := ⟨k0.cell 0, k0.cell 1, k0.cell 2, k0.cell 3⟩
      have KL := l6Run_any a (readV e.base e.vers a.src n).1 (readV e.base e.vers a.dst n).1 wr (unhide HACT) (unhide HXY).1 (unhide HXY).2
      rw [← unhide HEF] at KL
      have HWL := hide hwl
      clear hwl hrK k0
      generalize hE : effN e n = E at *
      have HEE := hide hE
      clear hE
      go_wp2_with fail
      refine KL.mono ?_
      rintro x w5 ⟨X1, z1, X2, z2, rfl, p1, p2, -, b5⟩
      have kR := unhide HK1 w5 (bthen hB b5)
      have o5 := own_new hown b5
      have h5 := b5.size
      go_wp2_with (refine wpList_store_row rfl 107 (.tmp 8) (.tmp 64) rfl (w.heap.size + 1) #[.bool E.done, .slice X1 E.reads.length z1, .slice X2 E.writes.length z2] rfl rfl 107 #[.bool false, .slice none 0 0, .slice none 0 0] kR info_eff3 rfl (eff3_one _ _ _ _ _ _ _) ?_)
      refine bodyPost_ret (v := .tuple #[.agg #[.bool E.done, .slice X1 E.reads.length z1, .slice X2 E.writes.length z2], .slice A' ks.length c']) (results_cell_tmp (p := 8) (q := 9) (ty := 107) rfl _ _ (w.heap.size + 1) 107 #[.bool E.done, .slice X1 E.reads.length z1, .slice X2 E.writes.length z2] (0, 0) _ rfl (blk_setRow kR) Tryz.underlying107 rfl info_eff3) rfl ?_
      rw [← unhide HWL] at o5 ⊢
      have q1 := own_base (base' := w.heap.size) (own_setRow p1 (show w.heap.size + 1 < wr.heap.size by omega) #[.bool E.done, .slice X1 E.reads.length z1, .slice X2 E.writes.length z2]) (by omega)
      have q2 := own_base (base' := w.heap.size) (own_setRow p2 (show w.heap.size + 1 < wr.heap.size by omega) #[.bool E.done, .slice X1 E.reads.length z1, .slice X2 E.writes.length z2]) (by omega)
      have q3 := own_base (base' := w.heap.size) (own_setRow o5 (show w.heap.size + 1 < W.heap.size by omega) #[.bool E.done, .slice X1 E.reads.length z1, .slice X2 E.writes.length z2]) (by omega)
      rw [unhide HEE]
      exact ⟨X1, z1, X2, z2, A', c', rfl, q1, q2, q3, below_setRow (bthen' hb0 (bthen hB b5)) (by omega) _⟩
end Go.Proofs.YtihlhejencninaaGreat
