/- The law FnPruneTree: the walk (printed by gen_in.py from xlawfprunetree.in). -/
import Derived.Test.YtefdhlfljpppfaaGreatGdrawt
import Derived.Test.YtefdhlfljpppfaaGreatGprune
import Derived.Test.YtefdhlfljpppfaaGreatSums
import Derived.Test.YtefdhlfljpppfaaGreatGtree
import Derived.Test.YtefdhlfljpppfaaGreatSameS
namespace Go.Proofs.YtefdhlfljpppfaaGreat
open Go.RowKit
set_option linter.unusedVariables false
set_option linter.unusedSimpArgs false

theorem pruneT_lists {t : Tr} {n : Int} {m : Nat} (h : ∀ x ∈ t.blocks, x.list.length ≤ m) : ∀ x ∈ (pruneT t n).blocks, x.list.length ≤ m := by
  intro x hx
  unfold pruneT at hx
  split at hx
  · split at hx
    · obtain ⟨k, hk, rfl⟩ := List.mem_map.1 hx
      have h2 := keptL_mem hk
      rw [bAt_get t (by omega)]
      exact h _ (List.getElem_mem _)
    · exact h x hx
  · cases hx
theorem pruneT_bad {t : Tr} {n : Int} (h : pruneOk t n = false) : (pruneT t n).blocks.length = 0 ∨ pruneT t n = t := by
  cases hv : treeB t
  · rw [pruneT_no hv]; exact .inl rfl
  · refine .inr (pruneT_out hv ?_)
    simpa [pruneOk, hv] using h
def stR (s : List Ent) (v : Value) (w : World) : Prop := ∃ A c, v = .slice A s.length c ∧ Rd w A (s.flatMap encE)
theorem sb_stR (s : List Ent) : StB (stR s) := fun _ _ _ hb ⟨A, c, h1, h2⟩ => ⟨A, c, h1, h2.new hb⟩
def lenR (n : Nat) (v : Value) (w : World) : Prop := ∃ A c, v = .slice A n c
theorem sb_lenR (n : Nat) : StB (lenR n) := fun _ _ _ _ h => h
set_option maxRecDepth 100000 in
set_option maxHeartbeats 8000000 in
theorem law_FnPruneTree (A : Option Addr) (c : Nat) (bs : List Int) (w : World) (h : Rd w A (bs.map (.int .u8))) (hw : ∀ b ∈ bs, 0 ≤ b ∧ b ≤ 255) (hc : bs.length ≤ c) (hm : c ≤ maxLen) :
    Calls Tryz.prog 7 #[.slice A bs.length c] w fun e w' => e = .returned (.bool true) ∧ Below w.heap.size w w' := by
  have hm2 : bs.length ≤ 9223372036854775807 := by simp only [maxLen] at hm; omega
  by_cases hl : (1048576 : Int) < (bs.length : Int)
  · clear hw
    go_enter Tryz.func7, Tryz.ntmps7
    go_wp2
    go_ret
    exact ⟨rfl, Below.refl _ _⟩
  have HW := hide hw
  have HC := hide hc
  have HM := hide hm
  clear hw hc hm
  go_enter Tryz.func7, Tryz.ntmps7
  go_wp2_with fail
  refine (DrawPruneTree_any A c bs w h (unhide HW) (unhide HC) (unhide HM)).mono ?_
  rintro e w1 ⟨t, A1, c1, A2, c2, A3, c3, z, rfl, hz, ⟨hd1, ⟨hd2, hd2'⟩, hd3, hd4⟩, hR1, hB⟩
  clear h hz
  go_wp2_with (refine wpList_store_row rfl 27 (.tmp 3) (.tmp 20) rfl w1.heap.size #[.slice A1 t.base.length c1, .slice A2 t.blocks.length c2, .slice A3 t.before.length c3] rfl rfl 27 #[.slice none 0 0, .slice none 0 0, .slice none 0 0] (box_new w1 27 #[.slice none 0 0, .slice none 0 0, .slice none 0 0] #[.slice A1 t.base.length c1, .slice A2 t.blocks.length c2, .slice A3 t.before.length c3]).1 info_tr rfl (sl3_one _ _ _ _ _ _ _ _ _) ?_; refine at_world (C := fun W => wpList _ _ _ _ _ W) (F := fun W => Blk W w1.heap.size 27 #[.slice A1 t.base.length c1, .slice A2 t.blocks.length c2, .slice A3 t.before.length c3] ∧ Below w1.heap.size w1 W) ⟨(box_new w1 27 #[.slice none 0 0, .slice none 0 0, .slice none 0 0] #[.slice A1 t.base.length c1, .slice A2 t.blocks.length c2, .slice A3 t.before.length c3]).2.1, (box_new w1 27 #[.slice none 0 0, .slice none 0 0, .slice none 0 0] #[.slice A1 t.base.length c1, .slice A2 t.blocks.length c2, .slice A3 t.before.length c3]).2.2⟩ ?_; rintro w2 ⟨kb, b2⟩; obtain ⟨bx, hbx⟩ : ∃ q, q = w1.heap.size := ⟨_, rfl⟩; rw [← hbx] at kb ⊢; have Hbx := hide hbx; clear hbx; have x0 : w2.cell? ⟨bx, 0, none⟩ = some (.slice A1 t.base.length c1) := kb.cell 0; have x1 : w2.cell? ⟨bx, 1, none⟩ = some (.slice A2 t.blocks.length c2) := kb.cell 1; have x2 : w2.cell? ⟨bx, 2, none⟩ = some (.slice A3 t.before.length c3) := kb.cell 2)
  have hbx1 : w.heap.size ≤ bx := by have := hB.size; have := unhide Hbx; omega
  replace hB := bthen hB b2
  have hbl := kb.lt
  have HR := hide (fun (w' : World) (hb : Below w2.heap.size w2 w') => hR1.new (bthen b2 hb))
  have HD4 := hide (fun x (hx : x ∈ t.blocks) => show x.list.length ≤ 1099511627776 by have := hd4 x hx; omega)
  have HX := hide (fun (w' : World) (hb : Below w2.heap.size w2 w') => show (w'.cell? ⟨bx, 0, none⟩ = some (.slice A1 t.base.length c1) ∧ w'.cell? ⟨bx, 1, none⟩ = some (.slice A2 t.blocks.length c2) ∧ w'.cell? ⟨bx, 2, none⟩ = some (.slice A3 t.before.length c3)) from ⟨(kb.new_ hb).cell 0, (kb.new_ hb).cell 1, (kb.new_ hb).cell 2⟩)
  have HPI := hide (fun (w' : World) (hb : Below w2.heap.size w2 w') => prune_impl t A1 c1 A2 c2 A3 c3 z w' (unhide HR w' hb) (by omega) (by omega) (unhide HD4) (by omega))
  have HPS := hide (fun (w' : World) (hb : Below w2.heap.size w2 w') => prune_spec t A1 c1 A2 c2 A3 c3 z w' (unhide HR w' hb) (by omega) (by omega) (unhide HD4) (by omega))
  have HKI := hide (fun (w' : World) (hb : Below w2.heap.size w2 w') => kept_impl t A1 c1 A2 c2 A3 c3 z w' (unhide HR w' hb) (by omega) (by omega) (unhide HD4) (by omega))
  have HST := hide (fun (w' : World) (hb : Below w2.heap.size w2 w') => storeOf_impl t A1 c1 A2 c2 A3 c3 z w' (unhide HR w' hb) (by omega) (by omega) (unhide HD4) (by omega))
  have HPL := hide (pruneT_lens t z)
  have HPQ := hide (pruneT_lists (n := z) (unhide HD4))
  have HBAD := hide (fun (hok : pruneOk t z = false) => pruneT_bad hok)
  have HALL := hide (fun (hok : pruneOk t z = true) => prune_all hok)
  have hkl := keptL_len t z
  have hsl := storeT_len t z
  simp only [trA] at HPI HPS HKI HST
  clear hR1 hd4 kb b2
  refine (unhide HPI w2 (Below.refl _ _)).mono ?_
  rintro e w3 ⟨B1, d1, B2, d2, B3, d3, fp, rfl, tX, b3⟩
  have tX3 := tX.rd
  clear x0 x1 x2 tX
  generalize pruneT t z = x at *
  generalize pruneOk t z = ok at *
  generalize keptL t z = ks at *
  generalize storeT t z = st at *
  go_wp2_with (refine wpList_store_row rfl 27 (.tmp 5) (.tmp 26) rfl w3.heap.size #[.slice B1 x.base.length d1, .slice B2 x.blocks.length d2, .slice B3 x.before.length d3] rfl rfl 27 #[.slice none 0 0, .slice none 0 0, .slice none 0 0] (box_new w3 27 #[.slice none 0 0, .slice none 0 0, .slice none 0 0] #[.slice B1 x.base.length d1, .slice B2 x.blocks.length d2, .slice B3 x.before.length d3]).1 info_tr rfl (sl3_one _ _ _ _ _ _ _ _ _) ?_; refine at_world (C := fun W => wpList _ _ _ _ _ W) (F := fun W => Blk W w3.heap.size 27 #[.slice B1 x.base.length d1, .slice B2 x.blocks.length d2, .slice B3 x.before.length d3] ∧ Below w3.heap.size w3 W) ⟨(box_new w3 27 #[.slice none 0 0, .slice none 0 0, .slice none 0 0] #[.slice B1 x.base.length d1, .slice B2 x.blocks.length d2, .slice B3 x.before.length d3]).2.1, (box_new w3 27 #[.slice none 0 0, .slice none 0 0, .slice none 0 0] #[.slice B1 x.base.length d1, .slice B2 x.blocks.length d2, .slice B3 x.before.length d3]).2.2⟩ ?_; rintro w4 ⟨kx, b4⟩; obtain ⟨bq, hbq⟩ : ∃ q, q = w3.heap.size := ⟨_, rfl⟩; rw [← hbq] at kx ⊢; have Hbq := hide hbq; clear hbq; have bxx := bthen b3 b4; obtain ⟨x0, x1, x2⟩ := unhide HX w4 bxx)
  refine (unhide HPS w4 bxx).mono ?_
  rintro e w5 ⟨D1, e1, D2, e2, D3, e3, fq, rfl, tY, b5⟩
  have tY5 := tY.rd
  have tX5 := (tX3.new b4).new b5
  have kx5 := kx.new_ b5
  have b25 := bthen bxx b5
  clear x0 x1 x2 tY tX3 kx bxx b3 b4 b5
  go_wp2_with (refine wpList_store_row rfl 27 (.tmp 7) (.tmp 32) rfl w5.heap.size #[.slice D1 x.base.length e1, .slice D2 x.blocks.length e2, .slice D3 x.before.length e3] rfl rfl 27 #[.slice none 0 0, .slice none 0 0, .slice none 0 0] (box_new w5 27 #[.slice none 0 0, .slice none 0 0, .slice none 0 0] #[.slice D1 x.base.length e1, .slice D2 x.blocks.length e2, .slice D3 x.before.length e3]).1 info_tr rfl (sl3_one _ _ _ _ _ _ _ _ _) ?_; refine at_world (C := fun W => wpList _ _ _ _ _ W) (F := fun W => Blk W w5.heap.size 27 #[.slice D1 x.base.length e1, .slice D2 x.blocks.length e2, .slice D3 x.before.length e3] ∧ Below w5.heap.size w5 W) ⟨(box_new w5 27 #[.slice none 0 0, .slice none 0 0, .slice none 0 0] #[.slice D1 x.base.length e1, .slice D2 x.blocks.length e2, .slice D3 x.before.length e3]).2.1, (box_new w5 27 #[.slice none 0 0, .slice none 0 0, .slice none 0 0] #[.slice D1 x.base.length e1, .slice D2 x.blocks.length e2, .slice D3 x.before.length e3]).2.2⟩ ?_; rintro w6 ⟨ky, b6⟩; obtain ⟨br, hbr⟩ : ∃ q, q = w5.heap.size := ⟨_, rfl⟩; rw [← hbr] at ky ⊢; have Hbr := hide hbr; clear hbr; have kx6 := kx5.new_ b6; have p0 : w6.cell? ⟨bq, 0, none⟩ = some (.slice B1 x.base.length d1) := kx6.cell 0; have p1 : w6.cell? ⟨bq, 1, none⟩ = some (.slice B2 x.blocks.length d2) := kx6.cell 1; have p2 : w6.cell? ⟨bq, 2, none⟩ = some (.slice B3 x.before.length d3) := kx6.cell 2; have y0 : w6.cell? ⟨br, 0, none⟩ = some (.slice D1 x.base.length e1) := ky.cell 0; have y1 : w6.cell? ⟨br, 1, none⟩ = some (.slice D2 x.blocks.length e2) := ky.cell 1; have y2 : w6.cell? ⟨br, 2, none⟩ = some (.slice D3 x.before.length e3) := ky.cell 2)
  have tX6 := tX5.new b6
  have tY6 := tY5.new b6
  have b26 := bthen b25 b6
  clear kx5 ky tX5 tY5 b25 b6
  obtain ⟨l1, l2, l3⟩ := unhide HPL
  have KS := sameTree_eq x B1 d1 B2 d2 B3 d3 D1 e1 D2 e2 D3 e3 w6 tX6 tY6 (by omega) (by omega) (unhide HPQ) (by omega)
  simp only [trA] at KS
  refine KS.mono ?_
  rintro e w7 ⟨rfl, b7⟩
  have tX7 := tX6.new b7
  have kx7 := kx6.new_ b7
  have b27 := bthen b26 b7
  clear p0 p1 p2 y0 y1 y2 tX6 tY6 kx6 KS b26 b7
  cases ok
  · have hbad := unhide HBAD rfl
    clear HBAD HALL HKI HST hkl hsl HPI HPS
    by_cases he : x.blocks.length = 0
    · have p1 : w7.cell? ⟨bq, 1, none⟩ = some (.slice B2 0 d2) := by rw [← he]; exact kx7.cell 1
      clear hbad he kx7 tX7 l2 l3
      go_wp2_with fail
      refine (alive_any w7).mono ?_
      rintro e w8 ⟨rfl, b8⟩
      go_wp2
      go_ret
      exact ⟨rfl, bthen hB (bthen b27 b8)⟩
    · have hx : x = t := hbad.resolve_left he
      subst hx
      have he2 : ((x.blocks.length : Int) == 0) = false := by simpa using he
      have p0 : w7.cell? ⟨bq, 0, none⟩ = some (.slice B1 x.base.length d1) := kx7.cell 0
      have p1 : w7.cell? ⟨bq, 1, none⟩ = some (.slice B2 x.blocks.length d2) := kx7.cell 1
      have p2 : w7.cell? ⟨bq, 2, none⟩ = some (.slice B3 x.before.length d3) := kx7.cell 2
      obtain ⟨x0, x1, x2⟩ := unhide HX w7 b27
      have KS := hide (sameTree_eq x B1 d1 B2 d2 B3 d3 A1 c1 A2 c2 A3 c3 w7 tX7 (unhide HR w7 b27) (by omega) (by omega) (unhide HPQ) (by omega))
      simp only [trA] at KS
      clear hbad he kx7 tX7
      go_wp2_with fail
      refine (unhide KS).mono ?_
      rintro e w8 ⟨rfl, b8⟩
      go_wp2_with fail
      refine (alive_any w8).mono ?_
      rintro e w9 ⟨rfl, b9⟩
      go_wp2
      go_ret
      exact ⟨rfl, bthen hB (bthen b27 (bthen b8 b9))⟩
  obtain ⟨i, hi, hzl, hin, hfd, hlf, hpr, hpk, hval, hst, hlen⟩ := unhide HALL rfl
  have hib := inB_true.1 hin
  obtain ⟨n, rfl⟩ := Int.eq_ofNat_of_zero_le hib.1
  rw [Int.toNat_natCast] at hzl hfd
  rw [bAt_get t hzl] at hfd
  have hbl2 := unhide HD4 _ (List.getElem_mem hzl)
  have hib2 : (n : Int) < (t.blocks.length : Int) := by omega
  have hlvl := leavesL_len x
  have h6 := fun (w' : World) (hb : Below w7.heap.size w7 w') => findBlock_impl x B1 d1 B2 d2 B3 d3 (bsum t.blocks[n]) w' (tX7.new hb) (by omega) (by omega) (unhide HPQ) (by omega)
  rw [hfd] at h6
  have HFB := hide h6
  have HLV := hide (fun (w' : World) (hb : Below w7.heap.size w7 w') => leavesOf_impl x B1 d1 B2 d2 B3 d3 w' (tX7.new hb) (by omega) (by omega) (unhide HPQ) (by omega))
  have HIB := hide (fun (w' : World) (hb : Below w7.heap.size w7 w') (a b : Int) => isBefore_impl x B1 d1 B2 d2 B3 d3 a b w' (tX7.new hb) (by omega) (by omega) (unhide HPQ) (by omega))
  have h7 := fun (w' : World) (hb : Below w7.heap.size w7 w') => prune_impl x B1 d1 B2 d2 B3 d3 (i : Int) w' (tX7.new hb) (by omega) (by omega) (unhide HPQ) (by omega)
  rw [hpr, hpk] at h7
  have HPX := hide h7
  have h8 := fun (w' : World) (hb : Below w7.heap.size w7 w') => treeValid_impl x B1 d1 B2 d2 B3 d3 w' (tX7.new hb) (by omega) (by omega) (unhide HPQ) (by omega)
  rw [hval] at h8
  have HTV := hide h8
  have h9 := fun (w' : World) (hb : Below w7.heap.size w7 w') => storeOf_impl x B1 d1 B2 d2 B3 d3 (i : Int) w' (tX7.new hb) (by omega) (by omega) (unhide HPQ) (by omega)
  rw [hst] at h9
  have HSX := hide h9
  have HRX := hide (fun (w' : World) (hb : Below w7.heap.size w7 w') => tX7.new hb)
  have HKX := hide (fun (w' : World) (hb : Below w7.heap.size w7 w') => show (w'.cell? ⟨bq, 0, none⟩ = some (.slice B1 x.base.length d1) ∧ w'.cell? ⟨bq, 1, none⟩ = some (.slice B2 x.blocks.length d2) ∧ w'.cell? ⟨bq, 2, none⟩ = some (.slice B3 x.before.length d3)) from ⟨(kx7.new_ hb).cell 0, (kx7.new_ hb).cell 1, (kx7.new_ hb).cell 2⟩)
  simp only [trA] at HFB HLV HIB HPX HTV HSX
  have HLF := hide hlf
  have HLEN := hide hlen
  obtain ⟨bb, ob, L, e, rfl, -, hbb, q0, q1, q2, q3, q4, q5, hlc, r1⟩ := (unhide HR w7 b27).b2.bk hzl
  have HBK := hide (fun (w' : World) (hb : Below w7.heap.size w7 w') => show (w'.cell? ⟨bb, ob + n * 6, none⟩ = some (.int .i64 t.blocks[n].before) ∧ w'.cell? ⟨bb, ob + n * 6 + 1, none⟩ = some (.int .i64 t.blocks[n].height) ∧ w'.cell? ⟨bb, ob + n * 6 + 2, none⟩ = some (.int .i64 t.blocks[n].view) ∧ w'.cell? ⟨bb, ob + n * 6 + 3, none⟩ = some (.slice L t.blocks[n].list.length e) ∧ w'.cell? ⟨bb, ob + n * 6 + 4, none⟩ = some (.int .i64 t.blocks[n].root) ∧ w'.cell? ⟨bb, ob + n * 6 + 5, none⟩ = some (.int .i64 t.blocks[n].eff)) from
    ⟨(hb.cell (p := ⟨bb, ob + n * 6, none⟩) hbb).trans q0, (hb.cell (p := ⟨bb, ob + n * 6 + 1, none⟩) hbb).trans q1, (hb.cell (p := ⟨bb, ob + n * 6 + 2, none⟩) hbb).trans q2, (hb.cell (p := ⟨bb, ob + n * 6 + 3, none⟩) hbb).trans q3, (hb.cell (p := ⟨bb, ob + n * 6 + 4, none⟩) hbb).trans q4, (hb.cell (p := ⟨bb, ob + n * 6 + 5, none⟩) hbb).trans q5⟩)
  have HRB := hide (fun (w' : World) (hb : Below w7.heap.size w7 w') => (RdP.rd r1).new hb)
  clear h6 h7 h8 h9 hpr hpk hval hst hfd hlf hlen HALL HBAD HPI HPS tX7 kx7 q0 q1 q2 q3 q4 q5 r1 hlc
  generalize t.blocks[n] = y at *
  have hF : StBL [bV (.agg #[.slice B1 x.base.length d1, .slice B2 x.blocks.length d2, .slice B3 x.before.length d3]), bV (.pointer (some ⟨bx, 1, none⟩)), bV (.slice (some ⟨bb, ob, none⟩) t.blocks.length c2), bV (.int .i64 (n : Int)), bV (.pointer (some ⟨bb, ob + n * 6, none⟩)), bV (.agg #[.int .i64 y.before, .int .i64 y.height, .int .i64 y.view, .slice L y.list.length e, .int .i64 y.root, .int .i64 y.eff]), bV (.int .i64 (bsum y))] :=
    ⟨sb_V _, sb_V _, sb_V _, sb_V _, sb_V _, sb_V _, sb_V _, trivial⟩
  go_upto_region 10 with fail
  refine wp_region_loc (by kernel_rfl) [(0, some 57), (1, some 58), (2, some 59), (3, some 60), (4, some 61), (5, some 62), (6, some 63)] [[], [], [(1, some 58)], [], [(2, some 59), (3, some 60)], [(4, some 61)], [(5, some 62)]] (by kernel_rfl)
    (locB _) (fun a b => Below a.heap.size a b) noR [0, 0, 0, 0, 0, 0, 0] 0 (by kernel_rfl) (fun _ => Below.refl _ _) (fun _ _ _ => bthen) (locB_st hF _) trivial ?_ ?_
  · refine steps_cons ?s0 ( steps_cons ?s1 ( steps_cons ?s2 ( steps_cons ?s3 ( steps_cons ?s4 ( steps_cons ?s5 ( steps_cons ?s6 steps_nil))))))
    case s0 =>
      intro w' m' hE hR
      intro Q hQ
      obtain ⟨p0, p1, p2⟩ := unhide HKX w' (below_undrew hE)
      go_wp2
      exact hQ _ _ _ rfl rfl (Below.refl _ _) trivial
    case s1 =>
      intro w' m' hE hR
      intro Q hQ
      go_wp2
      exact hQ _ _ _ rfl rfl (Below.refl _ _) trivial
    case s2 =>
      intro w' m' hE hR
      rintro _ rfl Q hQ
      obtain ⟨x0, x1, x2⟩ := unhide HX w' (bthen b27 (below_undrew hE))
      go_wp2
      exact hQ _ _ _ rfl rfl (Below.refl _ _) trivial
    case s3 =>
      intro w' m' hE hR
      intro Q hQ
      go_wp2
      exact hQ _ _ _ rfl rfl (Below.refl _ _) trivial
    case s4 =>
      intro w' m' hE hR
      rintro _ rfl _ rfl Q hQ
      go_wp2
      exact hQ _ _ _ rfl rfl (Below.refl _ _) trivial
    case s5 =>
      intro w' m' hE hR
      rintro _ rfl Q hQ
      obtain ⟨q0, q1, q2, q3, q4, q5⟩ := unhide HBK w' (below_undrew hE)
      go_wp2
      exact hQ _ _ _ rfl rfl (Below.refl _ _) trivial
    case s6 =>
      intro w' m' hE hR
      rintro _ rfl Q hQ
      go_wp2_with fail
      refine (blockSum_impl y L e w' (unhide HRB w' (below_undrew hE)) (by omega)).mono ?_
      rintro e w8 ⟨rfl, b8⟩
      go_wp2
      exact hQ _ _ _ rfl rfl b8 trivial
  intro w8 hE _
  rintro v0 hv0 v1 - v2 - v3 - v4 - v5 - v6 hv6
  obtain rfl : v0 = _ := hv0
  obtain rfl : v6 = _ := hv6
  change wpList _ _ _ [_, _] _ _
  simp only [Act.put, List.setIfInBounds_toArray, List.set_cons_succ, List.set_cons_zero]
  have b8 := below_undrew hE
  clear hE hF
  go_wp2_with fail
  refine (unhide HFB w8 b8).mono ?_
  rintro e w9 ⟨rfl, b9⟩
  replace b8 := bthen b8 b9
  clear b9
  obtain ⟨p0, p1, p2⟩ := unhide HKX w9 b8
  go_wp2_with fail
  refine (unhide HLV w9 b8).mono ?_
  rintro e w10 ⟨AL, cl, rfl, oL, b10⟩
  replace b8 := bthen b8 b10
  have rL := own_rd oL
  clear p0 p1 p2 oL b10
  generalize leavesL x = ls at *
  have HRL := hide (fun (w' : World) (hb : Below w10.heap.size w10 w') => (rL.new hb : Rd w' AL (ls.map (.int .i64))))
  clear rL
  go_wp2
  go_loopw [11] (fun j wr => ∃ (k : Nat), k ≤ ls.length ∧ j = .int .i64 k ∧ Below w10.heap.size w10 wr) (fun j _ => ls.length - (intOf j).toNat)
  case atStart => exact ⟨0, Nat.zero_le _, rfl, Below.refl _ _⟩
  case round =>
    obtain ⟨k, hk, rfl, bk⟩ := hrel
    have b7k := bthen b8 bk
    by_cases hlt : k < ls.length
    · have k1 : (k : Int) < (ls.length : Int) := by omega
      obtain ⟨bl, ol, hAL, hbl, d0⟩ := (unhide HRL wr bk).int hlt
      have hbf := unhide HLF _ (List.getElem_mem hlt)
      have h6 := fun (w' : World) (hb : Below w7.heap.size w7 w') => unhide HIB w' hb (i : Int) ls[k]
      rw [hbf] at h6
      have HI := hide h6
      have HAL := hide hAL
      clear h6 hbf hAL
      generalize ls[k] = m at *
      have hF : StBL [bV (.agg #[.slice B1 x.base.length d1, .slice B2 x.blocks.length d2, .slice B3 x.before.length d3]), bV (.int .i64 (i : Int)), bV (.slice AL ls.length cl), bV (.int .i64 (k : Int)), bV (.pointer (some ⟨bl, ol + k, none⟩)), bV (.int .i64 m)] :=
        ⟨sb_V _, sb_V _, sb_V _, sb_V _, sb_V _, sb_V _, trivial⟩
      go_upto_region 15 with fail
      refine wp_region_loc (by kernel_rfl) [(0, some 73), (1, some 74), (2, some 75), (3, some 76), (4, some 77), (5, some 78)] [[], [], [], [], [(2, some 75), (3, some 76)], [(4, some 77)]] (by kernel_rfl)
        (locB _) (fun a b => Below a.heap.size a b) noR [0, 0, 0, 0, 0, 0] 0 (by kernel_rfl) (fun _ => Below.refl _ _) (fun _ _ _ => bthen) (locB_st hF _) trivial ?_ ?_
      · refine steps_cons ?s0 ( steps_cons ?s1 ( steps_cons ?s2 ( steps_cons ?s3 ( steps_cons ?s4 ( steps_cons ?s5 steps_nil)))))
        case s0 =>
          intro w' m' hE hR
          intro Q hQ
          obtain ⟨p0, p1, p2⟩ := unhide HKX w' (bthen b7k (below_undrew hE))
          go_wp2
          exact hQ _ _ _ rfl rfl (Below.refl _ _) trivial
        case s1 =>
          intro w' m' hE hR
          intro Q hQ
          go_wp2
          exact hQ _ _ _ rfl rfl (Below.refl _ _) trivial
        case s2 =>
          intro w' m' hE hR
          intro Q hQ
          go_wp2
          exact hQ _ _ _ rfl rfl (Below.refl _ _) trivial
        case s3 =>
          intro w' m' hE hR
          intro Q hQ
          go_wp2
          exact hQ _ _ _ rfl rfl (Below.refl _ _) trivial
        case s4 =>
          intro w' m' hE hR
          rintro _ rfl _ rfl Q hQ
          obtain rfl := unhide HAL
          go_wp2
          exact hQ _ _ _ rfl rfl (Below.refl _ _) trivial
        case s5 =>
          intro w' m' hE hR
          rintro _ rfl Q hQ
          have d1 := (((below_undrew hE)).cell (p := ⟨bl, ol + k, none⟩) hbl).trans d0
          go_wp2
          exact hQ _ _ _ rfl rfl (Below.refl _ _) trivial
      intro w11 hE _
      rintro v0 hv0 v1 hv1 v2 - v3 - v4 - v5 hv5
      obtain rfl : v0 = _ := hv0
      obtain rfl : v1 = _ := hv1
      obtain rfl : v5 = _ := hv5
      change wpList _ _ _ [_, _] _ _
      simp only [Act.put, List.setIfInBounds_toArray, List.set_cons_succ, List.set_cons_zero]
      have b11 := bthen bk (below_undrew hE)
      have b711 := bthen b7k (below_undrew hE)
      clear hE hF
      go_wp2_with fail
      refine (unhide HI w11 b711).mono ?_
      rintro e w12 ⟨rfl, b12⟩
      replace b11 := bthen b11 b12
      go_wp2
      go_roundw
      case rel => exact ⟨k + 1, by omega, by go_num, b11⟩
      case measure => simp [intOf]; omega
    · obtain rfl : k = ls.length := by omega
      obtain ⟨p0, p1, p2⟩ := unhide HKX wr b7k
      go_wp2_with fail
      refine (unhide HPX wr b7k).mono ?_
      rintro e w11 ⟨G1, g1, G2, g2, G3, g3, fz, rfl, tZ, b11⟩
      have tZ11 := tZ.rd
      have b711 := bthen b7k b11
      clear p0 p1 p2 tZ b11
      go_wp2_with (refine wpList_store_row rfl 27 (.tmp 12) (.tmp 85) rfl w11.heap.size #[.slice G1 x.base.length g1, .slice G2 x.blocks.length g2, .slice G3 x.before.length g3] rfl rfl 27 #[.slice none 0 0, .slice none 0 0, .slice none 0 0] (box_new w11 27 #[.slice none 0 0, .slice none 0 0, .slice none 0 0] #[.slice G1 x.base.length g1, .slice G2 x.blocks.length g2, .slice G3 x.before.length g3]).1 info_tr rfl (sl3_one _ _ _ _ _ _ _ _ _) ?_; refine at_world (C := fun W => wpList _ _ _ _ _ W) (F := fun W => Blk W w11.heap.size 27 #[.slice G1 x.base.length g1, .slice G2 x.blocks.length g2, .slice G3 x.before.length g3] ∧ Below w11.heap.size w11 W) ⟨(box_new w11 27 #[.slice none 0 0, .slice none 0 0, .slice none 0 0] #[.slice G1 x.base.length g1, .slice G2 x.blocks.length g2, .slice G3 x.before.length g3]).2.1, (box_new w11 27 #[.slice none 0 0, .slice none 0 0, .slice none 0 0] #[.slice G1 x.base.length g1, .slice G2 x.blocks.length g2, .slice G3 x.before.length g3]).2.2⟩ ?_; rintro w12 ⟨kz, b12⟩; obtain ⟨bz, hbz⟩ : ∃ q, q = w11.heap.size := ⟨_, rfl⟩; rw [← hbz] at kz ⊢; have Hbz := hide hbz; clear hbz)
      have tZ12 := tZ11.new b12
      have b712 := bthen b711 b12
      have HKZ := hide (fun (w' : World) (hb : Below w12.heap.size w12 w') => show (w'.cell? ⟨bz, 0, none⟩ = some (.slice G1 x.base.length g1) ∧ w'.cell? ⟨bz, 1, none⟩ = some (.slice G2 x.blocks.length g2) ∧ w'.cell? ⟨bz, 2, none⟩ = some (.slice G3 x.before.length g3)) from ⟨(kz.new_ hb).cell 0, (kz.new_ hb).cell 1, (kz.new_ hb).cell 2⟩)
      have HSM := hide (fun (w' : World) (hb : Below w12.heap.size w12 w') => sameTree_eq x G1 g1 G2 g2 G3 g3 B1 d1 B2 d2 B3 d3 w' (tZ12.new hb) (unhide HRX w' (bthen b712 hb)) (by omega) (by omega) (unhide HPQ) (by omega))
      simp only [trA] at HSM
      clear kz b12 b711 tZ11 tZ12
      have hF : StBL [bV (.agg #[.slice B1 x.base.length d1, .slice B2 x.blocks.length d2, .slice B3 x.before.length d3]), bV (.bool true), bV (.bool true), bV (.bool true), bV (.bool true), bV (.bool true), bV (.agg #[.slice G1 x.base.length g1, .slice G2 x.blocks.length g2, .slice G3 x.before.length g3]), bV (.agg #[.slice B1 x.base.length d1, .slice B2 x.blocks.length d2, .slice B3 x.before.length d3]), bV (.bool true), bV (.bool true), bV (.bool true), bV (.agg #[.slice B1 x.base.length d1, .slice B2 x.blocks.length d2, .slice B3 x.before.length d3]), bV (.int .i64 (i : Int)), stR st, bV (.agg #[.slice A1 t.base.length c1, .slice (some ⟨bb, ob, none⟩) t.blocks.length c2, .slice A3 t.before.length c3]), bV (.int .i64 (n : Int)), stR st, bV (.bool true), bV (.bool true), bV (.bool true), bV (.pointer (some ⟨bq, 1, none⟩)), bV (.slice B2 x.blocks.length d2), bV (.int .i64 (x.blocks.length : Int)), bV (.agg #[.slice A1 t.base.length c1, .slice (some ⟨bb, ob, none⟩) t.blocks.length c2, .slice A3 t.before.length c3]), bV (.int .i64 (n : Int)), lenR ks.length, bV (.int .i64 (ks.length : Int))] :=
        ⟨sb_V _, sb_V _, sb_V _, sb_V _, sb_V _, sb_V _, sb_V _, sb_V _, sb_V _, sb_V _, sb_V _, sb_V _, sb_V _, sb_stR _, sb_V _, sb_V _, sb_stR _, sb_V _, sb_V _, sb_V _, sb_V _, sb_V _, sb_V _, sb_V _, sb_V _, sb_lenR _, sb_V _, trivial⟩
      go_upto_region 18 with fail
      refine wp_region_loc (by kernel_rfl) [(0, some 87), (1, some 88), (2, some 89), (3, some 90), (4, some 91), (5, some 92), (6, some 93), (7, some 94), (8, some 95), (9, some 96), (10, some 97), (11, some 98), (12, some 99), (13, some 100), (14, some 101), (15, some 102), (16, some 103), (17, some 104), (18, some 105), (19, some 106), (20, some 107), (21, some 108), (22, some 109), (23, some 110), (24, some 111), (25, some 112), (26, some 113)] [[], [(0, some 87)], [(1, some 88)], [(2, some 89)], [(2, some 89), (3, some 90)], [(4, some 91)], [(5, some 92)], [(5, some 92)], [(5, some 92), (6, some 93), (7, some 94)], [(5, some 92), (8, some 95)], [(9, some 96)], [(10, some 97)], [(10, some 97)], [(10, some 97), (11, some 98), (12, some 99)], [(10, some 97)], [(10, some 97)], [(10, some 97), (14, some 101), (15, some 102)], [(10, some 97), (13, some 100), (16, some 103)], [(10, some 97), (17, some 104)], [(18, some 105)], [(19, some 106)], [(19, some 106), (20, some 107)], [(19, some 106), (21, some 108)], [(19, some 106)], [(19, some 106)], [(19, some 106), (23, some 110), (24, some 111)], [(19, some 106), (25, some 112)]] (by kernel_rfl)
        (locB _) (fun a b => Below a.heap.size a b) noR [0, 0, 0, 0, 0, 0, 0, 0, 0, 0, 0, 0, 0, 0, 0, 0, 0, 0, 0, 0, 0, 0, 0, 0, 0, 0, 0] 0 (by kernel_rfl) (fun _ => Below.refl _ _) (fun _ _ _ => bthen) (locB_st hF _) trivial ?_ ?_
      · refine steps_cons ?s0 ( steps_cons ?s1 ( steps_cons ?s2 ( steps_cons ?s3 ( steps_cons ?s4 ( steps_cons ?s5 ( steps_cons ?s6 ( steps_cons ?s7 ( steps_cons ?s8 ( steps_cons ?s9 ( steps_cons ?s10 ( steps_cons ?s11 ( steps_cons ?s12 ( steps_cons ?s13 ( steps_cons ?s14 ( steps_cons ?s15 ( steps_cons ?s16 ( steps_cons ?s17 ( steps_cons ?s18 ( steps_cons ?s19 ( steps_cons ?s20 ( steps_cons ?s21 ( steps_cons ?s22 ( steps_cons ?s23 ( steps_cons ?s24 ( steps_cons ?s25 ( steps_cons ?s26 steps_nil))))))))))))))))))))))))))
        case s0 =>
          intro w' m' hE hR
          intro Q hQ
          obtain ⟨p0, p1, p2⟩ := unhide HKX w' (bthen b712 (below_undrew hE))
          go_wp2
          exact hQ _ _ _ rfl rfl (Below.refl _ _) trivial
        case s1 =>
          intro w' m' hE hR
          rintro _ rfl Q hQ
          go_wp2_with fail
          refine (unhide HTV w' (bthen b712 (below_undrew hE))).mono ?_
          rintro e w13 ⟨rfl, b13⟩
          go_wp2
          exact hQ _ _ _ rfl rfl b13 trivial
        case s2 =>
          intro w' m' hE hR
          rintro _ rfl Q hQ
          go_wp2
          exact hQ _ _ _ rfl rfl (Below.refl _ _) trivial
        case s3 =>
          intro w' m' hE hR
          rintro _ rfl Q hQ
          go_wp2
          exact hQ _ _ _ rfl rfl (Below.refl _ _) trivial
        case s4 =>
          intro w' m' hE hR
          rintro _ rfl _ rfl Q hQ
          go_wp2
          exact hQ _ _ _ rfl rfl (Below.refl _ _) trivial
        case s5 =>
          intro w' m' hE hR
          rintro _ rfl Q hQ
          go_wp2
          exact hQ _ _ _ rfl rfl (Below.refl _ _) trivial
        case s6 =>
          intro w' m' hE hR
          rintro _ rfl Q hQ
          obtain ⟨p0, p1, p2⟩ := unhide HKZ w' (below_undrew hE)
          go_wp2
          exact hQ _ _ _ rfl rfl (Below.refl _ _) trivial
        case s7 =>
          intro w' m' hE hR
          rintro _ rfl Q hQ
          obtain ⟨p0, p1, p2⟩ := unhide HKX w' (bthen b712 (below_undrew hE))
          go_wp2
          exact hQ _ _ _ rfl rfl (Below.refl _ _) trivial
        case s8 =>
          intro w' m' hE hR
          rintro _ rfl _ rfl _ rfl Q hQ
          go_wp2_with fail
          refine (unhide HSM w' (below_undrew hE)).mono ?_
          rintro e w13 ⟨rfl, b13⟩
          go_wp2
          exact hQ _ _ _ rfl rfl b13 trivial
        case s9 =>
          intro w' m' hE hR
          rintro _ rfl _ rfl Q hQ
          go_wp2
          exact hQ _ _ _ rfl rfl (Below.refl _ _) trivial
        case s10 =>
          intro w' m' hE hR
          rintro _ rfl Q hQ
          go_wp2
          exact hQ _ _ _ rfl rfl (Below.refl _ _) trivial
        case s11 =>
          intro w' m' hE hR
          rintro _ rfl Q hQ
          obtain ⟨p0, p1, p2⟩ := unhide HKX w' (bthen b712 (below_undrew hE))
          go_wp2
          exact hQ _ _ _ rfl rfl (Below.refl _ _) trivial
        case s12 =>
          intro w' m' hE hR
          rintro _ rfl Q hQ
          go_wp2
          exact hQ _ _ _ rfl rfl (Below.refl _ _) trivial
        case s13 =>
          intro w' m' hE hR
          rintro _ rfl _ rfl _ rfl Q hQ
          go_wp2_with fail
          refine (unhide HSX w' (bthen b712 (below_undrew hE))).mono ?_
          rintro e w13 ⟨A5, c5, rfl, o5, b13⟩
          go_wp2
          exact hQ _ _ _ rfl ⟨A5, c5, rfl, own_rd o5⟩ b13 trivial
        case s14 =>
          intro w' m' hE hR
          rintro _ rfl Q hQ
          obtain ⟨x0, x1, x2⟩ := unhide HX w' (bthen b27 (bthen b712 (below_undrew hE)))
          go_wp2
          exact hQ _ _ _ rfl rfl (Below.refl _ _) trivial
        case s15 =>
          intro w' m' hE hR
          rintro _ rfl Q hQ
          go_wp2
          exact hQ _ _ _ rfl rfl (Below.refl _ _) trivial
        case s16 =>
          intro w' m' hE hR
          rintro _ rfl _ rfl _ rfl Q hQ
          go_wp2_with fail
          refine (unhide HST w' (bthen b27 (bthen b712 (below_undrew hE)))).mono ?_
          rintro e w13 ⟨A5, c5, rfl, o5, b13⟩
          go_wp2
          exact hQ _ _ _ rfl ⟨A5, c5, rfl, own_rd o5⟩ b13 trivial
        case s17 =>
          intro w' m' hE hR
          rintro _ rfl _ ⟨A5, c5, rfl, r5⟩ _ ⟨A6, c6, rfl, r6⟩ Q hQ
          go_wp2_with fail
          refine (sameStore_any A5 A6 c5 c6 st st w' r5 r6 (by omega)).mono ?_
          rintro e w13 ⟨rfl, m13, rfl⟩
          rw [show decide (st = st) = true by simp]
          go_wp2
          exact hQ _ _ _ rfl rfl (below_drewN (Below.refl _ _) m13) trivial
        case s18 =>
          intro w' m' hE hR
          rintro _ rfl _ rfl Q hQ
          go_wp2
          exact hQ _ _ _ rfl rfl (Below.refl _ _) trivial
        case s19 =>
          intro w' m' hE hR
          rintro _ rfl Q hQ
          go_wp2
          exact hQ _ _ _ rfl rfl (Below.refl _ _) trivial
        case s20 =>
          intro w' m' hE hR
          rintro _ rfl Q hQ
          go_wp2
          exact hQ _ _ _ rfl rfl (Below.refl _ _) trivial
        case s21 =>
          intro w' m' hE hR
          rintro _ rfl _ rfl Q hQ
          obtain ⟨p0, p1, p2⟩ := unhide HKX w' (bthen b712 (below_undrew hE))
          go_wp2
          exact hQ _ _ _ rfl rfl (Below.refl _ _) trivial
        case s22 =>
          intro w' m' hE hR
          rintro _ rfl _ rfl Q hQ
          go_wp2
          exact hQ _ _ _ rfl rfl (Below.refl _ _) trivial
        case s23 =>
          intro w' m' hE hR
          rintro _ rfl Q hQ
          obtain ⟨x0, x1, x2⟩ := unhide HX w' (bthen b27 (bthen b712 (below_undrew hE)))
          go_wp2
          exact hQ _ _ _ rfl rfl (Below.refl _ _) trivial
        case s24 =>
          intro w' m' hE hR
          rintro _ rfl Q hQ
          go_wp2
          exact hQ _ _ _ rfl rfl (Below.refl _ _) trivial
        case s25 =>
          intro w' m' hE hR
          rintro _ rfl _ rfl _ rfl Q hQ
          go_wp2_with fail
          refine (unhide HKI w' (bthen b27 (bthen b712 (below_undrew hE)))).mono ?_
          rintro e w13 ⟨A5, c5, rfl, o5, b13⟩
          go_wp2
          exact hQ _ _ _ rfl ⟨A5, c5, rfl⟩ b13 trivial
        case s26 =>
          intro w' m' hE hR
          rintro _ rfl _ ⟨A5, c5, rfl⟩ Q hQ
          go_wp2
          exact hQ _ _ _ rfl rfl (Below.refl _ _) trivial
      intro w14 hE _
      rintro v0 - v1 - v2 - v3 - v4 - v5 - v6 - v7 - v8 - v9 - v10 hv10 v11 - v12 - v13 - v14 - v15 - v16 - v17 - v18 hv18 v19 hv19 v20 - v21 - v22 hv22 v23 - v24 - v25 - v26 hv26
      obtain rfl : v10 = _ := hv10
      obtain rfl : v18 = _ := hv18
      obtain rfl : v19 = _ := hv19
      obtain rfl : v22 = _ := hv22
      obtain rfl : v26 = _ := hv26
      change wpList _ _ _ [_, _, _] _ _
      simp only [Act.put, List.setIfInBounds_toArray, List.set_cons_succ, List.set_cons_zero]
      have b14 := below_undrew hE
      clear hE hF
      have hle : ((x.blocks.length : Int) == (ks.length : Int)) = true := (by have := unhide HLEN; simp; omega)
      go_wp2
      go_ret
      exact ⟨rfl, bthen hB (bthen b27 (bthen b712 b14))⟩
end Go.Proofs.YtefdhlfljpppfaaGreat
