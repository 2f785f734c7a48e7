/- The law FnPruneAsk: the walk (printed by gen_in.py from xlawfpruneask.in). -/
import Derived.Test.YtefdhlfljpppfaaGreatGdrawt
import Derived.Test.YtefdhlfljpppfaaGreatGtree
import Derived.Test.YtefdhlfljpppfaaGreatGprune
import Derived.Test.YtefdhlfljpppfaaGreatSums
import Derived.Test.YtefdhlfljpppfaaGreatIntS
namespace Go.Proofs.YtefdhlfljpppfaaGreat
open Go.RowKit
set_option linter.unusedVariables false
set_option linter.unusedSimpArgs false

theorem pruneT_lists {t : Tr} {n : Int} {m : Nat} (h : ∀ x ∈ t.blocks, x.list.length ≤ m) : ∀ x ∈ (pruneT t n).blocks, x.list.length ≤ m := by
  intro x hx
  unfold pruneT at hx
  split at hx
  · split at hx
    · obtain ⟨k, hk, rfl⟩ := List.mem_map.1 hx
      have h2 := keptL_mem hk
      rw [bAt_get t (by omega)]
      exact h _ (List.getElem_mem _)
    · exact h x hx
  · cases hx
theorem info_ansF2 : (Tryz.prog.info? 31).map (·.size) = some 3 := by kernel_rfl
theorem ans3_one2 (a b : Int) (A : Option Addr) (n k : Nat) : (#[Value.int .i64 a, .int .i64 b, .slice A n k]).all (·.oneCell') = true := by
  simp [Value.oneCell']
set_option maxRecDepth 100000 in
set_option maxHeartbeats 8000000 in
theorem law_FnPruneAsk (A : Option Addr) (c : Nat) (bs : List Int) (w : World) (h : Rd w A (bs.map (.int .u8))) (hw : ∀ b ∈ bs, 0 ≤ b ∧ b ≤ 255) (hc : bs.length ≤ c) (hm : c ≤ maxLen) :
    Calls Tryz.prog 6 #[.slice A bs.length c] w fun e w' => e = .returned (.bool true) ∧ Below w.heap.size w w' := by
  have hm2 : bs.length ≤ 9223372036854775807 := by simp only [maxLen] at hm; omega
  by_cases hl : (1048576 : Int) < (bs.length : Int)
  · clear hw
    go_enter Tryz.func6, Tryz.ntmps6
    go_wp2
    go_ret
    exact ⟨rfl, Below.refl _ _⟩
  have HW := hide hw
  have HC := hide hc
  have HM := hide hm
  clear hw hc hm
  go_enter Tryz.func6, Tryz.ntmps6
  go_wp2_with fail
  refine (DrawPruneTree_any A c bs w h (unhide HW) (unhide HC) (unhide HM)).mono ?_
  rintro e w1 ⟨t, A1, c1, A2, c2, A3, c3, z, rfl, hz, ⟨hd1, ⟨hd2, hd2'⟩, hd3, hd4⟩, hR1, hB⟩
  clear h hz
  go_wp2_with (refine wpList_store_row rfl 27 (.tmp 3) (.tmp 22) rfl w1.heap.size #[.slice A1 t.base.length c1, .slice A2 t.blocks.length c2, .slice A3 t.before.length c3] rfl rfl 27 #[.slice none 0 0, .slice none 0 0, .slice none 0 0] (box_new w1 27 #[.slice none 0 0, .slice none 0 0, .slice none 0 0] #[.slice A1 t.base.length c1, .slice A2 t.blocks.length c2, .slice A3 t.before.length c3]).1 info_tr rfl (sl3_one _ _ _ _ _ _ _ _ _) ?_; refine at_world (C := fun W => wpList _ _ _ _ _ W) (F := fun W => Blk W w1.heap.size 27 #[.slice A1 t.base.length c1, .slice A2 t.blocks.length c2, .slice A3 t.before.length c3] ∧ Below w1.heap.size w1 W) ⟨(box_new w1 27 #[.slice none 0 0, .slice none 0 0, .slice none 0 0] #[.slice A1 t.base.length c1, .slice A2 t.blocks.length c2, .slice A3 t.before.length c3]).2.1, (box_new w1 27 #[.slice none 0 0, .slice none 0 0, .slice none 0 0] #[.slice A1 t.base.length c1, .slice A2 t.blocks.length c2, .slice A3 t.before.length c3]).2.2⟩ ?_; rintro w2 ⟨kb, b2⟩; obtain ⟨bx, hbx⟩ : ∃ q, q = w1.heap.size := ⟨_, rfl⟩; rw [← hbx] at kb ⊢; have Hbx := hide hbx; clear hbx; have x0 : w2.cell? ⟨bx, 0, none⟩ = some (.slice A1 t.base.length c1) := kb.cell 0; have x1 : w2.cell? ⟨bx, 1, none⟩ = some (.slice A2 t.blocks.length c2) := kb.cell 1; have x2 : w2.cell? ⟨bx, 2, none⟩ = some (.slice A3 t.before.length c3) := kb.cell 2)
  have hbx1 : w.heap.size ≤ bx := by have := hB.size; have := unhide Hbx; omega
  replace hB := bthen hB b2
  have hbl := kb.lt
  have HR := hide (fun (w' : World) (hb : Below w2.heap.size w2 w') => hR1.new (bthen b2 hb))
  have HD4 := hide (fun x (hx : x ∈ t.blocks) => show x.list.length ≤ 1099511627776 by have := hd4 x hx; omega)
  have HX := hide (fun (w' : World) (hb : Below w2.heap.size w2 w') => show (w'.cell? ⟨bx, 0, none⟩ = some (.slice A1 t.base.length c1) ∧ w'.cell? ⟨bx, 1, none⟩ = some (.slice A2 t.blocks.length c2) ∧ w'.cell? ⟨bx, 2, none⟩ = some (.slice A3 t.before.length c3)) from ⟨(kb.new_ hb).cell 0, (kb.new_ hb).cell 1, (kb.new_ hb).cell 2⟩)
  have HPI := hide (fun (w' : World) (hb : Below w2.heap.size w2 w') => prune_impl t A1 c1 A2 c2 A3 c3 z w' (unhide HR w' hb) (by omega) (by omega) (unhide HD4) (by omega))
  have HPS := hide (fun (w' : World) (hb : Below w2.heap.size w2 w') => prune_spec t A1 c1 A2 c2 A3 c3 z w' (unhide HR w' hb) (by omega) (by omega) (unhide HD4) (by omega))
  have HKI := hide (fun (w' : World) (hb : Below w2.heap.size w2 w') => kept_impl t A1 c1 A2 c2 A3 c3 z w' (unhide HR w' hb) (by omega) (by omega) (unhide HD4) (by omega))
  have HAT := hide (fun (w' : World) (hb : Below w2.heap.size w2 w') (m key : Int) => ask_impl t A1 c1 A2 c2 A3 c3 m key w' (unhide HR w' hb) (by omega) (by omega) (unhide HD4) (by omega))
  have HPL := hide (pruneT_lens t z)
  have HPQ := hide (pruneT_lists (n := z) (unhide HD4))
  have HASK := hide (fun (hok : pruneOk t z = true) (i : Nat) (hi : i < (keptL t z).length) (key : Int) (hk : inB key 0 31 = true) => show askOk (pruneT t z) (i : Int) key = true ∧ askOk t (keptL t z)[i] key = true ∧ askA (pruneT t z) (i : Int) key = askA t (keptL t z)[i] key by
    simp only [pruneOk, Bool.and_eq_true] at hok
    have := inB_true.1 hok.2
    exact prune_ask hok.1 this.1 (by omega) hi hk)
  have HLEN := hide (fun (hok : pruneOk t z = true) => show (pruneT t z).blocks.length = (keptL t z).length by
    simp only [pruneOk, Bool.and_eq_true] at hok
    have := inB_true.1 hok.2
    exact (pr_len hok.1 this.1 (by omega)).1)
  simp only [trA] at HPI HPS HKI HAT
  clear hR1 hd4 kb b2
  refine (unhide HPI w2 (Below.refl _ _)).mono ?_
  rintro e w3 ⟨B1, d1, B2, d2, B3, d3, fp, rfl, tX, b3⟩
  have tX3 := tX.rd
  clear x0 x1 x2 tX
  generalize pruneT t z = x at *
  generalize hok : pruneOk t z = ok at *
  have HOK := hide hok
  clear hok
  go_wp2_with (refine wpList_store_row rfl 27 (.tmp 5) (.tmp 28) rfl w3.heap.size #[.slice B1 x.base.length d1, .slice B2 x.blocks.length d2, .slice B3 x.before.length d3] rfl rfl 27 #[.slice none 0 0, .slice none 0 0, .slice none 0 0] (box_new w3 27 #[.slice none 0 0, .slice none 0 0, .slice none 0 0] #[.slice B1 x.base.length d1, .slice B2 x.blocks.length d2, .slice B3 x.before.length d3]).1 info_tr rfl (sl3_one _ _ _ _ _ _ _ _ _) ?_; refine at_world (C := fun W => wpList _ _ _ _ _ W) (F := fun W => Blk W w3.heap.size 27 #[.slice B1 x.base.length d1, .slice B2 x.blocks.length d2, .slice B3 x.before.length d3] ∧ Below w3.heap.size w3 W) ⟨(box_new w3 27 #[.slice none 0 0, .slice none 0 0, .slice none 0 0] #[.slice B1 x.base.length d1, .slice B2 x.blocks.length d2, .slice B3 x.before.length d3]).2.1, (box_new w3 27 #[.slice none 0 0, .slice none 0 0, .slice none 0 0] #[.slice B1 x.base.length d1, .slice B2 x.blocks.length d2, .slice B3 x.before.length d3]).2.2⟩ ?_; rintro w4 ⟨kx, b4⟩; obtain ⟨bq, hbq⟩ : ∃ q, q = w3.heap.size := ⟨_, rfl⟩; rw [← hbq] at kx ⊢; have Hbq := hide hbq; clear hbq; have bxx := bthen b3 b4; obtain ⟨x0, x1, x2⟩ := unhide HX w4 bxx)
  refine (unhide HPS w4 bxx).mono ?_
  rintro e w5 ⟨D1, e1, D2, e2, D3, e3, fq, rfl, tY, b5⟩
  have tY5 := tY.rd
  have tX5 := (tX3.new b4).new b5
  have kx5 := kx.new_ b5
  have b25 := bthen bxx b5
  clear x0 x1 x2 tY tX3 kx bxx b3 b4 b5
  go_wp2_with (refine wpList_store_row rfl 27 (.tmp 7) (.tmp 34) rfl w5.heap.size #[.slice D1 x.base.length e1, .slice D2 x.blocks.length e2, .slice D3 x.before.length e3] rfl rfl 27 #[.slice none 0 0, .slice none 0 0, .slice none 0 0] (box_new w5 27 #[.slice none 0 0, .slice none 0 0, .slice none 0 0] #[.slice D1 x.base.length e1, .slice D2 x.blocks.length e2, .slice D3 x.before.length e3]).1 info_tr rfl (sl3_one _ _ _ _ _ _ _ _ _) ?_; refine at_world (C := fun W => wpList _ _ _ _ _ W) (F := fun W => Blk W w5.heap.size 27 #[.slice D1 x.base.length e1, .slice D2 x.blocks.length e2, .slice D3 x.before.length e3] ∧ Below w5.heap.size w5 W) ⟨(box_new w5 27 #[.slice none 0 0, .slice none 0 0, .slice none 0 0] #[.slice D1 x.base.length e1, .slice D2 x.blocks.length e2, .slice D3 x.before.length e3]).2.1, (box_new w5 27 #[.slice none 0 0, .slice none 0 0, .slice none 0 0] #[.slice D1 x.base.length e1, .slice D2 x.blocks.length e2, .slice D3 x.before.length e3]).2.2⟩ ?_; rintro w6 ⟨ky, b6⟩; obtain ⟨br, hbr⟩ : ∃ q, q = w5.heap.size := ⟨_, rfl⟩; rw [← hbr] at ky ⊢; have Hbr := hide hbr; clear hbr; have kx6 := kx5.new_ b6; have p0 : w6.cell? ⟨bq, 0, none⟩ = some (.slice B1 x.base.length d1) := kx6.cell 0; have p1 : w6.cell? ⟨bq, 1, none⟩ = some (.slice B2 x.blocks.length d2) := kx6.cell 1; have p2 : w6.cell? ⟨bq, 2, none⟩ = some (.slice B3 x.before.length d3) := kx6.cell 2; have y0 : w6.cell? ⟨br, 0, none⟩ = some (.slice D1 x.base.length e1) := ky.cell 0; have y1 : w6.cell? ⟨br, 1, none⟩ = some (.slice D2 x.blocks.length e2) := ky.cell 1; have y2 : w6.cell? ⟨br, 2, none⟩ = some (.slice D3 x.before.length e3) := ky.cell 2)
  have tX6 := tX5.new b6
  have tY6 := tY5.new b6
  have b26 := bthen b25 b6
  clear kx5 ky tX5 tY5 b25 b6
  obtain ⟨l1, l2, l3⟩ := unhide HPL
  have KS := sameTree_eq x B1 d1 B2 d2 B3 d3 D1 e1 D2 e2 D3 e3 w6 tX6 tY6 (by omega) (by omega) (unhide HPQ) (by omega)
  simp only [trA] at KS
  refine KS.mono ?_
  rintro e w7 ⟨rfl, b7⟩
  have tX7 := tX6.new b7
  have kx7 := kx6.new_ b7
  have b27 := bthen b26 b7
  clear p0 p1 p2 y0 y1 y2 tX6 tY6 kx6 KS b26 b7
  cases ok
  · go_wp2_with fail
    refine (alive_any w7).mono ?_
    rintro e w8 ⟨rfl, b8⟩
    go_wp2
    go_ret
    exact ⟨rfl, bthen hB (bthen b27 b8)⟩
  have HA2 := hide (unhide HASK rfl)
  have HL2 := hide (unhide HLEN rfl)
  clear HASK HLEN HOK
  obtain ⟨x0, x1, x2⟩ := unhide HX w7 b27
  go_wp2_with fail
  refine (unhide HKI w7 b27).mono ?_
  rintro e w8 ⟨AL, cl, rfl, oL, b8⟩
  have rL := own_rd oL
  have hkl := keptL_len t z
  have tX8 := tX7.new b8
  have kx8 := kx7.new_ b8
  have b28 := bthen b27 b8
  clear x0 x1 x2 oL tX7 kx7 b27 b8
  generalize keptL t z = ks at *
  have HRX := hide (fun (w' : World) (hb : Below w8.heap.size w8 w') (m key : Int) => ask_impl x B1 d1 B2 d2 B3 d3 m key w' (tX8.new hb) (by omega) (by omega) (unhide HPQ) (by omega))
  simp only [trA] at HRX
  have HKX := hide (fun (w' : World) (hb : Below w8.heap.size w8 w') => show (w'.cell? ⟨bq, 0, none⟩ = some (.slice B1 x.base.length d1) ∧ w'.cell? ⟨bq, 1, none⟩ = some (.slice B2 x.blocks.length d2) ∧ w'.cell? ⟨bq, 2, none⟩ = some (.slice B3 x.before.length d3)) from ⟨(kx8.new_ hb).cell 0, (kx8.new_ hb).cell 1, (kx8.new_ hb).cell 2⟩)
  have HRL := hide (fun (w' : World) (hb : Below w8.heap.size w8 w') => (rL.new hb : Rd w' AL (ks.map (.int .i64))))
  obtain ⟨key, hkey⟩ : ∃ key : Nat, key = bs.length % 32 := ⟨_, rfl⟩
  have hkv : (bs.length : Int) % 32 = (key : Int) := by omega
  have hkb : inB (key : Int) 0 31 = true := inB_true.2 (by omega)
  have HKB := hide hkb
  clear hkey hkb tX8 kx8 rL
  have hwe := b28.size
  go_wp2
  rw [hkv]
  go_loopw [11, 12, 13, 14, 15] (fun i _ _ _ _ wr => ∃ (k : Nat), k ≤ ks.length ∧ i = .int .i64 k ∧ Below w8.heap.size w8 wr) (fun i _ _ _ _ _ => ks.length - (intOf i).toNat)
  case atStart => exact ⟨0, Nat.zero_le _, rfl, Below.refl _ _⟩
  case round =>
    obtain ⟨k, hk, rfl, bk⟩ := hrel
    have b2k := bthen b28 bk
    by_cases hlt : k < ks.length
    · have i1 : (k : Int) < (ks.length : Int) := by omega
      obtain ⟨bb, ob, hAL, hbb, d0⟩ := (unhide HRL wr bk).int hlt
      obtain ⟨ok1, ok2, heq⟩ := unhide HA2 k hlt (key : Int) (unhide HKB)
      have hpl := askA_len t ks[k] (key : Int)
      have HAK := hide (fun (w' : World) (hb : Below w2.heap.size w2 w') => unhide HAT w' hb ks[k] (key : Int))
      have HAX := hide (fun (w' : World) (hb : Below w8.heap.size w8 w') => unhide HRX w' hb (k : Int) (key : Int))
      rw [ok2] at HAK
      rw [ok1, heq] at HAX
      clear ok1 ok2 heq
      generalize askA t ks[k] (key : Int) = an at *
      generalize ks[k] = m at *
      have HALL := hide hAL
      have hw24 := b28.size
      have hwk := bk.size
      have HX2 := hide (fun (w' : World) (hE : EB wr.heap.size 31 wr w') => show (w'.cell? ⟨bx, 0, none⟩ = some (.slice A1 t.base.length c1) ∧ w'.cell? ⟨bx, 1, none⟩ = some (.slice A2 t.blocks.length c2) ∧ w'.cell? ⟨bx, 2, none⟩ = some (.slice A3 t.before.length c3)) ∧ w'.cell? ⟨bb, ob + k, none⟩ = some (.int .i64 m) ∧ Below w2.heap.size w2 w' ∧ Below wr.heap.size wr w' from by
        have hb := hE.below (Nat.le_refl _)
        exact ⟨unhide HX w' (bthen b2k hb), (hb.cell (p := ⟨bb, ob + k, none⟩) hbb).trans d0, bthen b2k hb, hb⟩)
      clear hAL d0
      go_upto_region 15 with fail
      have hF : StEL (EB wr.heap.size 31) [bV (.agg #[.slice A1 t.base.length c1, .slice A2 t.blocks.length c2, .slice A3 t.before.length c3]), bV (.slice AL ks.length cl), bV (.int .i64 (k : Int)), bV (.pointer (some ⟨bb, ob + k, none⟩)), bV (.int .i64 m), bV (.int .i64 (key : Int)), sAskT wr.heap.size an true, sAskT wr.heap.size an true, sAsk wr.heap.size an, bV (.bool true), pV (fun v => v ≠ undef), pV (fun _ => True)] :=
        ⟨fun _ _ _ _ h => h, fun _ _ _ _ h => h, fun _ _ _ _ h => h, fun _ _ _ _ h => h, fun _ _ _ _ h => h, fun _ _ _ _ h => h, fun _ _ _ hE ⟨A, c, h1, h2⟩ => ⟨A, c, h1, own_EB h2 hE ne_ia⟩, fun _ _ _ hE ⟨A, c, h1, h2⟩ => ⟨A, c, h1, own_EB h2 hE ne_ia⟩, fun _ _ _ hE ⟨A, c, h1, h2⟩ => ⟨A, c, h1, own_EB h2 hE ne_ia⟩, fun _ _ _ _ h => h, fun _ _ _ _ h => h, fun _ _ _ _ h => h, trivial⟩
      refine wp_region_box (by kernel_rfl) [(0, some 61), (1, some 62), (2, some 63), (3, some 64), (4, some 65), (5, some 66), (6, some 67), (7, some 60), (8, some 68), (9, some 69), (10, some 12), (11, none)] [[], [], [], [(1, some 62), (2, some 63)], [(3, some 64)], [], [(0, some 61), (4, some 65), (5, some 66)], [(6, some 67)], [(7, some 60)], [(7, some 60)], [], [(8, some 68), (10, some 12)]] (by kernel_rfl) 11 [0, 1, 2, 3, 4, 5, 6, 7, 8, 10] (by kernel_rfl) 10
        (locB [bV (.agg #[.slice A1 t.base.length c1, .slice A2 t.blocks.length c2, .slice A3 t.before.length c3]), bV (.slice AL ks.length cl), bV (.int .i64 (k : Int)), bV (.pointer (some ⟨bb, ob + k, none⟩)), bV (.int .i64 m), bV (.int .i64 (key : Int)), sAskT wr.heap.size an true, sAskT wr.heap.size an true, sAsk wr.heap.size an, bV (.bool true), pV (fun v => v ≠ undef), pV (fun _ => True)]) (EB wr.heap.size 31) (BoxR wr.heap.size 31 #[.int .i64 0, .int .i64 0, .slice none 0 0] (qAsk wr.heap.size an)) (EB.refl _ _) (fun _ _ _ => EB.trans) (locE_st hF _) (.inl ⟨rfl, .inl rfl⟩) ?_ ?_
      · refine steps_cons ?s0 ( steps_cons ?s1 ( steps_cons ?s2 ( steps_cons ?s3 ( steps_cons ?s4 ( steps_cons ?s5 ( steps_cons ?s6 ( steps_cons ?s7 ( steps_cons ?s8 ( steps_cons ?s9 ( steps_cons ?s10 ( steps_cons ?s11 steps_nil)))))))))))
        case s0 =>
          intro w' b vp hE hb hR
          obtain rfl := hb (by simp)
          intro Q hQ
          obtain ⟨⟨x0, x1, x2⟩, x3, x4, x5⟩ := unhide HX2 w' hE.undrew
          go_wp2
          exact hQ _ _ _ rfl rfl (EB.refl _ _ _) hR
        case s1 =>
          intro w' b vp hE hb hR
          obtain rfl := hb (by simp)
          intro Q hQ
          go_wp2
          exact hQ _ _ _ rfl rfl (EB.refl _ _ _) hR
        case s2 =>
          intro w' b vp hE hb hR
          obtain rfl := hb (by simp)
          intro Q hQ
          go_wp2
          exact hQ _ _ _ rfl rfl (EB.refl _ _ _) hR
        case s3 =>
          intro w' b vp hE hb hR
          obtain rfl := hb (by simp)
          rintro _ ⟨rfl, -⟩ _ ⟨rfl, -⟩ Q hQ
          obtain rfl := unhide HALL
          go_wp2
          exact hQ _ _ _ rfl rfl (EB.refl _ _ _) hR
        case s4 =>
          intro w' b vp hE hb hR
          obtain rfl := hb (by simp)
          rintro _ ⟨rfl, -⟩ Q hQ
          obtain ⟨⟨x0, x1, x2⟩, x3, x4, x5⟩ := unhide HX2 w' hE.undrew
          go_wp2
          exact hQ _ _ _ rfl rfl (EB.refl _ _ _) hR
        case s5 =>
          intro w' b vp hE hb hR
          obtain rfl := hb (by simp)
          intro Q hQ
          go_wp2
          exact hQ _ _ _ rfl rfl (EB.refl _ _ _) hR
        case s6 =>
          intro w' b vp hE hb hR
          obtain rfl := hb (by simp)
          rintro _ ⟨rfl, -⟩ _ ⟨rfl, -⟩ _ ⟨rfl, -⟩ Q hQ
          obtain ⟨⟨x0, x1, x2⟩, x3, x4, x5⟩ := unhide HX2 w' hE.undrew
          go_wp2_with fail
          refine (unhide HAK w' x4).mono ?_
          rintro e w5 ⟨A7, c7, rfl, o7, b7⟩
          have hsz := hE.size
          go_wp2
          exact hQ _ _ _ rfl ⟨A7, c7, rfl, own_base o7 hsz⟩ (EB.of_new b7) (hR.new b7 (fun _ ⟨A, c, h1, h2⟩ => ⟨A, c, h1, own_new h2 b7⟩))
        case s7 =>
          intro w' b vp hE hb hR
          obtain rfl := hb (by simp)
          rintro _ ⟨⟨A7, c7, rfl, o7⟩, -⟩ Q hQ
          go_wp2
          exact hQ _ _ _ rfl ⟨A7, c7, rfl, o7⟩ (EB.refl _ _ _) hR
        case s8 =>
          intro w' b vp hE hb hR
          obtain rfl := hb (by simp)
          rintro _ ⟨⟨A7, c7, rfl, o7⟩, -⟩ Q hQ
          go_wp2
          exact hQ _ _ _ rfl ⟨A7, c7, rfl, o7⟩ (EB.refl _ _ _) hR
        case s9 =>
          intro w' b vp hE hbx hR
          clear hbx
          rintro _ ⟨⟨A7, c7, rfl, o7⟩, -⟩ Q hQ
          go_wp2
          exact hQ _ _ _ rfl rfl (EB.refl _ _ _) hR
        case s10 =>
          intro w' b vp hE hb hR
          obtain rfl := hb (by simp)
          intro Q hQ
          have hsz := hE.size
          go_wp2
          exact hQ _ _ _ rfl (fun h => by cases h) (EB.of_new ((Below.refl _ _).alloc (Nat.le_refl _) _)) (.inl ⟨rfl, .inr ⟨w'.heap.size, rfl, hsz, Blk.new _ _ _⟩⟩)
        case s11 =>
          intro w' b vp hE hb hR
          obtain rfl := hb (by simp)
          rintro _ ⟨⟨A7, c7, rfl, o7⟩, -⟩ _ ⟨hnu, hvp⟩ Q hQ
          obtain rfl := hvp rfl
          rcases hR with ⟨-, h | ⟨g, rfl, hg, hk9⟩⟩ | ⟨h, _⟩
          · exact absurd h hnu
          · refine wpList_store_row rfl 31 (.tmp 12) (.tmp 68) rfl g #[.int .i64 an.key, .int .i64 an.value, .slice A7 an.proof.length c7] rfl rfl 31 #[.int .i64 0, .int .i64 0, .slice none 0 0] hk9 info_ansF2 rfl (ans3_one2 _ _ _ _ _) ?_
            go_wp2
            exact hQ undef _ _ rfl trivial (EB.setRow hk9 hg _) (.inr ⟨rfl, g, _, rfl, hg, blk_setRow hk9, A7, c7, rfl, own_EB o7 (EB.setRow hk9 hg _) ne_ia⟩)
          · cases h
      intro w9 vp hE hR
      rintro v0 - v1 - v2 - v3 - v4 - v5 - v6 - v7 - v8 - v9 ⟨hv9, -⟩ v10 ⟨hnu, hvp⟩ v11 -
      obtain rfl : v9 = _ := hv9
      obtain rfl := hvp rfl
      rcases hR with ⟨h, _⟩ | ⟨-, g, cs, rfl, hg, k5, A7, c7, rfl, o7⟩
      · cases h
      change wpList _ _ _ [_] _ _
      simp only [Act.put, List.setIfInBounds_toArray, List.set_cons_succ, List.set_cons_zero]
      obtain ⟨-, -, b29, b9⟩ := unhide HX2 w9 hE.undrew
      have b89 := bthen bk b9
      have r7 := own_rd o7
      obtain ⟨p0, p1, p2⟩ := unhide HKX w9 b89
      clear hE hF hnu o7
      go_wp2_with fail
      refine (unhide HAX w9 b89).mono ?_
      rintro e w10 ⟨A8, c8, rfl, o8, b10⟩
      have k10 := k5.new_ b10
      have r710 := r7.new b10
      have r8 := own_rd o8
      have b810 := bthen b89 b10
      clear p0 p1 p2 o8 r7 b10 k5 b89 b9 b29
      go_wp2_with (refine wpList_store_row rfl 31 (.tmp 14) (.tmp 75) rfl w10.heap.size #[.int .i64 an.key, .int .i64 an.value, .slice A8 an.proof.length c8] rfl rfl 31 #[.int .i64 0, .int .i64 0, .slice none 0 0] (box_new w10 31 #[.int .i64 0, .int .i64 0, .slice none 0 0] #[.int .i64 an.key, .int .i64 an.value, .slice A8 an.proof.length c8]).1 info_ansF2 rfl (ans3_one2 _ _ _ _ _) ?_; refine at_world (C := fun W => wpList _ _ _ _ _ W) (F := fun W => Blk W w10.heap.size 31 #[.int .i64 an.key, .int .i64 an.value, .slice A8 an.proof.length c8] ∧ Below w10.heap.size w10 W) ⟨(box_new w10 31 #[.int .i64 0, .int .i64 0, .slice none 0 0] #[.int .i64 an.key, .int .i64 an.value, .slice A8 an.proof.length c8]).2.1, (box_new w10 31 #[.int .i64 0, .int .i64 0, .slice none 0 0] #[.int .i64 an.key, .int .i64 an.value, .slice A8 an.proof.length c8]).2.2⟩ ?_; rintro w11 ⟨k11, b11⟩; obtain ⟨gb, hgb⟩ : ∃ q, q = w10.heap.size := ⟨_, rfl⟩; rw [← hgb] at k11 ⊢; clear hgb; have k1011 := k10.new_ b11; have q0 : w11.cell? ⟨g, 1, none⟩ = some (.int .i64 an.value) := k1011.cell 1; have q1 : w11.cell? ⟨g, 2, none⟩ = some (.slice A7 an.proof.length c7) := k1011.cell 2; have q2 : w11.cell? ⟨gb, 1, none⟩ = some (.int .i64 an.value) := k11.cell 1; have q3 : w11.cell? ⟨gb, 2, none⟩ = some (.slice A8 an.proof.length c8) := k11.cell 2; have hnv : (an.value != an.value) = false := (by simp))
      refine (sameInts_any A7 A8 c7 c8 an.proof an.proof w11 (r710.new b11) (r8.new b11) (by omega)).mono ?_
      rintro e w12 ⟨rfl, m12, rfl⟩
      rw [show decide (an.proof = an.proof) = true by simp]
      have b812 := below_drewN (bthen b810 b11) m12
      go_wp2
      go_roundw
      case rel => exact ⟨k + 1, by omega, by go_num, b812⟩
      case measure => simp [intOf]; omega
    · obtain rfl : k = ks.length := by omega
      obtain ⟨p0, p1, p2⟩ := unhide HKX wr bk
      have hll : ((ks.length : Int) == (x.blocks.length : Int)) = true := by have := unhide HL2; simp; omega
      go_wp2
      go_ret
      exact ⟨rfl, bthen hB b2k⟩
end Go.Proofs.YtefdhlfljpppfaaGreat
