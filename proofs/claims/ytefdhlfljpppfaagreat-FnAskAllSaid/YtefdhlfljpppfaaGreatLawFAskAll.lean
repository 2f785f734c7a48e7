/- The law FnAskAll: the walk (printed by gen_in.py from xlawfaskall.in). -/
import Derived.Test.YtefdhlfljpppfaaGreatGdrawt
import Derived.Test.YtefdhlfljpppfaaGreatGtree
import Derived.Test.YtefdhlfljpppfaaGreatSums
import Derived.Test.YtefdhlfljpppfaaGreatIntS
namespace Go.Proofs.YtefdhlfljpppfaaGreat
open Go.RowKit
set_option linter.unusedVariables false
set_option linter.unusedSimpArgs false

theorem allOk_each {t : Tr} {n : Int} {ks : List Int} (h : allOk t n ks = true) {k : Nat} (hk : k < ks.length) : askOk t n ks[k] = true := by
  simp only [allOk, Bool.and_eq_true] at h
  exact List.all_eq_true.1 h.2.2 _ (List.getElem_mem hk)
theorem info_ansF : (Tryz.prog.info? 31).map (·.size) = some 3 := by kernel_rfl
theorem ans3_one (a b : Int) (A : Option Addr) (n k : Nat) : (#[Value.int .i64 a, .int .i64 b, .slice A n k]).all (·.oneCell') = true := by
  simp [Value.oneCell']
set_option maxRecDepth 100000 in
set_option maxHeartbeats 8000000 in
theorem law_FnAskAll (A : Option Addr) (c : Nat) (bs : List Int) (w : World) (h : Rd w A (bs.map (.int .u8))) (hw : ∀ b ∈ bs, 0 ≤ b ∧ b ≤ 255) (hc : bs.length ≤ c) (hm : c ≤ maxLen) :
    Calls Tryz.prog 4 #[.slice A bs.length c] w fun e w' => e = .returned (.bool true) ∧ Below w.heap.size w w' := by
  have hm2 : bs.length ≤ 9223372036854775807 := by simp only [maxLen] at hm; omega
  by_cases hl : (1048576 : Int) < (bs.length : Int)
  · clear hw
    go_enter Tryz.func4, Tryz.ntmps4
    go_wp2
    go_ret
    exact ⟨rfl, Below.refl _ _⟩
  have HW := hide hw
  have HC := hide hc
  have HM := hide hm
  clear hw hc hm
  go_enter Tryz.func4, Tryz.ntmps4
  go_wp2_with fail
  refine (DrawAskAll_any A c bs w h (unhide HW) (unhide HC) (unhide HM)).mono ?_
  rintro e w1 ⟨t, A1, c1, A2, c2, A3, c3, z, B, cb, ks, rfl, hz, hkl, ⟨hd1, ⟨hd2, hd2'⟩, hd3, hd4⟩, hR1, hK1, hB⟩
  clear h hz
  go_wp2_with (refine wpList_store_row rfl 27 (.tmp 3) (.tmp 19) rfl w1.heap.size #[.slice A1 t.base.length c1, .slice A2 t.blocks.length c2, .slice A3 t.before.length c3] rfl rfl 27 #[.slice none 0 0, .slice none 0 0, .slice none 0 0] (box_new w1 27 #[.slice none 0 0, .slice none 0 0, .slice none 0 0] #[.slice A1 t.base.length c1, .slice A2 t.blocks.length c2, .slice A3 t.before.length c3]).1 info_tr rfl (sl3_one _ _ _ _ _ _ _ _ _) ?_; refine at_world (C := fun W => wpList _ _ _ _ _ W) (F := fun W => Blk W w1.heap.size 27 #[.slice A1 t.base.length c1, .slice A2 t.blocks.length c2, .slice A3 t.before.length c3] ∧ Below w1.heap.size w1 W) ⟨(box_new w1 27 #[.slice none 0 0, .slice none 0 0, .slice none 0 0] #[.slice A1 t.base.length c1, .slice A2 t.blocks.length c2, .slice A3 t.before.length c3]).2.1, (box_new w1 27 #[.slice none 0 0, .slice none 0 0, .slice none 0 0] #[.slice A1 t.base.length c1, .slice A2 t.blocks.length c2, .slice A3 t.before.length c3]).2.2⟩ ?_; rintro w2 ⟨kb, b2⟩; obtain ⟨bx, hbx⟩ : ∃ bx, bx = w1.heap.size := ⟨_, rfl⟩; rw [← hbx] at kb ⊢; have HBX := hide hbx; clear hbx; have x0 : w2.cell? ⟨bx, 0, none⟩ = some (.slice A1 t.base.length c1) := kb.cell 0; have x1 : w2.cell? ⟨bx, 1, none⟩ = some (.slice A2 t.blocks.length c2) := kb.cell 1; have x2 : w2.cell? ⟨bx, 2, none⟩ = some (.slice A3 t.before.length c3) := kb.cell 2)
  have hbx := unhide HBX
  have hbx1 : w.heap.size ≤ bx := by have := hB.size; omega
  replace hB := bthen hB b2
  have HR := hide (fun (w' : World) (hb : Below w2.heap.size w2 w') => hR1.new (bthen b2 hb))
  have HRK := hide (fun (w' : World) (hb : Below w2.heap.size w2 w') => (hK1.new (bthen b2 hb) : Rd w' B (ks.map (.int .i64))))
  have HD4 := hide (fun x (hx : x ∈ t.blocks) => show x.list.length ≤ 1099511627776 by have := hd4 x hx; omega)
  have HX := hide (fun (w' : World) (hb : Below w2.heap.size w2 w') => show (w'.cell? ⟨bx, 0, none⟩ = some (.slice A1 t.base.length c1) ∧ w'.cell? ⟨bx, 1, none⟩ = some (.slice A2 t.blocks.length c2) ∧ w'.cell? ⟨bx, 2, none⟩ = some (.slice A3 t.before.length c3)) from ⟨(kb.new_ hb).cell 0, (kb.new_ hb).cell 1, (kb.new_ hb).cell 2⟩)
  have HAI := hide (fun (w' : World) (hb : Below w2.heap.size w2 w') => askAll_impl t A1 c1 A2 c2 A3 c3 z B cb ks w' (unhide HR w' hb) (unhide HRK w' hb) (by omega) (by omega) (unhide HD4) (by omega) (by omega))
  have HAS := hide (fun (w' : World) (hb : Below w2.heap.size w2 w') => askAll_spec t A1 c1 A2 c2 A3 c3 z B cb ks w' (unhide HR w' hb) (unhide HRK w' hb) (by omega) (by omega) (unhide HD4) (by omega) (by omega))
  have HAB := hide (fun (w' : World) (hb : Below w2.heap.size w2 w') (key : Int) => ask_impl t A1 c1 A2 c2 A3 c3 z key w' (unhide HR w' hb) (by omega) (by omega) (unhide HD4) (by omega))
  simp only [trA] at HAI HAS HAB
  have hbl := kb.lt
  clear hbx hR1 hK1 hd4 kb b2
  refine (unhide HAI w2 (Below.refl _ _)).mono ?_
  rintro e w3 ⟨AL, cl, fp, rfl, oL, hge, b3⟩
  clear x0 x1 x2 hge
  obtain ⟨x0, x1, x2⟩ := unhide HX w3 b3
  go_wp2_with fail
  refine (unhide HAS w3 b3).mono ?_
  rintro e w4 ⟨AM, cm, fq, rfl, oM, hge, b4⟩
  have b24 := bthen b3 b4
  have rL4 := (oL.new ansO_good b4).rd ansO_good ans_good (P := fun _ => True) (fun _ _ => trivial)
  have hal := allA_len t z ks
  clear x0 x1 x2 hge oM oL b3 b4
  cases hok : allOk t z ks
  · have hz := allA_no hok
    rw [hz]
    clear hz hok rL4 hal
    go_wp2_with fail
    refine (alive_any w4).mono ?_
    rintro e w7 ⟨rfl, b7⟩
    go_wp2
    go_ret
    exact ⟨rfl, bthen hB (bthen b24 b7)⟩
  have HEA := hide (fun (k : Nat) (hk : k < ks.length) => allOk_each hok hk)
  have HYS := hide (allA_yes hok)
  have hyl : (allA t z ks).length = ks.length := by rw [allA_yes hok]; simp
  have HEL := hide (fun (k : Nat) (hk : k < ks.length) => show ∃ h : k < (allA t z ks).length, (allA t z ks)[k] = askA t z ks[k] from ⟨by omega, by simp [allA_yes hok]⟩)
  clear hok
  have HRL := hide (fun (w' : World) (hb : Below w4.heap.size w4 w') => (rL4.new ans_good hb))
  rw [hyl]
  clear rL4 hal
  have HYL := hide hyl
  clear hyl
  go_wp2
  go_loopw [10, 11, 12] (fun i _ _ wr => ∃ (k : Nat), k ≤ ks.length ∧ i = .int .i64 k ∧ Below w4.heap.size w4 wr) (fun i _ _ _ => ks.length - (intOf i).toNat)
  case atStart => exact ⟨0, Nat.zero_le _, rfl, Below.refl _ _⟩
  case round =>
    obtain ⟨k, hk, rfl, bk⟩ := hrel
    have b2k := bthen b24 bk
    by_cases hlt : k < ks.length
    · have i1 : (k : Int) < (ks.length : Int) := by omega
      obtain ⟨bq, oq, hBB, hqb, d0⟩ := (unhide HRK wr b2k).int hlt
      obtain ⟨hkl2, hea⟩ := unhide HEL k hlt
      have hka := unhide HEA k hlt
      have hay := askA_yes hka
      have hky : (askA t z ks[k]).key = ks[k] := by rw [hay]
      have hpl := askA_len t z ks[k]
      have hrl := unhide HRL wr bk
      obtain ⟨ba, oa, P1, e1, hAL, -, hab, a0, a1, a2, hlc, r1⟩ := hrl.ans hkl2
      rw [hea] at a0 a1 a2 r1
      rw [hky] at a0
      have HAK := hide (fun (w' : World) (hb : Below w2.heap.size w2 w') => unhide HAB w' hb ks[k])
      rw [hka] at HAK
      clear hay hky hka hrl hea
      generalize askA t z ks[k] = an at *
      generalize ks[k] = key at *
      have HBB := hide hBB
      have HALL := hide hAL
      have hbk := hB.size
      have hw24 := b24.size
      have hwk := bk.size
      have HX2 := hide (fun (w' : World) (hE : EB wr.heap.size 31 wr w') => show (w'.cell? ⟨bx, 0, none⟩ = some (.slice A1 t.base.length c1) ∧ w'.cell? ⟨bx, 1, none⟩ = some (.slice A2 t.blocks.length c2) ∧ w'.cell? ⟨bx, 2, none⟩ = some (.slice A3 t.before.length c3)) ∧ w'.cell? ⟨bq, oq + k, none⟩ = some (.int .i64 key) ∧ Below w2.heap.size w2 w' ∧ Below wr.heap.size wr w' from by
        have hb := hE.below (Nat.le_refl _)
        exact ⟨unhide HX w' (bthen b2k hb), (hb.cell (p := ⟨bq, oq + k, none⟩) hqb).trans d0, bthen b2k hb, hb⟩)
      clear hBB hAL d0
      go_wp2_with fail
      have hF : StEL (EB wr.heap.size 31) [bV (.agg #[.slice A1 t.base.length c1, .slice A2 t.blocks.length c2, .slice A3 t.before.length c3]), bV (.int .i64 z), bV (.slice B ks.length cb), bV (.int .i64 (k : Int)), bV (.pointer (some ⟨bq, oq + k, none⟩)), bV (.int .i64 key), sAskT wr.heap.size an true, sAskT wr.heap.size an true, sAsk wr.heap.size an, bV (.bool true), pV (fun v => v ≠ undef), pV (fun _ => True)] :=
        ⟨fun _ _ _ _ h => h, fun _ _ _ _ h => h, fun _ _ _ _ h => h, fun _ _ _ _ h => h, fun _ _ _ _ h => h, fun _ _ _ _ h => h, fun _ _ _ hE ⟨A, c, h1, h2⟩ => ⟨A, c, h1, own_EB h2 hE ne_ia⟩, fun _ _ _ hE ⟨A, c, h1, h2⟩ => ⟨A, c, h1, own_EB h2 hE ne_ia⟩, fun _ _ _ hE ⟨A, c, h1, h2⟩ => ⟨A, c, h1, own_EB h2 hE ne_ia⟩, fun _ _ _ _ h => h, fun _ _ _ _ h => h, fun _ _ _ _ h => h, trivial⟩
      refine wp_region_box (by kernel_rfl) [(0, some 61), (1, some 62), (2, some 63), (3, some 64), (4, some 65), (5, some 66), (6, some 67), (7, some 60), (8, some 68), (9, some 69), (10, some 11), (11, none)] [[], [], [], [], [(2, some 63), (3, some 64)], [(4, some 65)], [(0, some 61), (1, some 62), (5, some 66)], [(6, some 67)], [(7, some 60)], [(7, some 60)], [], [(8, some 68), (10, some 11)]] (by kernel_rfl) 11 [0, 1, 2, 3, 4, 5, 6, 7, 8, 10] (by kernel_rfl) 10
        (locB [bV (.agg #[.slice A1 t.base.length c1, .slice A2 t.blocks.length c2, .slice A3 t.before.length c3]), bV (.int .i64 z), bV (.slice B ks.length cb), bV (.int .i64 (k : Int)), bV (.pointer (some ⟨bq, oq + k, none⟩)), bV (.int .i64 key), sAskT wr.heap.size an true, sAskT wr.heap.size an true, sAsk wr.heap.size an, bV (.bool true), pV (fun v => v ≠ undef), pV (fun _ => True)]) (EB wr.heap.size 31) (BoxR wr.heap.size 31 #[.int .i64 0, .int .i64 0, .slice none 0 0] (qAsk wr.heap.size an)) (EB.refl _ _) (fun _ _ _ => EB.trans) (locE_st hF _) (.inl ⟨rfl, .inl rfl⟩) ?_ ?_
      · refine steps_cons ?s0 ( steps_cons ?s1 ( steps_cons ?s2 ( steps_cons ?s3 ( steps_cons ?s4 ( steps_cons ?s5 ( steps_cons ?s6 ( steps_cons ?s7 ( steps_cons ?s8 ( steps_cons ?s9 ( steps_cons ?s10 ( steps_cons ?s11 steps_nil)))))))))))
        case s0 =>
          intro w' b vp hE hb hR
          obtain rfl := hb (by simp)
          intro Q hQ
          obtain ⟨⟨x0, x1, x2⟩, x3, x4, x5⟩ := unhide HX2 w' hE.undrew
          go_wp2
          exact hQ _ _ _ rfl rfl (EB.refl _ _ _) hR
        case s1 =>
          intro w' b vp hE hb hR
          obtain rfl := hb (by simp)
          intro Q hQ
          go_wp2
          exact hQ _ _ _ rfl rfl (EB.refl _ _ _) hR
        case s2 =>
          intro w' b vp hE hb hR
          obtain rfl := hb (by simp)
          intro Q hQ
          go_wp2
          exact hQ _ _ _ rfl rfl (EB.refl _ _ _) hR
        case s3 =>
          intro w' b vp hE hb hR
          obtain rfl := hb (by simp)
          intro Q hQ
          go_wp2
          exact hQ _ _ _ rfl rfl (EB.refl _ _ _) hR
        case s4 =>
          intro w' b vp hE hb hR
          obtain rfl := hb (by simp)
          rintro _ ⟨rfl, -⟩ _ ⟨rfl, -⟩ Q hQ
          obtain rfl := unhide HBB
          go_wp2
          exact hQ _ _ _ rfl rfl (EB.refl _ _ _) hR
        case s5 =>
          intro w' b vp hE hb hR
          obtain rfl := hb (by simp)
          rintro _ ⟨rfl, -⟩ Q hQ
          obtain ⟨⟨x0, x1, x2⟩, x3, x4, x5⟩ := unhide HX2 w' hE.undrew
          go_wp2
          exact hQ _ _ _ rfl rfl (EB.refl _ _ _) hR
        case s6 =>
          intro w' b vp hE hb hR
          obtain rfl := hb (by simp)
          rintro _ ⟨rfl, -⟩ _ ⟨rfl, -⟩ _ ⟨rfl, -⟩ Q hQ
          obtain ⟨⟨x0, x1, x2⟩, x3, x4, x5⟩ := unhide HX2 w' hE.undrew
          go_wp2_with fail
          refine (unhide HAK w' x4).mono ?_
          rintro e w5 ⟨A7, c7, rfl, o7, b7⟩
          have hsz := hE.size
          go_wp2
          exact hQ _ _ _ rfl ⟨A7, c7, rfl, own_base o7 hsz⟩ (EB.of_new b7) (hR.new b7 (fun _ ⟨A, c, h1, h2⟩ => ⟨A, c, h1, own_new h2 b7⟩))
        case s7 =>
          intro w' b vp hE hb hR
          obtain rfl := hb (by simp)
          rintro _ ⟨⟨A7, c7, rfl, o7⟩, -⟩ Q hQ
          go_wp2
          exact hQ _ _ _ rfl ⟨A7, c7, rfl, o7⟩ (EB.refl _ _ _) hR
        case s8 =>
          intro w' b vp hE hb hR
          obtain rfl := hb (by simp)
          rintro _ ⟨⟨A7, c7, rfl, o7⟩, -⟩ Q hQ
          go_wp2
          exact hQ _ _ _ rfl ⟨A7, c7, rfl, o7⟩ (EB.refl _ _ _) hR
        case s9 =>
          intro w' b vp hE hbx hR
          clear hbx
          rintro _ ⟨⟨A7, c7, rfl, o7⟩, -⟩ Q hQ
          go_wp2
          exact hQ _ _ _ rfl rfl (EB.refl _ _ _) hR
        case s10 =>
          intro w' b vp hE hb hR
          obtain rfl := hb (by simp)
          intro Q hQ
          have hsz := hE.size
          go_wp2
          exact hQ _ _ _ rfl (fun h => by cases h) (EB.of_new ((Below.refl _ _).alloc (Nat.le_refl _) _)) (.inl ⟨rfl, .inr ⟨w'.heap.size, rfl, hsz, Blk.new _ _ _⟩⟩)
        case s11 =>
          intro w' b vp hE hb hR
          obtain rfl := hb (by simp)
          rintro _ ⟨⟨A7, c7, rfl, o7⟩, -⟩ _ ⟨hnu, hvp⟩ Q hQ
          obtain rfl := hvp rfl
          rcases hR with ⟨-, h | ⟨g, rfl, hg, hk9⟩⟩ | ⟨h, _⟩
          · exact absurd h hnu
          · refine wpList_store_row rfl 31 (.tmp 11) (.tmp 68) rfl g #[.int .i64 an.key, .int .i64 an.value, .slice A7 an.proof.length c7] rfl rfl 31 #[.int .i64 0, .int .i64 0, .slice none 0 0] hk9 info_ansF rfl (ans3_one _ _ _ _ _) ?_
            go_wp2
            exact hQ undef _ _ rfl trivial (EB.setRow hk9 hg _) (.inr ⟨rfl, g, _, rfl, hg, blk_setRow hk9, A7, c7, rfl, own_EB o7 (EB.setRow hk9 hg _) ne_ia⟩)
          · cases h
      intro w5 vp hE hR
      rintro v0 - v1 - v2 - v3 - v4 - v5 - v6 - v7 - v8 - v9 ⟨hv9, -⟩ v10 ⟨hnu, hvp⟩ v11 -
      obtain rfl : v9 = _ := hv9
      obtain rfl := hvp rfl
      rcases hR with ⟨h, _⟩ | ⟨-, g, cs, rfl, hg, k5, A7, c7, rfl, o7⟩
      · cases h
      change wpList _ _ _ [_] _ _
      simp only [Act.put, List.setIfInBounds_toArray, List.set_cons_succ, List.set_cons_zero]
      obtain ⟨-, -, b25, b5⟩ := unhide HX2 w5 hE.undrew
      have hgl := k5.lt
      have HX3 := hide (fun (w' : World) (hb : Below w5.heap.size w5 w') => show (w'.cell? ⟨ba, oa + k * 3, none⟩ = some (.int .i64 key) ∧ w'.cell? ⟨ba, oa + k * 3 + 1, none⟩ = some (.int .i64 an.value) ∧ w'.cell? ⟨ba, oa + k * 3 + 2, none⟩ = some (.slice P1 an.proof.length e1)) ∧ w'.cell? ⟨bq, oq + k, none⟩ = some (.int .i64 key) ∧ (w'.cell? ⟨g, 0, none⟩ = some (.int .i64 an.key) ∧ w'.cell? ⟨g, 1, none⟩ = some (.int .i64 an.value) ∧ w'.cell? ⟨g, 2, none⟩ = some (.slice A7 an.proof.length c7)) ∧ Rd w' P1 (an.proof.map (.int .i64)) ∧ Rd w' A7 (an.proof.map (.int .i64)) from by
        have h5 := bthen b5 hb
        exact ⟨⟨(h5.cell (p := ⟨ba, oa + k * 3, none⟩) hab).trans a0, (h5.cell (p := ⟨ba, oa + k * 3 + 1, none⟩) hab).trans a1, (h5.cell (p := ⟨ba, oa + k * 3 + 2, none⟩) hab).trans a2⟩, (unhide HX2 w' (EB.of_new h5)).2.1, ⟨(k5.new_ hb).cell 0, (k5.new_ hb).cell 1, (k5.new_ hb).cell 2⟩, Rd.new (RdP.rd r1) h5, own_rd (own_new o7 hb)⟩)
      clear hE hF a0 a1 a2 k5 o7 hnu r1 hlc
      go_upto_region 14 with fail
      have hF : StBL [bV (.bool true), bV (.bool false), bV (.bool false), bV (.slice AL ks.length cl), bV (.int .i64 (k : Int)), bV (.pointer (some ⟨ba, oa + k * 3, none⟩)), bV (.pointer (some ⟨ba, oa + k * 3, none⟩)), bV (.int .i64 key), bV (.slice B ks.length cb), bV (.int .i64 (k : Int)), bV (.pointer (some ⟨bq, oq + k, none⟩)), bV (.int .i64 key), bV (.bool false), bV (.bool false), bV (.bool false), bV (.slice AL ks.length cl), bV (.int .i64 (k : Int)), bV (.pointer (some ⟨ba, oa + k * 3, none⟩)), bV (.pointer (some ⟨ba, oa + k * 3 + 1, none⟩)), bV (.int .i64 an.value), bV (.pointer (some ⟨g, 1, none⟩)), bV (.int .i64 an.value), bV (.bool false), bV (.bool false), bV (.bool false), bV (.slice AL ks.length cl), bV (.int .i64 (k : Int)), bV (.pointer (some ⟨ba, oa + k * 3, none⟩)), bV (.pointer (some ⟨ba, oa + k * 3 + 2, none⟩)), bV (.slice P1 an.proof.length e1), bV (.pointer (some ⟨g, 2, none⟩)), bV (.slice A7 an.proof.length c7)] :=
        ⟨sb_V _, sb_V _, sb_V _, sb_V _, sb_V _, sb_V _, sb_V _, sb_V _, sb_V _, sb_V _, sb_V _, sb_V _, sb_V _, sb_V _, sb_V _, sb_V _, sb_V _, sb_V _, sb_V _, sb_V _, sb_V _, sb_V _, sb_V _, sb_V _, sb_V _, sb_V _, sb_V _, sb_V _, sb_V _, sb_V _, sb_V _, sb_V _, trivial⟩
      refine wp_region_loc (by kernel_rfl) [(0, some 70), (1, some 71), (2, some 72), (3, some 73), (4, some 74), (5, some 75), (6, some 76), (7, some 77), (8, some 78), (9, some 79), (10, some 80), (11, some 81), (12, some 82), (13, some 83), (14, some 84), (15, some 85), (16, some 86), (17, some 87), (18, some 88), (19, some 89), (20, some 90), (21, some 91), (22, some 92), (23, some 93), (24, some 94), (25, some 95), (26, some 96), (27, some 97), (28, some 98), (29, some 99), (30, some 100), (31, some 101)] [[], [(0, some 70)], [(1, some 71)], [(2, some 72)], [(2, some 72)], [(2, some 72), (3, some 73), (4, some 74)], [(2, some 72), (5, some 75)], [(2, some 72), (6, some 76)], [(2, some 72)], [(2, some 72)], [(2, some 72), (8, some 78), (9, some 79)], [(2, some 72), (10, some 80)], [(2, some 72), (7, some 77), (11, some 81)], [(2, some 72), (12, some 82)], [(13, some 83)], [(14, some 84)], [(14, some 84)], [(14, some 84), (15, some 85), (16, some 86)], [(14, some 84), (17, some 87)], [(14, some 84), (18, some 88)], [(14, some 84)], [(14, some 84), (20, some 90)], [(14, some 84), (19, some 89), (21, some 91)], [(14, some 84), (22, some 92)], [(23, some 93)], [(24, some 94)], [(24, some 94)], [(24, some 94), (25, some 95), (26, some 96)], [(24, some 94), (27, some 97)], [(24, some 94), (28, some 98)], [(24, some 94)], [(24, some 94), (30, some 100)]] (by kernel_rfl)
        (locB _) (fun a b => Below a.heap.size a b) noR [0, 0, 0, 0, 0, 0, 0, 0, 0, 0, 0, 0, 0, 0, 0, 0, 0, 0, 0, 0, 0, 0, 0, 0, 0, 0, 0, 0, 0, 0, 0, 0] 0 (by kernel_rfl) (fun _ => Below.refl _ _) (fun _ _ _ => bthen) (locB_st hF _) trivial ?_ ?_
      · refine steps_cons ?s0 ( steps_cons ?s1 ( steps_cons ?s2 ( steps_cons ?s3 ( steps_cons ?s4 ( steps_cons ?s5 ( steps_cons ?s6 ( steps_cons ?s7 ( steps_cons ?s8 ( steps_cons ?s9 ( steps_cons ?s10 ( steps_cons ?s11 ( steps_cons ?s12 ( steps_cons ?s13 ( steps_cons ?s14 ( steps_cons ?s15 ( steps_cons ?s16 ( steps_cons ?s17 ( steps_cons ?s18 ( steps_cons ?s19 ( steps_cons ?s20 ( steps_cons ?s21 ( steps_cons ?s22 ( steps_cons ?s23 ( steps_cons ?s24 ( steps_cons ?s25 ( steps_cons ?s26 ( steps_cons ?s27 ( steps_cons ?s28 ( steps_cons ?s29 ( steps_cons ?s30 ( steps_cons ?s31 steps_nil)))))))))))))))))))))))))))))))
        case s0 =>
          intro w' m' hE hR
          intro Q hQ
          go_wp2
          exact hQ _ _ _ rfl rfl (Below.refl _ _) trivial
        case s1 =>
          intro w' m' hE hR
          rintro _ rfl Q hQ
          go_wp2
          exact hQ _ _ _ rfl rfl (Below.refl _ _) trivial
        case s2 =>
          intro w' m' hE hR
          rintro _ rfl Q hQ
          go_wp2
          exact hQ _ _ _ rfl rfl (Below.refl _ _) trivial
        case s3 =>
          intro w' m' hE hR
          rintro _ rfl Q hQ
          go_wp2
          exact hQ _ _ _ rfl rfl (Below.refl _ _) trivial
        case s4 =>
          intro w' m' hE hR
          rintro _ rfl Q hQ
          go_wp2
          exact hQ _ _ _ rfl rfl (Below.refl _ _) trivial
        case s5 =>
          intro w' m' hE hR
          rintro _ rfl _ rfl _ rfl Q hQ
          obtain rfl := unhide HALL
          go_wp2
          exact hQ _ _ _ rfl rfl (Below.refl _ _) trivial
        case s6 =>
          intro w' m' hE hR
          rintro _ rfl _ rfl Q hQ
          go_wp2
          exact hQ _ _ _ rfl rfl (Below.refl _ _) trivial
        case s7 =>
          intro w' m' hE hR
          rintro _ rfl _ rfl Q hQ
          obtain ⟨⟨y0, y1, y2⟩, y3, ⟨y4, y5, y6⟩, y7, y8⟩ := unhide HX3 w' (below_undrew hE)
          go_wp2
          exact hQ _ _ _ rfl rfl (Below.refl _ _) trivial
        case s8 =>
          intro w' m' hE hR
          rintro _ rfl Q hQ
          go_wp2
          exact hQ _ _ _ rfl rfl (Below.refl _ _) trivial
        case s9 =>
          intro w' m' hE hR
          rintro _ rfl Q hQ
          go_wp2
          exact hQ _ _ _ rfl rfl (Below.refl _ _) trivial
        case s10 =>
          intro w' m' hE hR
          rintro _ rfl _ rfl _ rfl Q hQ
          obtain rfl := unhide HBB
          go_wp2
          exact hQ _ _ _ rfl rfl (Below.refl _ _) trivial
        case s11 =>
          intro w' m' hE hR
          rintro _ rfl _ rfl Q hQ
          obtain ⟨⟨y0, y1, y2⟩, y3, ⟨y4, y5, y6⟩, y7, y8⟩ := unhide HX3 w' (below_undrew hE)
          go_wp2
          exact hQ _ _ _ rfl rfl (Below.refl _ _) trivial
        case s12 =>
          intro w' m' hE hR
          rintro _ rfl _ rfl _ rfl Q hQ
          go_wp2
          exact hQ _ _ _ rfl rfl (Below.refl _ _) trivial
        case s13 =>
          intro w' m' hE hR
          rintro _ rfl _ rfl Q hQ
          go_wp2
          exact hQ _ _ _ rfl rfl (Below.refl _ _) trivial
        case s14 =>
          intro w' m' hE hR
          rintro _ rfl Q hQ
          go_wp2
          exact hQ _ _ _ rfl rfl (Below.refl _ _) trivial
        case s15 =>
          intro w' m' hE hR
          rintro _ rfl Q hQ
          go_wp2
          exact hQ _ _ _ rfl rfl (Below.refl _ _) trivial
        case s16 =>
          intro w' m' hE hR
          rintro _ rfl Q hQ
          go_wp2
          exact hQ _ _ _ rfl rfl (Below.refl _ _) trivial
        case s17 =>
          intro w' m' hE hR
          rintro _ rfl _ rfl _ rfl Q hQ
          obtain rfl := unhide HALL
          go_wp2
          exact hQ _ _ _ rfl rfl (Below.refl _ _) trivial
        case s18 =>
          intro w' m' hE hR
          rintro _ rfl _ rfl Q hQ
          go_wp2
          exact hQ _ _ _ rfl rfl (Below.refl _ _) trivial
        case s19 =>
          intro w' m' hE hR
          rintro _ rfl _ rfl Q hQ
          obtain ⟨⟨y0, y1, y2⟩, y3, ⟨y4, y5, y6⟩, y7, y8⟩ := unhide HX3 w' (below_undrew hE)
          go_wp2
          exact hQ _ _ _ rfl rfl (Below.refl _ _) trivial
        case s20 =>
          intro w' m' hE hR
          rintro _ rfl Q hQ
          go_wp2
          exact hQ _ _ _ rfl rfl (Below.refl _ _) trivial
        case s21 =>
          intro w' m' hE hR
          rintro _ rfl _ rfl Q hQ
          obtain ⟨⟨y0, y1, y2⟩, y3, ⟨y4, y5, y6⟩, y7, y8⟩ := unhide HX3 w' (below_undrew hE)
          go_wp2
          exact hQ _ _ _ rfl rfl (Below.refl _ _) trivial
        case s22 =>
          intro w' m' hE hR
          rintro _ rfl _ rfl _ rfl Q hQ
          go_wp2
          exact hQ _ _ _ rfl rfl (Below.refl _ _) trivial
        case s23 =>
          intro w' m' hE hR
          rintro _ rfl _ rfl Q hQ
          go_wp2
          exact hQ _ _ _ rfl rfl (Below.refl _ _) trivial
        case s24 =>
          intro w' m' hE hR
          rintro _ rfl Q hQ
          go_wp2
          exact hQ _ _ _ rfl rfl (Below.refl _ _) trivial
        case s25 =>
          intro w' m' hE hR
          rintro _ rfl Q hQ
          go_wp2
          exact hQ _ _ _ rfl rfl (Below.refl _ _) trivial
        case s26 =>
          intro w' m' hE hR
          rintro _ rfl Q hQ
          go_wp2
          exact hQ _ _ _ rfl rfl (Below.refl _ _) trivial
        case s27 =>
          intro w' m' hE hR
          rintro _ rfl _ rfl _ rfl Q hQ
          obtain rfl := unhide HALL
          go_wp2
          exact hQ _ _ _ rfl rfl (Below.refl _ _) trivial
        case s28 =>
          intro w' m' hE hR
          rintro _ rfl _ rfl Q hQ
          go_wp2
          exact hQ _ _ _ rfl rfl (Below.refl _ _) trivial
        case s29 =>
          intro w' m' hE hR
          rintro _ rfl _ rfl Q hQ
          obtain ⟨⟨y0, y1, y2⟩, y3, ⟨y4, y5, y6⟩, y7, y8⟩ := unhide HX3 w' (below_undrew hE)
          go_wp2
          exact hQ _ _ _ rfl rfl (Below.refl _ _) trivial
        case s30 =>
          intro w' m' hE hR
          rintro _ rfl Q hQ
          go_wp2
          exact hQ _ _ _ rfl rfl (Below.refl _ _) trivial
        case s31 =>
          intro w' m' hE hR
          rintro _ rfl _ rfl Q hQ
          obtain ⟨⟨y0, y1, y2⟩, y3, ⟨y4, y5, y6⟩, y7, y8⟩ := unhide HX3 w' (below_undrew hE)
          go_wp2
          exact hQ _ _ _ rfl rfl (Below.refl _ _) trivial
      intro w6 hE _
      rintro v0 - v1 - v2 - v3 - v4 - v5 - v6 - v7 - v8 - v9 - v10 - v11 - v12 - v13 - v14 - v15 - v16 - v17 - v18 - v19 - v20 - v21 - v22 - v23 - v24 hv24 v25 - v26 - v27 - v28 - v29 hv29 v30 - v31 hv31
      obtain rfl : v24 = _ := hv24
      obtain rfl : v29 = _ := hv29
      obtain rfl : v31 = _ := hv31
      change wpList _ _ _ [_, _, _] _ _
      simp only [Act.put, List.setIfInBounds_toArray, List.set_cons_succ, List.set_cons_zero]
      have b6 := below_undrew hE
      clear hE hF
      obtain ⟨-, -, -, r7, r8⟩ := unhide HX3 w6 b6
      go_wp2_with fail
      refine (sameInts_any P1 A7 e1 c7 an.proof an.proof w6 r7 r8 (by omega)).mono ?_
      rintro e w7 ⟨rfl, m, rfl⟩
      rw [show decide (an.proof = an.proof) = true by simp]
      have b7 := below_drewN (bthen bk (bthen b5 b6)) m
      go_wp2
      go_roundw
      case rel => exact ⟨k + 1, by omega, by go_num, b7⟩
      case measure => simp [intOf]; omega
    · obtain rfl : k = ks.length := by omega
      go_wp2
      go_ret
      exact ⟨rfl, bthen hB b2k⟩
end Go.Proofs.YtefdhlfljpppfaaGreat
