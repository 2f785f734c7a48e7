/- The law FnRightReads (printed by gen_lawsy.py from lawsy.in). -/
import Derived.Test.YtiaodcjocogkkaaDrawEf
import Derived.Test.YtiaodcjocogkkaaSameE
import Derived.Test.YtiaodcjocogkkaaRightP
import Derived.Test.YtiaodcjocogkkaaRunFw
import Derived.Test.YtiaodcjocogkkaaLocB
import Derived.Test.YtiaodcjocogkkaaSums
namespace Go.Proofs.Ytiaodcjocogkkaa
open Go.RowKit
set_option linter.unusedVariables false
set_option linter.unusedSimpArgs false

def bEff (E : Eff) (v : Value) (w : World) : Prop := ∃ A1 c1 A2 c2, v = .agg #[.bool E.done, .slice A1 E.reads.length c1, .slice A2 E.writes.length c2] ∧ effR (fun _ => True) E w (effV E A1 c1 A2 c2)
theorem sb_Eff (E : Eff) : StB (bEff E) := fun _ _ _ hb ⟨A1, c1, A2, c2, h1, h2⟩ => ⟨A1, c1, A2, c2, h1, eff_good.keep h2 (Kp.below hb)⟩
def bBox (base : Nat) (v : Value) (w : World) : Prop := ∃ q, v = .pointer (some ⟨q, 0, none⟩) ∧ base ≤ q ∧ Blk w q 71 #[.bool false, .slice none 0 0, .slice none 0 0]
theorem sb_Box (base : Nat) : StB (bBox base) := fun _ _ _ hb ⟨q, h1, h2, h3⟩ => ⟨q, h1, h2, h3.new_ hb⟩
set_option maxRecDepth 100000 in
set_option maxHeartbeats 8000000 in
theorem law_FnRightReads (A : Option Addr) (c : Nat) (bs : List Int) (w : World) (h : Rd w A (bs.map (.int .u8))) (hw : ∀ b ∈ bs, 0 ≤ b ∧ b ≤ 255) (hc : bs.length ≤ c) (hm : c ≤ maxLen) :
    Calls Try.prog 9 #[.slice A bs.length c] w fun e w' => e = .returned (.bool true) ∧ Below w.heap.size w w' := by
  have hm2 : bs.length ≤ 9223372036854775807 := by simp only [maxLen] at hm; omega
  by_cases hl : (1048576 : Int) < (bs.length : Int)
  · clear hw
    go_enter Try.func9, Try.ntmps9
    go_wp2
    go_ret
    exact ⟨rfl, Below.refl _ _⟩
  have HW := hide hw
  have HC := hide hc
  have HM := hide hm
  clear hw hc hm
  go_enter Try.func9, Try.ntmps9
  go_wp2_with fail
  refine (DrawRightReads_any A c bs w h (unhide HW) (unhide HC) (unhide HM)).mono ?_
  rintro e w1 ⟨A1, c1, s, A2, c2, es0, hl1, hl2, hsm, hcc, rfl, r1, r2, hB⟩
  have HBS := hide (fun x (hx : x ∈ es0) => show x.reads.length ≤ 1048576 ∧ x.writes.length ≤ 1048576 by have := hsm x hx; omega)
  clear hsm hcc
  go_wp2_with fail
  refine (rightReads_impl A1 c1 s A2 c2 es0 _ w1 r1 (by omega) r2 (by omega) (unhide HBS)).mono ?_
  rintro e w2 ⟨rfl, b2⟩
  replace hB := bthen hB b2
  replace r1 := r1.new b2
  replace r2 := r2.new eff_good b2
  go_wp2_with fail
  refine (rightReads_spec A1 c1 s A2 c2 es0 _ w2 r1 (by omega) r2 (by omega) (unhide HBS)).mono ?_
  rintro e w3 ⟨rfl, b3⟩
  replace hB := bthen hB b3
  clear r1 r2 b2 b3 HBS hl1 hl2
  have hrr2 : (rightB s es0 != rightB s es0) = false := by simp
  generalize rightB s es0 = rb at *
  go_wp2_with fail
  refine (DrawFirstWrong_any A c bs w3 (h.new hB) (unhide HW) (unhide HC) (unhide HM)).mono ?_
  rintro e w4 ⟨A3, c3, x, A4, c4, al, A5, c5, es, hl1, hl2, hl3, hsm, hcc, rfl, r1, r2, r3, b4⟩
  have HBS := hide (fun x (hx : x ∈ es) => show x.reads.length ≤ 1048576 ∧ x.writes.length ≤ 1048576 by have := hsm x hx; omega)
  replace hB := bthen hB b4
  clear hsm hcc b4
  go_wp2_with fail
  refine (storeB_store_spec A3 c3 x w4 r1 (by omega)).mono ?_
  rintro e w5 ⟨rfl, m5, rfl⟩
  replace hB := below_drewN hB m5
  replace r1 := r1.drewN m5
  replace r2 := r2.drewN m5
  replace r3 := r3.drewN eff_good m5
  generalize w4.drewN m5 = w5 at *
  cases hsa : storeB x
  · go_wp2_with fail
    refine (alive_any _).mono ?_
    rintro e w8 ⟨rfl, b8⟩
    go_wp2
    go_ret
    exact ⟨rfl, bthen hB b8⟩
  have HSA := hide hsa
  clear hsa
  go_wp2_with fail
  refine (actionsValid_spec A4 c4 al w5 r2 (by omega)).mono ?_
  rintro e w6 ⟨rfl, b6⟩
  replace hB := bthen hB b6
  replace r1 := r1.new b6
  replace r2 := r2.new b6
  replace r3 := r3.new eff_good b6
  clear b6
  cases hab : actsB al
  · go_wp2_with fail
    refine (alive_any _).mono ?_
    rintro e w8 ⟨rfl, b8⟩
    go_wp2
    go_ret
    exact ⟨rfl, bthen hB b8⟩
  have HAB := hide hab
  clear hab
  by_cases hln : es.length = al.length
  rotate_left
  · have hd : ((es.length : Int) != (al.length : Int)) = true := by simp; omega
    clear hln
    go_wp2_with fail
    refine (alive_any _).mono ?_
    rintro e w8 ⟨rfl, b8⟩
    go_wp2
    go_ret
    exact ⟨rfl, bthen hB b8⟩
  have hd : ((es.length : Int) != (al.length : Int)) = false := by simp [hln]
  have HLN := hide hln
  clear hln
  have HR1 := hide (rightB_serial (unhide HSA) (unhide HAB))
  have HFIT := hide (rightB_fit (es := es) (unhide HSA) (unhide HAB) (unhide HLN))
  have HWL := hide (serialE_len x al)
  go_wp2_with fail
  refine (runSerial_impl A3 c3 x A4 c4 al w6 r1 (by omega) r2 (by omega)).mono ?_
  rintro e w7 ⟨A6, c6, A7, c7, rfl, o4, hc5, r5, b4⟩
  clear o4 hc5
  have HWS := hide (fun y (hy : y ∈ serialE x al) => show y.reads.length ≤ 1048576 ∧ y.writes.length ≤ 1048576 by have := serialE_small x al y hy; omega)
  replace hB := bthen hB b4
  replace r1 := r1.new b4
  replace r2 := r2.new b4
  replace r3 := r3.new eff_good b4
  clear b4
  generalize serialE x al = ws at *
  generalize serialS x al = ss at *
  go_wp2
  go_loopw [11, 12] (fun ft i wr => ∃ (j : Nat) (f : Bool), j ≤ al.length ∧ i = .int .i64 j ∧ ft = .bool f ∧ Hid (f = true → ∀ k (h1 : k < es.length) (h2 : k < al.length), k < j → storeB es[k].reads = true ∧ ownE es[k].reads al[k] = es[k]) ∧ Below w7.heap.size w7 wr) (fun _ i _ => al.length - (intOf i).toNat)
  case atStart => exact ⟨0, true, Nat.zero_le _, rfl, rfl, hide fun _ k _ _ hk => absurd hk (by omega), Below.refl _ _⟩
  case round =>
    obtain ⟨j, f, hj, rfl, rfl, HF, hbel⟩ := hrel
    by_cases hlt : j < al.length
    · have h1 : j < es.length := by have := unhide HLN; omega
      have i1 : (j : Int) < (es.length : Int) := by omega
      have i2 : (j : Int) < (al.length : Int) := by omega
      have i3 := hbel.size
      have HNX := hide (fun (g : Bool) (hg : g = true → f = true ∧ storeB es[j].reads = true ∧ ownE es[j].reads al[j] = es[j]) => show g = true → ∀ k (h1 : k < es.length) (h2 : k < al.length), k < j + 1 → storeB es[k].reads = true ∧ ownE es[k].reads al[k] = es[k] from fun hgt k h1 h2 hk => by
        rcases Nat.lt_or_ge k j with h3 | h3
        · exact unhide HF (hg hgt).1 k h1 h2 h3
        · have : k = j := by omega
          subst this
          exact (hg hgt).2)
      obtain ⟨b, off, B1, d1, B2, d2, rfl, hbP, hbb, e0, e1, e2, -, -, q1, q2⟩ := (r3.new eff_good hbel).eff h1
      obtain ⟨b', off', rfl, hbb', g0, g1, g2, g3⟩ := (r2.new hbel).act hlt
      obtain ⟨hx1, hx2⟩ := unhide HBS es[j] (List.getElem_mem h1)
      have HOL := hide (ownE_len es[j].reads al[j])
      generalize hxe : es[j] = m at *
      generalize hye : al[j] = a at *
      replace q1 := q1.rd
      replace q2 := q2.rd
      have ED := hide (fun w' (hb : Below wr.heap.size wr w') => (⟨(hb.cell (p := ⟨b, off + j * 3, none⟩) hbb).trans e0, (hb.cell (p := ⟨b, off + j * 3 + 1, none⟩) hbb).trans e1, (hb.cell (p := ⟨b, off + j * 3 + 2, none⟩) hbb).trans e2⟩ : _ ∧ _ ∧ _))
      have AD := hide (fun w' (hb : Below wr.heap.size wr w') => (⟨(hb.cell (p := ⟨b', off' + j * 4, none⟩) hbb').trans g0, (hb.cell (p := ⟨b', off' + j * 4 + 1, none⟩) hbb').trans g1, (hb.cell (p := ⟨b', off' + j * 4 + 2, none⟩) hbb').trans g2, (hb.cell (p := ⟨b', off' + j * 4 + 3, none⟩) hbb').trans g3⟩ : _ ∧ _ ∧ _ ∧ _))
      clear e0 e1 e2 g0 g1 g2 g3 hxe hye
      generalize hE : ownE m.reads a = E at *
      have HE := hide hE
      clear hE
      go_wp2
      have hF : StBL [bV (.slice (some ⟨b, off, none⟩) es.length c5), bV (.int .i64 (j : Int)), bV (.pointer (some ⟨b, off + j * 3, none⟩)), bV (.pointer (some ⟨b, off + j * 3 + 1, none⟩)), bV (.slice B1 m.reads.length d1), bV (.slice (some ⟨b', off', none⟩) al.length c4), bV (.int .i64 (j : Int)), bV (.pointer (some ⟨b', off' + j * 4, none⟩)), bV (.agg #[.int .i64 a.kind, .int .i64 a.src, .int .i64 a.dst, .int .i64 a.amt]), bEff E, bBox wr.heap.size] :=
        ⟨sb_V _, sb_V _, sb_V _, sb_V _, sb_V _, sb_V _, sb_V _, sb_V _, sb_V _, sb_Eff _, sb_Box _, trivial⟩
      go_upto_region 15 with fail
      refine wp_region_loc (by kernel_rfl) [(0, some 64), (1, some 65), (2, some 66), (3, some 67), (4, some 68), (5, some 69), (6, some 70), (7, some 71), (8, some 72), (9, some 73), (10, some 13)] [[], [], [(0, some 64), (1, some 65)], [(2, some 66)], [(3, some 67)], [], [], [(5, some 69), (6, some 70)], [(7, some 71)], [(4, some 68), (8, some 72)], []] (by kernel_rfl)
        (locB _) (fun a b => Below a.heap.size a b) noR [0, 0, 0, 0, 0, 0, 0, 0, 0, 0, 0] 0 (by kernel_rfl) (fun _ => Below.refl _ _) (fun _ _ _ => bthen) (locB_st hF _) trivial ?_ ?_
      · refine steps_cons ?s0 ( steps_cons ?s1 ( steps_cons ?s2 ( steps_cons ?s3 ( steps_cons ?s4 ( steps_cons ?s5 ( steps_cons ?s6 ( steps_cons ?s7 ( steps_cons ?s8 ( steps_cons ?s9 ( steps_cons ?s10 steps_nil))))))))))
        case s0 =>
          intro w' m' hE hR
          intro Q hQ
          go_wp2
          exact hQ _ _ _ rfl rfl (Below.refl _ _) trivial
        case s1 =>
          intro w' m' hE hR
          intro Q hQ
          go_wp2
          exact hQ _ _ _ rfl rfl (Below.refl _ _) trivial
        case s2 =>
          intro w' m' hE hR
          rintro _ rfl _ rfl Q hQ
          go_wp2
          exact hQ _ _ _ rfl rfl (Below.refl _ _) trivial
        case s3 =>
          intro w' m' hE hR
          rintro _ rfl Q hQ
          go_wp2
          exact hQ _ _ _ rfl rfl (Below.refl _ _) trivial
        case s4 =>
          intro w' m' hE hR
          rintro _ rfl Q hQ
          obtain ⟨x0, x1, x2⟩ := unhide ED w' (below_undrew hE)
          go_wp2
          exact hQ _ _ _ rfl rfl (Below.refl _ _) trivial
        case s5 =>
          intro w' m' hE hR
          intro Q hQ
          go_wp2
          exact hQ _ _ _ rfl rfl (Below.refl _ _) trivial
        case s6 =>
          intro w' m' hE hR
          intro Q hQ
          go_wp2
          exact hQ _ _ _ rfl rfl (Below.refl _ _) trivial
        case s7 =>
          intro w' m' hE hR
          rintro _ rfl _ rfl Q hQ
          go_wp2
          exact hQ _ _ _ rfl rfl (Below.refl _ _) trivial
        case s8 =>
          intro w' m' hE hR
          rintro _ rfl Q hQ
          obtain ⟨x0, x1, x2, x3⟩ := unhide AD w' (below_undrew hE)
          go_wp2
          exact hQ _ _ _ rfl rfl (Below.refl _ _) trivial
        case s9 =>
          intro w' m' hE hR
          rintro _ rfl _ rfl Q hQ
          have K := runAction_impl B1 d1 m.reads a w' (q1.new (below_undrew hE)) (by omega)
          rw [unhide HE] at K
          go_wp2_with fail
          refine K.mono ?_
          rintro e w1 ⟨D1, f1, D2, f2, rfl, rE, b1⟩
          go_wp2
          exact hQ _ _ _ rfl ⟨D1, f1, D2, f2, rfl, eff_good.mono rE (fun _ _ _ => trivial)⟩ b1 trivial
        case s10 =>
          intro w' m' hE hR
          intro Q hQ
          have hs := (below_undrew hE).size
          go_wp2
          exact hQ _ _ _ rfl ⟨_, rfl, hs, Blk.new _ _ _⟩ ((Below.refl _ _).alloc (Nat.le_refl _) _) trivial
      intro w9 hE _
      rintro v0 - v1 - v2 - v3 - v4 - v5 - v6 - v7 - v8 - v9 ⟨D1, g1, D2, g2, rfl, rE⟩ v10 ⟨q, rfl, hq, kq⟩
      have b9 := below_undrew hE
      have hbel2 := bthen hbel b9
      clear AD hE hF
      obtain ⟨D1', g1', D2', g2', hcs, -, -, p1, p2⟩ := rE
      simp only [effV, List.cons.injEq, and_true, true_and, Value.slice.injEq] at hcs
      obtain ⟨⟨rfl, rfl⟩, rfl, rfl⟩ := hcs
      replace p1 := ents_not_box kq p1
      replace p2 := ents_not_box kq p2
      change wpList _ _ _ [_] _ _
      simp only [Act.put, List.setIfInBounds_toArray, List.set_cons_succ, List.set_cons_zero]
      have hql := kq.lt
      have f0 : w9.frozen? ⟨q, 0, none⟩ = false := kq.frozen 0
      have f1 : w9.frozen? ⟨q, 1, none⟩ = false := kq.frozen 1
      have f2 : w9.frozen? ⟨q, 2, none⟩ = false := kq.frozen 2
      have e0 : w9.cell? ⟨q, 0, none⟩ = some (.bool false) := kq.cell 0
      have e1 : w9.cell? ⟨q, 1, none⟩ = some (.slice none 0 0) := kq.cell 1
      have e2 : w9.cell? ⟨q, 2, none⟩ = some (.slice none 0 0) := kq.cell 2
      go_wp2
      refine at_world (C := fun w => Code.wp _ _ _ _ w) (F := fun W => Blk W q 71 #[.bool E.done, .slice D1 E.reads.length g1, .slice D2 E.writes.length g2] ∧ Below wr.heap.size wr W ∧ Rd W D1 (E.reads.flatMap encE) ∧ Rd W D2 (E.writes.flatMap encE)) ?_ ?_
      · have hc := (((Chg.refl (fun k => k = q) w9).setCell (p := ⟨q, 0, none⟩) (.inl rfl) (.bool E.done)).setCell (p := ⟨q, 1, none⟩) (.inl rfl) (.slice D1 E.reads.length g1)).setCell (p := ⟨q, 2, none⟩) (.inl rfl) (.slice D2 E.writes.length g2)
        exact ⟨((kq.set_ 0 (.bool E.done)).set_ 1 (.slice D1 E.reads.length g1)).set_ 2 (.slice D2 E.writes.length g2), b9.trans (hc.below (fun k hk e => by omega) b9.size), (p1.keep (Kp.chg hc fun k hk e => hk e)).rd, (p2.keep (Kp.chg hc fun k hk e => hk e)).rd⟩
      clear e0 e1 e2 f0 f1 f2 p1 p2 hql kq b9 hq
      rintro wa ⟨kq, ba, p1, p2⟩
      have hbel2 := bthen hbel ba
      replace q1 := q1.new ba
      replace q2 := q2.new ba
      have ED3 := hide (fun w' (hb : Below wa.heap.size wa w') => unhide ED w' (bthen ba hb))
      have BX := hide (fun w' (hb : Below wa.heap.size wa w') => (⟨(kq.new_ hb).cell 0, (kq.new_ hb).cell 1, (kq.new_ hb).cell 2⟩ : w'.cell? ⟨q, 0, none⟩ = some (.bool E.done) ∧ w'.cell? ⟨q, 1, none⟩ = some (.slice D1 E.reads.length g1) ∧ w'.cell? ⟨q, 2, none⟩ = some (.slice D2 E.writes.length g2)))
      clear ED kq ba
      cases f
      · have HN := hide (unhide HNX false (fun e => by cases e))
        have hF : StBL [bV (.bool false), bV (.bool false), bV (undef), bV (undef), bV (undef), bV (undef), bV (undef), bV (undef), bV (.bool false), bV (.bool false), bV (undef), bV (undef), bV (undef), bV (undef), bV (undef)] :=
          ⟨sb_V _, sb_V _, sb_V _, sb_V _, sb_V _, sb_V _, sb_V _, sb_V _, sb_V _, sb_V _, sb_V _, sb_V _, sb_V _, sb_V _, sb_V _, trivial⟩
        go_upto_region 16 with fail
        refine wp_region_loc (by kernel_rfl) [(0, some 74), (1, some 75), (2, some 76), (3, some 77), (4, some 78), (5, some 79), (6, some 80), (7, some 81), (8, some 82), (9, some 83), (10, some 84), (11, some 85), (12, some 86), (13, some 87), (14, some 88)] [[], [(0, some 74)], [(1, some 75)], [(1, some 75)], [(1, some 75), (2, some 76), (3, some 77)], [(1, some 75), (4, some 78)], [(1, some 75), (5, some 79)], [(1, some 75), (6, some 80)], [(1, some 75), (7, some 81)], [(8, some 82)], [(9, some 83)], [(9, some 83)], [(9, some 83)], [(9, some 83), (11, some 85), (12, some 86)], [(9, some 83), (13, some 87)]] (by kernel_rfl)
          (locB _) (fun a b => Below a.heap.size a b) noR [0, 0, 0, 0, 0, 0, 0, 0, 0, 0, 0, 0, 0, 0, 0] 0 (by kernel_rfl) (fun _ => Below.refl _ _) (fun _ _ _ => bthen) (locB_st hF _) trivial ?_ ?_
        · refine steps_cons ?s0 ( steps_cons ?s1 ( steps_cons ?s2 ( steps_cons ?s3 ( steps_cons ?s4 ( steps_cons ?s5 ( steps_cons ?s6 ( steps_cons ?s7 ( steps_cons ?s8 ( steps_cons ?s9 ( steps_cons ?s10 ( steps_cons ?s11 ( steps_cons ?s12 ( steps_cons ?s13 ( steps_cons ?s14 steps_nil))))))))))))))
          case s0 =>
            intro w' m' hE hR
            intro Q hQ
            go_wp2
            exact hQ _ _ _ rfl rfl (Below.refl _ _) trivial
          case s1 =>
            intro w' m' hE hR
            rintro _ rfl Q hQ
            go_wp2
            exact hQ _ _ _ rfl rfl (Below.refl _ _) trivial
          case s2 =>
            intro w' m' hE hR
            rintro _ rfl Q hQ
            go_wp2
            exact hQ _ _ _ rfl rfl (Below.refl _ _) trivial
          case s3 =>
            intro w' m' hE hR
            rintro _ rfl Q hQ
            go_wp2
            exact hQ _ _ _ rfl rfl (Below.refl _ _) trivial
          case s4 =>
            intro w' m' hE hR
            rintro _ rfl _ rfl _ rfl Q hQ
            go_wp2
            exact hQ _ _ _ rfl rfl (Below.refl _ _) trivial
          case s5 =>
            intro w' m' hE hR
            rintro _ rfl _ rfl Q hQ
            go_wp2
            exact hQ _ _ _ rfl rfl (Below.refl _ _) trivial
          case s6 =>
            intro w' m' hE hR
            rintro _ rfl _ rfl Q hQ
            go_wp2
            exact hQ _ _ _ rfl rfl (Below.refl _ _) trivial
          case s7 =>
            intro w' m' hE hR
            rintro _ rfl _ rfl Q hQ
            go_wp2
            exact hQ _ _ _ rfl rfl (Below.refl _ _) trivial
          case s8 =>
            intro w' m' hE hR
            rintro _ rfl _ rfl Q hQ
            go_wp2
            exact hQ _ _ _ rfl rfl (Below.refl _ _) trivial
          case s9 =>
            intro w' m' hE hR
            rintro _ rfl Q hQ
            go_wp2
            exact hQ _ _ _ rfl rfl (Below.refl _ _) trivial
          case s10 =>
            intro w' m' hE hR
            rintro _ rfl Q hQ
            go_wp2
            exact hQ _ _ _ rfl rfl (Below.refl _ _) trivial
          case s11 =>
            intro w' m' hE hR
            rintro _ rfl Q hQ
            go_wp2
            exact hQ _ _ _ rfl rfl (Below.refl _ _) trivial
          case s12 =>
            intro w' m' hE hR
            rintro _ rfl Q hQ
            go_wp2
            exact hQ _ _ _ rfl rfl (Below.refl _ _) trivial
          case s13 =>
            intro w' m' hE hR
            rintro _ rfl _ rfl _ rfl Q hQ
            go_wp2
            exact hQ _ _ _ rfl rfl (Below.refl _ _) trivial
          case s14 =>
            intro w' m' hE hR
            rintro _ rfl _ rfl Q hQ
            go_wp2
            exact hQ _ _ _ rfl rfl (Below.refl _ _) trivial
        intro w10 hE _
        rintro v0 - v1 - v2 - v3 - v4 - v5 - v6 - v7 - v8 - v9 hv9 v10 - v11 - v12 - v13 - v14 -
        obtain rfl : v9 = _ := hv9
        have b10 := below_undrew hE
        change wpList _ _ _ [_, _, _] _ _
        simp only [Act.put, List.setIfInBounds_toArray, List.set_cons_succ, List.set_cons_zero]
        go_wp2
        go_roundw
        case rel => exact ⟨j + 1, false, by omega, by go_num, rfl, HN, bthen hbel2 b10⟩
        case measure => simp [intOf]; omega
      cases hsb : storeB m.reads
      · have HN := hide (unhide HNX false (fun e => by cases e))
        have hF : StBL [bV (.bool true), bV (.bool true), bV (.slice (some ⟨b, off, none⟩) es.length c5), bV (.int .i64 (j : Int)), bV (.pointer (some ⟨b, off + j * 3, none⟩)), bV (.pointer (some ⟨b, off + j * 3 + 1, none⟩)), bV (.slice B1 m.reads.length d1), bV (.bool false), bV (.bool false), bV (.bool false), bV (undef), bV (undef), bV (undef), bV (undef), bV (undef)] :=
          ⟨sb_V _, sb_V _, sb_V _, sb_V _, sb_V _, sb_V _, sb_V _, sb_V _, sb_V _, sb_V _, sb_V _, sb_V _, sb_V _, sb_V _, sb_V _, trivial⟩
        go_upto_region 16 with fail
        refine wp_region_loc (by kernel_rfl) [(0, some 74), (1, some 75), (2, some 76), (3, some 77), (4, some 78), (5, some 79), (6, some 80), (7, some 81), (8, some 82), (9, some 83), (10, some 84), (11, some 85), (12, some 86), (13, some 87), (14, some 88)] [[], [(0, some 74)], [(1, some 75)], [(1, some 75)], [(1, some 75), (2, some 76), (3, some 77)], [(1, some 75), (4, some 78)], [(1, some 75), (5, some 79)], [(1, some 75), (6, some 80)], [(1, some 75), (7, some 81)], [(8, some 82)], [(9, some 83)], [(9, some 83)], [(9, some 83)], [(9, some 83), (11, some 85), (12, some 86)], [(9, some 83), (13, some 87)]] (by kernel_rfl)
          (locB _) (fun a b => Below a.heap.size a b) noR [0, 0, 0, 0, 0, 0, 0, 0, 0, 0, 0, 0, 0, 0, 0] 0 (by kernel_rfl) (fun _ => Below.refl _ _) (fun _ _ _ => bthen) (locB_st hF _) trivial ?_ ?_
        · refine steps_cons ?s0 ( steps_cons ?s1 ( steps_cons ?s2 ( steps_cons ?s3 ( steps_cons ?s4 ( steps_cons ?s5 ( steps_cons ?s6 ( steps_cons ?s7 ( steps_cons ?s8 ( steps_cons ?s9 ( steps_cons ?s10 ( steps_cons ?s11 ( steps_cons ?s12 ( steps_cons ?s13 ( steps_cons ?s14 steps_nil))))))))))))))
          case s0 =>
            intro w' m' hE hR
            intro Q hQ
            go_wp2
            exact hQ _ _ _ rfl rfl (Below.refl _ _) trivial
          case s1 =>
            intro w' m' hE hR
            rintro _ rfl Q hQ
            go_wp2
            exact hQ _ _ _ rfl rfl (Below.refl _ _) trivial
          case s2 =>
            intro w' m' hE hR
            rintro _ rfl Q hQ
            go_wp2
            exact hQ _ _ _ rfl rfl (Below.refl _ _) trivial
          case s3 =>
            intro w' m' hE hR
            rintro _ rfl Q hQ
            go_wp2
            exact hQ _ _ _ rfl rfl (Below.refl _ _) trivial
          case s4 =>
            intro w' m' hE hR
            rintro _ rfl _ rfl _ rfl Q hQ
            go_wp2
            exact hQ _ _ _ rfl rfl (Below.refl _ _) trivial
          case s5 =>
            intro w' m' hE hR
            rintro _ rfl _ rfl Q hQ
            go_wp2
            exact hQ _ _ _ rfl rfl (Below.refl _ _) trivial
          case s6 =>
            intro w' m' hE hR
            rintro _ rfl _ rfl Q hQ
            obtain ⟨x0, x1, x2⟩ := unhide ED3 w' (below_undrew hE)
            go_wp2
            exact hQ _ _ _ rfl rfl (Below.refl _ _) trivial
          case s7 =>
            intro w' m' hE hR
            rintro _ rfl _ rfl Q hQ
            have K := storeB_impl B1 d1 m.reads w' (q1.new (below_undrew hE)) (by omega)
            rw [hsb] at K
            go_wp2_with fail
            refine K.mono ?_
            rintro e w1 ⟨rfl, b1⟩
            go_wp2
            exact hQ _ _ _ rfl rfl b1 trivial
          case s8 =>
            intro w' m' hE hR
            rintro _ rfl _ rfl Q hQ
            go_wp2
            exact hQ _ _ _ rfl rfl (Below.refl _ _) trivial
          case s9 =>
            intro w' m' hE hR
            rintro _ rfl Q hQ
            go_wp2
            exact hQ _ _ _ rfl rfl (Below.refl _ _) trivial
          case s10 =>
            intro w' m' hE hR
            rintro _ rfl Q hQ
            go_wp2
            exact hQ _ _ _ rfl rfl (Below.refl _ _) trivial
          case s11 =>
            intro w' m' hE hR
            rintro _ rfl Q hQ
            go_wp2
            exact hQ _ _ _ rfl rfl (Below.refl _ _) trivial
          case s12 =>
            intro w' m' hE hR
            rintro _ rfl Q hQ
            go_wp2
            exact hQ _ _ _ rfl rfl (Below.refl _ _) trivial
          case s13 =>
            intro w' m' hE hR
            rintro _ rfl _ rfl _ rfl Q hQ
            go_wp2
            exact hQ _ _ _ rfl rfl (Below.refl _ _) trivial
          case s14 =>
            intro w' m' hE hR
            rintro _ rfl _ rfl Q hQ
            go_wp2
            exact hQ _ _ _ rfl rfl (Below.refl _ _) trivial
        intro w10 hE _
        rintro v0 - v1 - v2 - v3 - v4 - v5 - v6 - v7 - v8 - v9 hv9 v10 - v11 - v12 - v13 - v14 -
        obtain rfl : v9 = _ := hv9
        have b10 := below_undrew hE
        change wpList _ _ _ [_, _, _] _ _
        simp only [Act.put, List.setIfInBounds_toArray, List.set_cons_succ, List.set_cons_zero]
        go_wp2
        go_roundw
        case rel => exact ⟨j + 1, false, by omega, by go_num, rfl, HN, bthen hbel2 b10⟩
        case measure => simp [intOf]; omega
      · have HN := hide (fun (hem : E = m) => unhide HNX true (fun _ => ⟨rfl, hsb, hem⟩))
        have HN0 := hide (unhide HNX false (fun e => by cases e))
        obtain ⟨ho1, ho2⟩ := unhide HOL
        have hF : StBL [bV (.bool true), bV (.bool true), bV (.slice (some ⟨b, off, none⟩) es.length c5), bV (.int .i64 (j : Int)), bV (.pointer (some ⟨b, off + j * 3, none⟩)), bV (.pointer (some ⟨b, off + j * 3 + 1, none⟩)), bV (.slice B1 m.reads.length d1), bV (.bool true), bV (.bool true), bV (.bool true), bV (.agg #[.bool E.done, .slice D1 E.reads.length g1, .slice D2 E.writes.length g2]), bV (.slice (some ⟨b, off, none⟩) es.length c5), bV (.int .i64 (j : Int)), bV (.pointer (some ⟨b, off + j * 3, none⟩)), bV (.agg #[.bool m.done, .slice B1 m.reads.length d1, .slice B2 m.writes.length d2])] :=
          ⟨sb_V _, sb_V _, sb_V _, sb_V _, sb_V _, sb_V _, sb_V _, sb_V _, sb_V _, sb_V _, sb_V _, sb_V _, sb_V _, sb_V _, sb_V _, trivial⟩
        go_upto_region 16 with fail
        refine wp_region_loc (by kernel_rfl) [(0, some 74), (1, some 75), (2, some 76), (3, some 77), (4, some 78), (5, some 79), (6, some 80), (7, some 81), (8, some 82), (9, some 83), (10, some 84), (11, some 85), (12, some 86), (13, some 87), (14, some 88)] [[], [(0, some 74)], [(1, some 75)], [(1, some 75)], [(1, some 75), (2, some 76), (3, some 77)], [(1, some 75), (4, some 78)], [(1, some 75), (5, some 79)], [(1, some 75), (6, some 80)], [(1, some 75), (7, some 81)], [(8, some 82)], [(9, some 83)], [(9, some 83)], [(9, some 83)], [(9, some 83), (11, some 85), (12, some 86)], [(9, some 83), (13, some 87)]] (by kernel_rfl)
          (locB _) (fun a b => Below a.heap.size a b) noR [0, 0, 0, 0, 0, 0, 0, 0, 0, 0, 0, 0, 0, 0, 0] 0 (by kernel_rfl) (fun _ => Below.refl _ _) (fun _ _ _ => bthen) (locB_st hF _) trivial ?_ ?_
        · refine steps_cons ?s0 ( steps_cons ?s1 ( steps_cons ?s2 ( steps_cons ?s3 ( steps_cons ?s4 ( steps_cons ?s5 ( steps_cons ?s6 ( steps_cons ?s7 ( steps_cons ?s8 ( steps_cons ?s9 ( steps_cons ?s10 ( steps_cons ?s11 ( steps_cons ?s12 ( steps_cons ?s13 ( steps_cons ?s14 steps_nil))))))))))))))
          case s0 =>
            intro w' m' hE hR
            intro Q hQ
            go_wp2
            exact hQ _ _ _ rfl rfl (Below.refl _ _) trivial
          case s1 =>
            intro w' m' hE hR
            rintro _ rfl Q hQ
            go_wp2
            exact hQ _ _ _ rfl rfl (Below.refl _ _) trivial
          case s2 =>
            intro w' m' hE hR
            rintro _ rfl Q hQ
            go_wp2
            exact hQ _ _ _ rfl rfl (Below.refl _ _) trivial
          case s3 =>
            intro w' m' hE hR
            rintro _ rfl Q hQ
            go_wp2
            exact hQ _ _ _ rfl rfl (Below.refl _ _) trivial
          case s4 =>
            intro w' m' hE hR
            rintro _ rfl _ rfl _ rfl Q hQ
            go_wp2
            exact hQ _ _ _ rfl rfl (Below.refl _ _) trivial
          case s5 =>
            intro w' m' hE hR
            rintro _ rfl _ rfl Q hQ
            go_wp2
            exact hQ _ _ _ rfl rfl (Below.refl _ _) trivial
          case s6 =>
            intro w' m' hE hR
            rintro _ rfl _ rfl Q hQ
            obtain ⟨x0, x1, x2⟩ := unhide ED3 w' (below_undrew hE)
            go_wp2
            exact hQ _ _ _ rfl rfl (Below.refl _ _) trivial
          case s7 =>
            intro w' m' hE hR
            rintro _ rfl _ rfl Q hQ
            have K := storeB_impl B1 d1 m.reads w' (q1.new (below_undrew hE)) (by omega)
            rw [hsb] at K
            go_wp2_with fail
            refine K.mono ?_
            rintro e w1 ⟨rfl, b1⟩
            go_wp2
            exact hQ _ _ _ rfl rfl b1 trivial
          case s8 =>
            intro w' m' hE hR
            rintro _ rfl _ rfl Q hQ
            go_wp2
            exact hQ _ _ _ rfl rfl (Below.refl _ _) trivial
          case s9 =>
            intro w' m' hE hR
            rintro _ rfl Q hQ
            go_wp2
            exact hQ _ _ _ rfl rfl (Below.refl _ _) trivial
          case s10 =>
            intro w' m' hE hR
            rintro _ rfl Q hQ
            obtain ⟨x0, x1, x2⟩ := unhide BX w' (below_undrew hE)
            go_wp2
            exact hQ _ _ _ rfl rfl (Below.refl _ _) trivial
          case s11 =>
            intro w' m' hE hR
            rintro _ rfl Q hQ
            go_wp2
            exact hQ _ _ _ rfl rfl (Below.refl _ _) trivial
          case s12 =>
            intro w' m' hE hR
            rintro _ rfl Q hQ
            go_wp2
            exact hQ _ _ _ rfl rfl (Below.refl _ _) trivial
          case s13 =>
            intro w' m' hE hR
            rintro _ rfl _ rfl _ rfl Q hQ
            go_wp2
            exact hQ _ _ _ rfl rfl (Below.refl _ _) trivial
          case s14 =>
            intro w' m' hE hR
            rintro _ rfl _ rfl Q hQ
            obtain ⟨x0, x1, x2⟩ := unhide ED3 w' (below_undrew hE)
            go_wp2
            exact hQ _ _ _ rfl rfl (Below.refl _ _) trivial
        intro w10 hE _
        rintro v0 - v1 - v2 - v3 - v4 - v5 - v6 - v7 - v8 - v9 hv9 v10 hv10 v11 - v12 - v13 - v14 hv14
        obtain rfl : v9 = _ := hv9
        obtain rfl : v10 = _ := hv10
        obtain rfl : v14 = _ := hv14
        have b10 := below_undrew hE
        have K := hide (sameEffect_any E m D1 g1 D2 g2 B1 d1 B2 d2 w10 (p1.new b10) (p2.new b10) (q1.new b10) (q2.new b10) (by omega) (by omega))
        clear hE hF
        change wpList _ _ _ [_, _, _] _ _
        simp only [Act.put, List.setIfInBounds_toArray, List.set_cons_succ, List.set_cons_zero]
        by_cases hem : E = m
        · rw [decide_eq_true hem] at K
          have HN2 := hide (unhide HN hem)
          clear hem HN HNX HN0
          go_wp2_with fail
          refine (unhide K).mono ?_
          rintro e w6 ⟨rfl, b6⟩
          go_wp2
          go_roundw
          case rel => exact ⟨j + 1, true, by omega, by go_num, rfl, hide (fun _ => unhide HN2 trivial), bthen hbel2 (bthen b10 b6)⟩
          case measure => simp [intOf]; omega
        · rw [decide_eq_false hem] at K
          clear hem HN HNX
          go_wp2_with fail
          refine (unhide K).mono ?_
          rintro e w6 ⟨rfl, b6⟩
          go_wp2
          go_roundw
          case rel => exact ⟨j + 1, false, by omega, by go_num, rfl, HN0, bthen hbel2 (bthen b10 b6)⟩
          case measure => simp [intOf]; omega
    · obtain rfl : j = al.length := by omega
      have HFT := hide (fun (hf : f = true) (hr : rightB x es = true) => unhide HFIT (fun k h1 h2 => unhide HF hf k h1 h2 h2) hr)
      replace hB := bthen hB hbel
      replace r1 := r1.new hbel
      replace r2 := r2.new hbel
      replace r3 := r3.new eff_good hbel
      replace r5 := r5.new eff_good hbel
      have hwl := unhide HWL
      go_wp2_with fail
      refine (rightReads_impl A3 c3 x A7 c7 ws _ wr r1 (by omega) r5 (by omega) (unhide HWS)).mono ?_
      rintro e w8 ⟨rfl, b8⟩
      rw [unhide HR1]
      cases f
      · go_wp2
        go_ret
        exact ⟨rfl, bthen hB b8⟩
      go_wp2_with fail
      refine (rightReads_impl A3 c3 x A5 c5 es _ w8 (r1.new b8) (by omega) (r3.new eff_good b8) (by omega) (unhide HBS)).mono ?_
      rintro e w9 ⟨rfl, b9⟩
      replace b9 := bthen b8 b9
      cases hrx : rightB x es
      · go_wp2
        go_ret
        exact ⟨rfl, bthen hB b9⟩
      have HEQ := hide (unhide HFT (by trivial) hrx)
      go_wp2_with fail
      refine (sameEffects_any A5 A7 c5 c7 es ws w9 _ _ (r3.new eff_good b9) (r5.new eff_good b9) (by omega) (fun y hy => by have := unhide HBS y hy; omega)).mono ?_
      rintro e w10 ⟨rfl, b10⟩
      rw [show decide (es = ws) = true by simp [unhide HEQ]]
      go_wp2
      go_ret
      exact ⟨rfl, bthen hB (bthen b9 b10)⟩
end Go.Proofs.Ytiaodcjocogkkaa
