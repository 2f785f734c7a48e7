/- The law FnWastedTries (printed by gen_in.py from xlawfwaste.in). -/
import Derived.Test.YtihlhejencninaaGreatDrawSc
import Derived.Test.YtihlhejencninaaGreatGact
import Derived.Test.YtihlhejencninaaGreatConf
import Derived.Test.YtihlhejencninaaGreatWasteS
namespace Go.Proofs.YtihlhejencninaaGreat
open Go.RowKit
set_option linter.unusedVariables false
set_option linter.unusedSimpArgs false

theorem wasteOk_yes {s : List Ent} {al : List Act} {ms : List Int} (h : aheadOk s al ms = true) : storeB s = true ∧ actsB al = true ∧ ms.length ≤ 200 := by
  unfold aheadOk at h
  simp only [Bool.and_eq_true, decide_eq_true_eq] at h
  exact h
/-- without conflicts no try is wasted -/
theorem waste_none {s : List Ent} {al : List Act} {ms : List Int} (h : aheadOk s al ms = true) (hc : ∀ j k (hj : j < al.length) (hk : k < al.length), j < k → confN al[j] al[k] = 0) : wasteN s al ms = 0 := by
  obtain ⟨hs, ha, hm⟩ := wasteOk_yes h
  unfold wasteN
  rw [if_pos h, trs_apart hs ha hm fun j k hj hk hjk x hx => confN_no (hc j k hj hk hjk) x hx]
  omega
theorem waste_order {s : List Ent} {al : List Act} {ms : List Int} (h : aheadOk s al ms = true) : wasteN s al [] = 0 := by
  obtain ⟨hs, ha, hm⟩ := wasteOk_yes h
  unfold wasteN
  rw [if_pos (by unfold aheadOk; rw [hs, ha]; rfl), trs_order hs ha]
  omega
theorem acts_each {al : List Act} (h : actsB al = true) (k : Nat) (hk : k < al.length) : actB al[k] = true := acts_all h al[k] (List.getElem_mem hk)
set_option maxRecDepth 100000 in
set_option maxHeartbeats 8000000 in
theorem law_FnWastedTries (A : Option Addr) (c : Nat) (bs : List Int) (w : World) (h : Rd w A (bs.map (.int .u8))) (hw : ∀ b ∈ bs, 0 ≤ b ∧ b ≤ 255) (hc : bs.length ≤ c) (hm : c ≤ maxLen) :
    Calls Tryz.prog 6 #[.slice A bs.length c] w fun e w' => e = .returned (.bool true) ∧ Below w.heap.size w w' := by
  have hm2 : bs.length ≤ 9223372036854775807 := by simp only [maxLen] at hm; omega
  by_cases hl : (1048576 : Int) < (bs.length : Int)
  · clear hw
    go_enter Tryz.func6, Tryz.ntmps6
    go_wp2
    go_ret
    exact ⟨rfl, Below.refl _ _⟩
  have HW := hide hw
  have HC := hide hc
  have HM := hide hm
  clear hw hc hm
  go_enter Tryz.func6, Tryz.ntmps6
  go_wp2_with fail
  refine (DrawWastedTries_any A c bs w h (unhide HW) (unhide HC) (unhide HM)).mono ?_
  rintro e w1 ⟨A1, c1, s, B, cb, al, M, cm, ms, hl1, hl2, hl3, rfl, r1, r2, r3, hB⟩
  go_wp2_with fail
  refine (wastedTries_impl A1 c1 s B cb al M cm ms w1 r1 (by omega) r2 (by omega) r3 (by omega)).mono ?_
  rintro e w2 ⟨rfl, b2⟩
  replace hB := bthen hB b2
  replace r1 := r1.new b2
  replace r2 := r2.new b2
  replace r3 := r3.new b2
  clear b2
  go_wp2_with fail
  refine (wastedTries_spec A1 c1 s B cb al M cm ms w2 r1 (by omega) r2 (by omega) r3 (by omega)).mono ?_
  rintro e w3 ⟨rfl, b3⟩
  replace hB := bthen hB b3
  replace r1 := r1.new b3
  replace r2 := r2.new b3
  clear b3 r3
  have hne : (wasteN s al ms != wasteN s al ms) = false := by simp
  cases hok : aheadOk s al ms
  · have hn : wasteN s al ms = -1 := by unfold wasteN; rw [hok]; simp
    clear hok
    rw [hn] at hne ⊢
    clear hn
    go_wp2_with fail
    refine (alive_any _).mono ?_
    rintro e w8 ⟨rfl, b8⟩
    go_wp2
    go_ret
    exact ⟨rfl, bthen hB b8⟩
  obtain ⟨hs, ha, h200⟩ := wasteOk_yes hok
  have HN := hide (waste_none hok)
  have HO := hide (waste_order hok)
  have HAC := hide (fun k hk => acts_each ha k hk)
  have i1 : ¬ wasteN s al ms < 0 := by
    have := trs_ge hs ha h200
    unfold wasteN
    rw [if_pos hok]
    omega
  clear hok hs ha h200
  generalize wasteN s al ms = n at *
  have HR1 := hide (fun (w' : World) (hb : Below w3.heap.size w3 w') => (Rd.new r1 hb : Rd w' A1 (s.flatMap encE)))
  have HR2 := hide (fun (w' : World) (hb : Below w3.heap.size w3 w') => (Rd.new r2 hb : Rd w' B (al.flatMap encA)))
  clear r1 r2
  go_wp2
  go_loopw [7, 8, 9] (fun cf i _ wr => ∃ (k : Nat) (f : Bool), k ≤ al.length ∧ i = .int .i64 k ∧ cf = .bool f ∧ Hid (f = false → ∀ j k' (hj : j < al.length) (hk : k' < al.length), j < k' → k' < k → confN al[j] al[k'] = 0) ∧ Below w3.heap.size w3 wr) (fun _ i _ _ => al.length - (intOf i).toNat)
  case atStart => exact ⟨0, false, Nat.zero_le _, rfl, rfl, hide fun _ j k' _ _ _ hk => absurd hk (by omega), Below.refl _ _⟩
  case round =>
    obtain ⟨k, f, hk, rfl, rfl, HF, hbel⟩ := hrel
    by_cases hlt : k < al.length
    · have i2 : (k : Int) < (al.length : Int) := by omega
      go_wp2
      go_loopw [7, 9] (fun cf i wr => ∃ (j : Nat) (f2 : Bool), j ≤ k ∧ i = .int .i64 j ∧ cf = .bool f2 ∧ Hid (f2 = false → (∀ j k' (hj : j < al.length) (hk : k' < al.length), j < k' → k' < k → confN al[j] al[k'] = 0) ∧ ∀ j' (hj : j' < al.length), j' < j → confN al[j'] al[k] = 0) ∧ Below w3.heap.size w3 wr) (fun _ i _ => k - (intOf i).toNat)
      case atStart => exact ⟨0, f, Nat.zero_le _, rfl, rfl, hide fun hf => ⟨unhide HF hf, fun j' _ hj => absurd hj (by omega)⟩, hbel⟩
      case round =>
        clear hbel
        obtain ⟨j, f2, hj, rfl, rfl, HF2, hbel⟩ := hrel
        by_cases hlt2 : j < k
        · have i3 : (j : Int) < (k : Int) := by omega
          have hjl : j < al.length := by omega
          have i4 : (j : Int) < (al.length : Int) := by omega
          have hsz := hbel.size
          obtain ⟨ba, oa, hBA, hba, -, -, -, -⟩ := (unhide HR2 wr hbel).act hjl
          have HXJ := hide (fun (w' : World) (hb : Below wr.heap.size wr w') => show w'.cell? ⟨ba, oa + j * 4, none⟩ = some (.int .i64 al[j].kind) ∧ w'.cell? ⟨ba, oa + j * 4 + 1, none⟩ = some (.int .i64 al[j].src) ∧ w'.cell? ⟨ba, oa + j * 4 + 2, none⟩ = some (.int .i64 al[j].dst) ∧ w'.cell? ⟨ba, oa + j * 4 + 3, none⟩ = some (.int .i64 al[j].amt) from by
            obtain ⟨b', o', hB', -, x0, x1, x2, x3⟩ := (Rd.new (unhide HR2 wr hbel) hb).act hjl
            rw [hBA] at hB'
            injection hB' with hB'
            injection hB' with h1 h2
            subst h1
            subst h2
            exact ⟨x0, x1, x2, x3⟩)
          have HXK := hide (fun (w' : World) (hb : Below wr.heap.size wr w') => show w'.cell? ⟨ba, oa + k * 4, none⟩ = some (.int .i64 al[k].kind) ∧ w'.cell? ⟨ba, oa + k * 4 + 1, none⟩ = some (.int .i64 al[k].src) ∧ w'.cell? ⟨ba, oa + k * 4 + 2, none⟩ = some (.int .i64 al[k].dst) ∧ w'.cell? ⟨ba, oa + k * 4 + 3, none⟩ = some (.int .i64 al[k].amt) from by
            obtain ⟨b', o', hB', -, x0, x1, x2, x3⟩ := (Rd.new (unhide HR2 wr hbel) hb).act hlt
            rw [hBA] at hB'
            injection hB' with hB'
            injection hB' with h1 h2
            subst h1
            subst h2
            exact ⟨x0, x1, x2, x3⟩)
          have HNX := hide (fun (f3 : Bool) (h3 : f3 = false → f2 = false ∧ confN al[j] al[k] = 0) => show f3 = false → (∀ j k' (hj : j < al.length) (hk : k' < al.length), j < k' → k' < k → confN al[j] al[k'] = 0) ∧ ∀ j' (hj : j' < al.length), j' < j + 1 → confN al[j'] al[k] = 0 from fun hf => by
            obtain ⟨g1, g2⟩ := h3 hf
            refine ⟨(unhide HF2 g1).1, fun j' hj' hjj => ?_⟩
            by_cases he : j' = j
            · subst he; exact g2
            · exact (unhide HF2 g1).2 j' hj' (by omega))
          have HCF := hide (fun w' => conflict_any al[j] al[k] w' (unhide HAC j hjl) (unhide HAC k hlt))
          generalize al[j] = xa at *
          generalize al[k] = xb at *
          have HBA := hide hBA
          clear hBA
          rw [unhide HBA]
          cases f2
          rotate_left
          · have hF : StBL [bV (.bool true), bV (.bool true), fun _ _ => True, fun _ _ => True, fun _ _ => True, fun _ _ => True, fun _ _ => True, fun _ _ => True, fun _ _ => True, fun _ _ => True, fun _ _ => True, bV (.bool true)] :=
              ⟨sb_V _, sb_V _, fun _ _ _ _ h => h, fun _ _ _ _ h => h, fun _ _ _ _ h => h, fun _ _ _ _ h => h, fun _ _ _ _ h => h, fun _ _ _ _ h => h, fun _ _ _ _ h => h, fun _ _ _ _ h => h, fun _ _ _ _ h => h, sb_V _, trivial⟩
            go_upto_region 16 with fail
            refine wp_region_loc (by kernel_rfl) [(0, some 47), (1, some 48), (2, some 49), (3, some 50), (4, some 51), (5, some 52), (6, some 53), (7, some 54), (8, some 55), (9, some 56), (10, some 57), (11, some 58)] [[], [(0, some 47)], [(1, some 48)], [(1, some 48)], [(1, some 48), (2, some 49), (3, some 50)], [(1, some 48), (4, some 51)], [(1, some 48)], [(1, some 48)], [(1, some 48), (6, some 53), (7, some 54)], [(1, some 48), (8, some 55)], [(1, some 48), (5, some 52), (9, some 56)], [(1, some 48), (10, some 57)]] (by kernel_rfl)
              (locB _) (fun a b => Below a.heap.size a b) noR [0, 0, 0, 0, 0, 0, 0, 0, 0, 0, 0, 0] 0 (by kernel_rfl) (fun _ => Below.refl _ _) (fun _ _ _ => bthen) (locB_st hF _) trivial ?_ ?_
            · refine steps_cons ?s0 ( steps_cons ?s1 ( steps_cons ?s2 ( steps_cons ?s3 ( steps_cons ?s4 ( steps_cons ?s5 ( steps_cons ?s6 ( steps_cons ?s7 ( steps_cons ?s8 ( steps_cons ?s9 ( steps_cons ?s10 ( steps_cons ?s11 steps_nil)))))))))))
              case s0 =>
                intro w' m' hE hR
                intro Q hQ
                go_wp2
                exact hQ _ _ _ rfl rfl (Below.refl _ _) trivial
              case s1 =>
                intro w' m' hE hR
                rintro _ rfl Q hQ
                go_wp2
                exact hQ _ _ _ rfl rfl (Below.refl _ _) trivial
              case s2 =>
                intro w' m' hE hR
                rintro _ rfl Q hQ
                go_wp2
                exact hQ undef _ _ rfl trivial (Below.refl _ _) trivial
              case s3 =>
                intro w' m' hE hR
                rintro _ rfl Q hQ
                go_wp2
                exact hQ undef _ _ rfl trivial (Below.refl _ _) trivial
              case s4 =>
                intro w' m' hE hR
                rintro _ rfl _ - _ - Q hQ
                go_wp2
                exact hQ undef _ _ rfl trivial (Below.refl _ _) trivial
              case s5 =>
                intro w' m' hE hR
                rintro _ rfl _ - Q hQ
                go_wp2
                exact hQ undef _ _ rfl trivial (Below.refl _ _) trivial
              case s6 =>
                intro w' m' hE hR
                rintro _ rfl Q hQ
                go_wp2
                exact hQ undef _ _ rfl trivial (Below.refl _ _) trivial
              case s7 =>
                intro w' m' hE hR
                rintro _ rfl Q hQ
                go_wp2
                exact hQ undef _ _ rfl trivial (Below.refl _ _) trivial
              case s8 =>
                intro w' m' hE hR
                rintro _ rfl _ - _ - Q hQ
                go_wp2
                exact hQ undef _ _ rfl trivial (Below.refl _ _) trivial
              case s9 =>
                intro w' m' hE hR
                rintro _ rfl _ - Q hQ
                go_wp2
                exact hQ undef _ _ rfl trivial (Below.refl _ _) trivial
              case s10 =>
                intro w' m' hE hR
                rintro _ rfl _ - _ - Q hQ
                go_wp2
                exact hQ undef _ _ rfl trivial (Below.refl _ _) trivial
              case s11 =>
                intro w' m' hE hR
                rintro _ rfl _ - Q hQ
                go_wp2
                exact hQ _ _ _ rfl rfl (Below.refl _ _) trivial
            intro w9 hE _
            rintro v0 - v1 - v2 - v3 - v4 - v5 - v6 - v7 - v8 - v9 - v10 - v11 hv11
            obtain rfl : v11 = _ := hv11
            change wpList _ _ _ [_] _ _
            simp only [Act.put, List.setIfInBounds_toArray, List.set_cons_succ, List.set_cons_zero]
            have b9 := below_undrew hE
            have hbel9 := bthen hbel b9
            clear hE hF
            go_wp2
            go_roundw
            case rel => exact ⟨j + 1, true, by omega, by go_num, rfl, hide (unhide HNX _ fun h => by cases h), hbel9⟩
            case measure => simp [intOf]; omega
          · have hF : StBL [bV (.bool false), bV (.bool false), bV (.slice (some ⟨ba, oa, none⟩) al.length cb), bV (.int .i64 (j : Int)), bV (.pointer (some ⟨ba, oa + j * 4, none⟩)), bV (.agg #[.int .i64 xa.kind, .int .i64 xa.src, .int .i64 xa.dst, .int .i64 xa.amt]), bV (.slice (some ⟨ba, oa, none⟩) al.length cb), bV (.int .i64 (k : Int)), bV (.pointer (some ⟨ba, oa + k * 4, none⟩)), bV (.agg #[.int .i64 xb.kind, .int .i64 xb.src, .int .i64 xb.dst, .int .i64 xb.amt]), bV (.bool (confN xa xb != 0)), bV (.bool (confN xa xb != 0))] :=
              ⟨sb_V _, sb_V _, sb_V _, sb_V _, sb_V _, sb_V _, sb_V _, sb_V _, sb_V _, sb_V _, sb_V _, sb_V _, trivial⟩
            go_upto_region 16 with fail
            refine wp_region_loc (by kernel_rfl) [(0, some 47), (1, some 48), (2, some 49), (3, some 50), (4, some 51), (5, some 52), (6, some 53), (7, some 54), (8, some 55), (9, some 56), (10, some 57), (11, some 58)] [[], [(0, some 47)], [(1, some 48)], [(1, some 48)], [(1, some 48), (2, some 49), (3, some 50)], [(1, some 48), (4, some 51)], [(1, some 48)], [(1, some 48)], [(1, some 48), (6, some 53), (7, some 54)], [(1, some 48), (8, some 55)], [(1, some 48), (5, some 52), (9, some 56)], [(1, some 48), (10, some 57)]] (by kernel_rfl)
              (locB _) (fun a b => Below a.heap.size a b) noR [0, 0, 0, 0, 0, 0, 0, 0, 0, 0, 0, 0] 0 (by kernel_rfl) (fun _ => Below.refl _ _) (fun _ _ _ => bthen) (locB_st hF _) trivial ?_ ?_
            · refine steps_cons ?s0 ( steps_cons ?s1 ( steps_cons ?s2 ( steps_cons ?s3 ( steps_cons ?s4 ( steps_cons ?s5 ( steps_cons ?s6 ( steps_cons ?s7 ( steps_cons ?s8 ( steps_cons ?s9 ( steps_cons ?s10 ( steps_cons ?s11 steps_nil)))))))))))
              case s0 =>
                intro w' m' hE hR
                intro Q hQ
                go_wp2
                exact hQ _ _ _ rfl rfl (Below.refl _ _) trivial
              case s1 =>
                intro w' m' hE hR
                rintro _ rfl Q hQ
                go_wp2
                exact hQ _ _ _ rfl rfl (Below.refl _ _) trivial
              case s2 =>
                intro w' m' hE hR
                rintro _ rfl Q hQ
                go_wp2
                exact hQ _ _ _ rfl rfl (Below.refl _ _) trivial
              case s3 =>
                intro w' m' hE hR
                rintro _ rfl Q hQ
                go_wp2
                exact hQ _ _ _ rfl rfl (Below.refl _ _) trivial
              case s4 =>
                intro w' m' hE hR
                rintro _ rfl _ rfl _ rfl Q hQ
                go_wp2
                exact hQ _ _ _ rfl rfl (Below.refl _ _) trivial
              case s5 =>
                intro w' m' hE hR
                rintro _ rfl _ rfl Q hQ
                obtain ⟨y0, y1, y2, y3⟩ := unhide HXJ w' (below_undrew hE)
                go_wp2
                exact hQ _ _ _ rfl rfl (Below.refl _ _) trivial
              case s6 =>
                intro w' m' hE hR
                rintro _ rfl Q hQ
                go_wp2
                exact hQ _ _ _ rfl rfl (Below.refl _ _) trivial
              case s7 =>
                intro w' m' hE hR
                rintro _ rfl Q hQ
                go_wp2
                exact hQ _ _ _ rfl rfl (Below.refl _ _) trivial
              case s8 =>
                intro w' m' hE hR
                rintro _ rfl _ rfl _ rfl Q hQ
                go_wp2
                exact hQ _ _ _ rfl rfl (Below.refl _ _) trivial
              case s9 =>
                intro w' m' hE hR
                rintro _ rfl _ rfl Q hQ
                obtain ⟨y0, y1, y2, y3⟩ := unhide HXK w' (below_undrew hE)
                go_wp2
                exact hQ _ _ _ rfl rfl (Below.refl _ _) trivial
              case s10 =>
                intro w' m' hE hR
                rintro _ rfl _ rfl _ rfl Q hQ
                go_wp2_with fail
                refine (unhide HCF w').mono ?_
                rintro e w5 ⟨rfl, b5⟩
                go_wp2
                exact hQ _ _ _ rfl rfl b5 trivial
              case s11 =>
                intro w' m' hE hR
                rintro _ rfl _ rfl Q hQ
                go_wp2
                exact hQ _ _ _ rfl rfl (Below.refl _ _) trivial
            intro w9 hE _
            rintro v0 - v1 - v2 - v3 - v4 - v5 - v6 - v7 - v8 - v9 - v10 - v11 hv11
            obtain rfl : v11 = _ := hv11
            change wpList _ _ _ [_] _ _
            simp only [Act.put, List.setIfInBounds_toArray, List.set_cons_succ, List.set_cons_zero]
            have b9 := below_undrew hE
            have hbel9 := bthen hbel b9
            clear hE hF
            go_wp2
            go_roundw
            case rel => exact ⟨j + 1, confN xa xb != 0, by omega, by go_num, rfl, hide (unhide HNX _ fun h => ⟨rfl, by simpa using h⟩), hbel9⟩
            case measure => simp [intOf]; omega
        · obtain rfl : j = k := by omega
          go_wp2
          go_roundw
          case rel => exact ⟨j + 1, f2, by omega, by go_num, rfl, hide fun hf j1 k1 h1 h2 h3 h4 => by
            by_cases he : k1 = j
            · subst he; exact (unhide HF2 hf).2 j1 h1 h3
            · exact (unhide HF2 hf).1 j1 k1 h1 h2 h3 (by omega), hbel⟩
          case measure => simp [intOf]; omega
    · obtain rfl : k = al.length := by omega
      have KW := wastedTries_impl A1 c1 s B cb al none 0 [] wr (unhide HR1 wr hbel) (by omega) (unhide HR2 wr hbel) (by omega) (Rd.nil _ _) (by simp)
      rw [unhide HO] at KW
      have HZ := hide (fun hf : f = false => unhide HN fun j k hj hk hjk => unhide HF hf j k hj hk hjk hk)
      cases f
      · have hn := unhide HZ rfl
        subst hn
        go_wp2_with fail
        refine KW.mono ?_
        rintro e w8 ⟨rfl, b8⟩
        go_wp2
        go_ret
        exact ⟨rfl, bthen hB (bthen hbel b8)⟩
      · go_wp2_with fail
        refine KW.mono ?_
        rintro e w8 ⟨rfl, b8⟩
        go_wp2
        go_ret
        exact ⟨rfl, bthen hB (bthen hbel b8)⟩
end Go.Proofs.YtihlhejencninaaGreat
