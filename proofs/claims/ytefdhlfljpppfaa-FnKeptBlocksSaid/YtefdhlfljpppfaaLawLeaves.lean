/- The laws FnLeavesOf and FnKeptBlocks: the walks (printed by gen_in.py from xlawleaves.in). -/
import Derived.Test.YtefdhlfljpppfaaLeaves
import Derived.Test.YtefdhlfljpppfaaGdrawt
import Derived.Test.YtefdhlfljpppfaaSums
import Derived.Test.YtefdhlfljpppfaaIntS
namespace Go.Proofs.Ytefdhlfljpppfaa
open Go.RowKit
set_option linter.unusedVariables false
set_option linter.unusedSimpArgs false

/-- is a block before one of some leaves? -/
def someB (t : Tr) (n : Int) (xs : List Int) : Bool := xs.any fun x => beforeB t n x
theorem someB_succ (t : Tr) (n : Int) (xs : List Int) (j : Nat) (hj : j < xs.length) : someB t n (xs.take (j + 1)) = (someB t n (xs.take j) || beforeB t n xs[j]) := by
  rw [someB, List.take_succ_eq_append_getElem hj, List.any_append]
  simp [someB]
theorem someB_leaves {t : Tr} (h : treeB t = true) {n : Nat} (hn : n < t.blocks.length) : someB t (n : Int) (leavesL t) = true := by
  obtain ⟨x, hx, hp⟩ := leaf_some h hn
  rw [someB, List.any_eq_true]
  exact ⟨x, hx, by rw [beforeB, pathS, if_pos h]; exact decide_eq_true hp⟩
theorem path_root {t : Tr} (h : treeB t = true) : ∀ (m : Nat) (n : Int), n < m → 0 ≤ n → n < t.blocks.length → (0 : Int) ∈ pathT t n
  | 0, n, h0, h1, _ => by omega
  | m + 1, n, h0, h1, h2 => by
    rw [pathT_step h h1 h2]
    by_cases hz : n = 0
    · subst hz; simp
    · have hn := (treeB_yes h).2.2.2.2.2.2.2 n.toNat (by omega) (by omega)
      rw [nodeOk, Bool.and_eq_true] at hn
      have hb := inB_true.1 hn.1
      exact List.mem_append_left _ (path_root h m _ (by omega) hb.1 (by omega))
theorem keptGo_iff {t : Tr} {n x : Int} : ∀ m, x ∈ keptGo t n m ↔ ∃ k : Nat, k < m ∧ x = k ∧ keepB t n k = true
  | 0 => by simp [keptGo]
  | m + 1 => by
    have ih := keptGo_iff (t := t) (n := n) (x := x) m
    rw [keptGo]
    constructor
    · intro h
      split at h
      · rename_i hk
        rcases List.mem_append.1 h with h | h
        · obtain ⟨k, h1, h2⟩ := ih.1 h; exact ⟨k, by omega, h2⟩
        · rw [List.mem_singleton] at h; exact ⟨m, by omega, h, hk⟩
      · obtain ⟨k, h1, h2⟩ := ih.1 h; exact ⟨k, by omega, h2⟩
    · rintro ⟨k, h1, h2, h3⟩
      by_cases hkm : k = m
      · subst hkm
        rw [if_pos h3]
        exact List.mem_append_right _ (by rw [h2]; simp)
      · have := ih.2 ⟨k, by omega, h2, h3⟩
        split
        · exact List.mem_append_left _ this
        · exact this
theorem keptGo_head {t : Tr} {n : Int} (h : keepB t n 0 = true) : ∀ m, 0 < m → (keptGo t n m)[0]? = some 0
  | 0, hm => by omega
  | 1, _ => by simp [keptGo, h]
  | m + 2, _ => by
    have ih := keptGo_head h (m + 1) (by omega)
    rw [keptGo]
    split
    · rw [List.getElem?_append_left]
      · exact ih
      · exact (List.getElem?_eq_some_iff.1 ih).1
    · exact ih
theorem kept_valid {t : Tr} {n : Int} (h : (keptL t n).length ≠ 0) : treeB t = true ∧ (0 ≤ n ∧ n < t.blocks.length) := by
  unfold keptL at h
  split at h
  · rename_i hc
    have := inB_true.1 hc.2
    exact ⟨hc.1, by omega⟩
  · simp at h
theorem kept_has {t : Tr} {n : Int} (h : (keptL t n).length ≠ 0) (k : Nat) (hk : k < t.blocks.length) : decide ((k : Int) ∈ keptL t n) = (beforeB t (k : Int) n || beforeB t n (k : Int)) := by
  obtain ⟨hv, h0, h1⟩ := kept_valid h
  rw [keptL_yes hv (inB_true.2 (by omega)), beforeB, beforeB, pathS, pathS, if_pos hv, if_pos hv]
  have : (k : Int) ∈ keptGo t n t.blocks.length ↔ keepB t n k = true := by
    rw [keptGo_iff]
    exact ⟨fun ⟨j, h1, h2, h3⟩ => by have : k = j := by omega
                                     rwa [this], fun h => ⟨k, hk, rfl, h⟩⟩
  rw [show decide ((k : Int) ∈ keptGo t n t.blocks.length) = keepB t n k by rw [Bool.eq_iff_iff, decide_eq_true_eq]; exact this]
  rfl
theorem kept_first {t : Tr} {n : Int} (h : (keptL t n).length ≠ 0) : (keptL t n)[0]? = some 0 := by
  obtain ⟨hv, h0, h1⟩ := kept_valid h
  rw [keptL_yes hv (inB_true.2 (by omega))]
  refine keptGo_head ?_ _ (by omega)
  have := path_root hv (n.toNat + 1) n (by omega) h0 h1
  simp [keepB, this]
theorem kept_self {t : Tr} {n : Int} (h : (keptL t n).length ≠ 0) : decide (n ∈ keptL t n) = true := by
  obtain ⟨hv, h0, h1⟩ := kept_valid h
  obtain ⟨k, rfl⟩ := Int.eq_ofNat_of_zero_le h0
  rw [kept_has h k (by omega), beforeB, pathS, if_pos hv, decide_eq_true (path_self hv h0 h1)]
  rfl
set_option maxRecDepth 100000 in
set_option maxHeartbeats 8000000 in
theorem law_FnLeavesOf (A : Option Addr) (c : Nat) (bs : List Int) (w : World) (h : Rd w A (bs.map (.int .u8))) (hw : ∀ b ∈ bs, 0 ≤ b ∧ b ≤ 255) (hc : bs.length ≤ c) (hm : c ≤ maxLen) :
    Calls Try.prog 3 #[.slice A bs.length c] w fun e w' => e = .returned (.bool true) ∧ Below w.heap.size w w' := by
  have hm2 : bs.length ≤ 9223372036854775807 := by simp only [maxLen] at hm; omega
  by_cases hl : (1048576 : Int) < (bs.length : Int)
  · clear hw
    go_enter Try.func3, Try.ntmps3
    go_wp2
    go_ret
    exact ⟨rfl, Below.refl _ _⟩
  have HW := hide hw
  have HC := hide hc
  have HM := hide hm
  clear hw hc hm
  go_enter Try.func3, Try.ntmps3
  go_wp2_with fail
  refine (DrawLeavesOf_any A c bs w h (unhide HW) (unhide HC) (unhide HM)).mono ?_
  rintro e w1 ⟨t, A1, c1, A2, c2, A3, c3, rfl, ⟨hd1, ⟨hd2, hd2'⟩, hd3, hd4⟩, hR1, hB⟩
  clear h
  go_wp2_with (refine wpList_store_row rfl 27 (.tmp 3) (.tmp 12) rfl w1.heap.size #[.slice A1 t.base.length c1, .slice A2 t.blocks.length c2, .slice A3 t.before.length c3] rfl rfl 27 #[.slice none 0 0, .slice none 0 0, .slice none 0 0] (box_new w1 27 #[.slice none 0 0, .slice none 0 0, .slice none 0 0] #[.slice A1 t.base.length c1, .slice A2 t.blocks.length c2, .slice A3 t.before.length c3]).1 info_tr rfl (sl3_one _ _ _ _ _ _ _ _ _) ?_; refine at_world (C := fun W => wpList _ _ _ _ _ W) (F := fun W => Blk W w1.heap.size 27 #[.slice A1 t.base.length c1, .slice A2 t.blocks.length c2, .slice A3 t.before.length c3] ∧ Below w1.heap.size w1 W) ⟨(box_new w1 27 #[.slice none 0 0, .slice none 0 0, .slice none 0 0] #[.slice A1 t.base.length c1, .slice A2 t.blocks.length c2, .slice A3 t.before.length c3]).2.1, (box_new w1 27 #[.slice none 0 0, .slice none 0 0, .slice none 0 0] #[.slice A1 t.base.length c1, .slice A2 t.blocks.length c2, .slice A3 t.before.length c3]).2.2⟩ ?_; rintro w2 ⟨kb, b2⟩; obtain ⟨bx, hbx⟩ : ∃ bx, bx = w1.heap.size := ⟨_, rfl⟩; rw [← hbx] at kb ⊢; have HBX := hide hbx; clear hbx; have x0 : w2.cell? ⟨bx, 0, none⟩ = some (.slice A1 t.base.length c1) := kb.cell 0; have x1 : w2.cell? ⟨bx, 1, none⟩ = some (.slice A2 t.blocks.length c2) := kb.cell 1; have x2 : w2.cell? ⟨bx, 2, none⟩ = some (.slice A3 t.before.length c3) := kb.cell 2)
  have hbx := unhide HBX
  have hbx1 : w.heap.size ≤ bx := by have := hB.size; omega
  replace hB := bthen hB b2
  have HR := hide (fun (w' : World) (hb : Below w2.heap.size w2 w') => hR1.new (bthen b2 hb))
  have HD4 := hide (fun x (hx : x ∈ t.blocks) => show x.list.length ≤ 1099511627776 by have := hd4 x hx; omega)
  have HKB := hide (fun (w' : World) (hb : Below w2.heap.size w2 w') => kb.new_ hb)
  have HX := hide (fun (w' : World) (hb : Below w2.heap.size w2 w') => show (w'.cell? ⟨bx, 0, none⟩ = some (.slice A1 t.base.length c1) ∧ w'.cell? ⟨bx, 1, none⟩ = some (.slice A2 t.blocks.length c2) ∧ w'.cell? ⟨bx, 2, none⟩ = some (.slice A3 t.before.length c3)) from ⟨(kb.new_ hb).cell 0, (kb.new_ hb).cell 1, (kb.new_ hb).cell 2⟩)
  have HLI := hide (fun (w' : World) (hb : Below w2.heap.size w2 w') => leavesOf_impl t A1 c1 A2 c2 A3 c3 w' (unhide HR w' hb) (by omega) (by omega) (unhide HD4) (by omega))
  have HLS := hide (fun (w' : World) (hb : Below w2.heap.size w2 w') => leavesOf_spec t A1 c1 A2 c2 A3 c3 w' (unhide HR w' hb) (by omega) (by omega) (unhide HD4) (by omega))
  have HTV := hide (fun (w' : World) (hb : Below w2.heap.size w2 w') => treeValid_spec t A1 c1 A2 c2 A3 c3 w' (unhide HR w' hb) (by omega) (by omega) (unhide HD4) (by omega))
  have HIB := hide (fun (w' : World) (hb : Below w2.heap.size w2 w') (a b : Int) => isBefore_impl t A1 c1 A2 c2 A3 c3 a b w' (unhide HR w' hb) (by omega) (by omega) (unhide HD4) (by omega))
  simp only [trA] at HLI HLS HTV HIB
  clear hbx hR1 hd4 kb b2
  refine (unhide HLI w2 (Below.refl _ _)).mono ?_
  rintro e w3 ⟨AL, cl, rfl, oL, b3⟩
  have rL := own_rd oL
  have hll := leavesL_len t
  clear oL x0 x1 x2
  obtain ⟨x0, x1, x2⟩ := unhide HX w3 b3
  go_wp2_with fail
  refine (unhide HLS w3 b3).mono ?_
  rintro e w4 ⟨AM, cm, rfl, oM, b4⟩
  have rL4 := rL.new b4
  have b24 := bthen b3 b4
  go_wp2_with fail
  refine (sameInts_any AL AM cl cm (leavesL t) (leavesL t) w4 rL4 (own_rd oM) (by omega)).mono ?_
  rintro e w' ⟨rfl, m, rfl⟩
  rw [show decide (leavesL t = leavesL t) = true by simp]
  have b25 := below_drewN b24 m
  have rL5 := rL4.drewN m
  clear oM rL rL4 b24 x0 x1 x2 b3 b4
  generalize w4.drewN m = w5 at *
  clear w4 w3
  obtain ⟨x0, x1, x2⟩ := unhide HX w5 b25
  go_wp2_with fail
  refine (unhide HTV w5 b25).mono ?_
  rintro e w6 ⟨rfl, b6⟩
  have b26 := bthen b25 b6
  have rL6 := rL5.new b6
  clear x0 x1 x2 rL5 b25 b6
  cases hv : treeB t
  · have hz := leavesL_no hv
    rw [hz]
    clear hv hz hll rL6
    go_wp2_with fail
    refine (alive_any w6).mono ?_
    rintro e w7 ⟨rfl, b7⟩
    go_wp2
    go_ret
    exact ⟨rfl, bthen hB (bthen b26 b7)⟩
  have HV := hide hv
  clear hv
  have HSM := hide (fun (n : Nat) (hn : n < t.blocks.length) => someB_leaves (unhide HV) hn)
  have HLM := hide (fun (n : Nat) (hn : n < t.blocks.length) => show ((n : Int) ∈ leavesL t ↔ (n : Int) ∉ t.before) from (leavesL_mem (unhide HV)).trans ⟨fun h => h.2.2, fun h => ⟨by omega, by omega, h⟩⟩)
  have HRL := hide (fun (w' : World) (hb : Below w6.heap.size w6 w') => (rL6.new hb : Rd w' AL ((leavesL t).map (.int .i64))))
  generalize leavesL t = ls at *
  clear rL6
  go_wp2
  go_loopw [5, 6, 7] (fun i _ _ wr => ∃ (k : Nat), k ≤ t.blocks.length ∧ i = .int .i64 k ∧ Below w6.heap.size w6 wr) (fun i _ _ _ => t.blocks.length - (intOf i).toNat)
  case atStart => exact ⟨0, Nat.zero_le _, rfl, Below.refl _ _⟩
  case round =>
    obtain ⟨k, hk, rfl, bk⟩ := hrel
    obtain ⟨wo, rfl⟩ : ∃ wo, wo = wr := ⟨_, rfl⟩
    have b2o := bthen b26 bk
    obtain ⟨x0, x1, x2⟩ := unhide HX wo b2o
    by_cases hlt : k < t.blocks.length
    · have i1 : (k : Int) < (t.blocks.length : Int) := by omega
      go_wp2
      clear x0 x1 x2
      go_loopw [6, 7] (fun f i wr => ∃ (j : Nat), j ≤ ls.length ∧ i = .int .i64 j ∧ f = .bool (someB t (k : Int) (ls.take j)) ∧ Below wo.heap.size wo wr) (fun _ i _ => ls.length - (intOf i).toNat)
      case atStart => exact ⟨0, Nat.zero_le _, rfl, rfl, Below.refl _ _⟩
      case round =>
        obtain ⟨j, hj, rfl, rfl, bj⟩ := hrel
        have bkj := bthen bk bj
        have b2j := bthen b2o bj
        by_cases hjl : j < ls.length
        · have i2 : (j : Int) < (ls.length : Int) := by omega
          obtain ⟨bl, ol, hAL, hbl, d0⟩ := (unhide HRL wr bkj).int hjl
          have HS := hide (someB_succ t (k : Int) ls j hjl)
          have HAL := hide hAL
          clear hAL
          generalize ls[j] = y at *
          generalize someB t (k : Int) (ls.take j) = fb at *
          cases fb
          · have hF : StBL [bV (.bool false), bV (.bool false), bV (.agg #[.slice A1 t.base.length c1, .slice A2 t.blocks.length c2, .slice A3 t.before.length c3]), bV (.int .i64 (k : Int)), bV (.slice AL ls.length cl), bV (.int .i64 (j : Int)), bV (.pointer (some ⟨bl, ol + j, none⟩)), bV (.int .i64 y)] :=
              ⟨sb_V _, sb_V _, sb_V _, sb_V _, sb_V _, sb_V _, sb_V _, sb_V _, trivial⟩
            go_upto_region 16 with fail
            refine wp_region_loc (by kernel_rfl) [(0, some 42), (1, some 43), (2, some 44), (3, some 45), (4, some 46), (5, some 47), (6, some 48), (7, some 49)] [[], [(0, some 42)], [(1, some 43)], [(1, some 43)], [(1, some 43)], [(1, some 43)], [(1, some 43), (4, some 46), (5, some 47)], [(1, some 43), (6, some 48)]] (by kernel_rfl)
              (locB _) (fun a b => Below a.heap.size a b) noR [0, 0, 0, 0, 0, 0, 0, 0] 0 (by kernel_rfl) (fun _ => Below.refl _ _) (fun _ _ _ => bthen) (locB_st hF _) trivial ?_ ?_
            · refine steps_cons ?s0 ( steps_cons ?s1 ( steps_cons ?s2 ( steps_cons ?s3 ( steps_cons ?s4 ( steps_cons ?s5 ( steps_cons ?s6 ( steps_cons ?s7 steps_nil)))))))
              case s0 =>
                intro w' m' hE hR
                intro Q hQ
                go_wp2
                exact hQ _ _ _ rfl rfl (Below.refl _ _) trivial
              case s1 =>
                intro w' m' hE hR
                rintro _ rfl Q hQ
                go_wp2
                exact hQ _ _ _ rfl rfl (Below.refl _ _) trivial
              case s2 =>
                intro w' m' hE hR
                rintro _ rfl Q hQ
                obtain ⟨x0, x1, x2⟩ := unhide HX w' (bthen b2j (below_undrew hE))
                go_wp2
                exact hQ _ _ _ rfl rfl (Below.refl _ _) trivial
              case s3 =>
                intro w' m' hE hR
                rintro _ rfl Q hQ
                go_wp2
                exact hQ _ _ _ rfl rfl (Below.refl _ _) trivial
              case s4 =>
                intro w' m' hE hR
                rintro _ rfl Q hQ
                go_wp2
                exact hQ _ _ _ rfl rfl (Below.refl _ _) trivial
              case s5 =>
                intro w' m' hE hR
                rintro _ rfl Q hQ
                go_wp2
                exact hQ _ _ _ rfl rfl (Below.refl _ _) trivial
              case s6 =>
                intro w' m' hE hR
                rintro _ rfl _ rfl _ rfl Q hQ
                obtain rfl := unhide HAL
                go_wp2
                exact hQ _ _ _ rfl rfl (Below.refl _ _) trivial
              case s7 =>
                intro w' m' hE hR
                rintro _ rfl _ rfl Q hQ
                have d1 := (((below_undrew hE)).cell (p := ⟨bl, ol + j, none⟩) hbl).trans d0
                go_wp2
                exact hQ _ _ _ rfl rfl (Below.refl _ _) trivial
            intro w9 hE _
            rintro v0 - v1 hv1 v2 hv2 v3 hv3 v4 - v5 - v6 - v7 hv7
            obtain rfl : v1 = _ := hv1
            obtain rfl : v2 = _ := hv2
            obtain rfl : v3 = _ := hv3
            obtain rfl : v7 = _ := hv7
            change wpList _ _ _ [_, _, _] _ _
            simp only [Act.put, List.setIfInBounds_toArray, List.set_cons_succ, List.set_cons_zero]
            have b9 := bthen bj (below_undrew hE)
            have b29 := bthen b2o b9
            clear hE hF
            go_wp2_with fail
            refine (unhide HIB w9 b29 (k : Int) y).mono ?_
            rintro e w10 ⟨rfl, b10⟩
            replace b9 := bthen b9 b10
            go_wp2
            go_roundw
            case rel => exact ⟨j + 1, by omega, by go_num, by rw [unhide HS]; simp, b9⟩
            case measure => simp [intOf]; omega
          · have hF : StBL [bV (.bool true), bV (.bool true), bV (undef), bV (undef), bV (undef), bV (undef), bV (undef), bV (undef)] :=
              ⟨sb_V _, sb_V _, sb_V _, sb_V _, sb_V _, sb_V _, sb_V _, sb_V _, trivial⟩
            go_upto_region 16 with fail
            refine wp_region_loc (by kernel_rfl) [(0, some 42), (1, some 43), (2, some 44), (3, some 45), (4, some 46), (5, some 47), (6, some 48), (7, some 49)] [[], [(0, some 42)], [(1, some 43)], [(1, some 43)], [(1, some 43)], [(1, some 43)], [(1, some 43), (4, some 46), (5, some 47)], [(1, some 43), (6, some 48)]] (by kernel_rfl)
              (locB _) (fun a b => Below a.heap.size a b) noR [0, 0, 0, 0, 0, 0, 0, 0] 0 (by kernel_rfl) (fun _ => Below.refl _ _) (fun _ _ _ => bthen) (locB_st hF _) trivial ?_ ?_
            · refine steps_cons ?s0 ( steps_cons ?s1 ( steps_cons ?s2 ( steps_cons ?s3 ( steps_cons ?s4 ( steps_cons ?s5 ( steps_cons ?s6 ( steps_cons ?s7 steps_nil)))))))
              case s0 =>
                intro w' m' hE hR
                intro Q hQ
                go_wp2
                exact hQ _ _ _ rfl rfl (Below.refl _ _) trivial
              case s1 =>
                intro w' m' hE hR
                rintro _ rfl Q hQ
                go_wp2
                exact hQ _ _ _ rfl rfl (Below.refl _ _) trivial
              case s2 =>
                intro w' m' hE hR
                rintro _ rfl Q hQ
                go_wp2
                exact hQ _ _ _ rfl rfl (Below.refl _ _) trivial
              case s3 =>
                intro w' m' hE hR
                rintro _ rfl Q hQ
                go_wp2
                exact hQ _ _ _ rfl rfl (Below.refl _ _) trivial
              case s4 =>
                intro w' m' hE hR
                rintro _ rfl Q hQ
                go_wp2
                exact hQ _ _ _ rfl rfl (Below.refl _ _) trivial
              case s5 =>
                intro w' m' hE hR
                rintro _ rfl Q hQ
                go_wp2
                exact hQ _ _ _ rfl rfl (Below.refl _ _) trivial
              case s6 =>
                intro w' m' hE hR
                rintro _ rfl _ rfl _ rfl Q hQ
                go_wp2
                exact hQ _ _ _ rfl rfl (Below.refl _ _) trivial
              case s7 =>
                intro w' m' hE hR
                rintro _ rfl _ rfl Q hQ
                go_wp2
                exact hQ _ _ _ rfl rfl (Below.refl _ _) trivial
            intro w9 hE _
            rintro v0 - v1 hv1 v2 - v3 - v4 - v5 - v6 - v7 -
            obtain rfl : v1 = _ := hv1
            change wpList _ _ _ [_, _, _] _ _
            simp only [Act.put, List.setIfInBounds_toArray, List.set_cons_succ, List.set_cons_zero]
            have b9 := bthen bj (below_undrew hE)
            have b29 := bthen b2o b9
            clear hE hF
            go_wp2
            go_roundw
            case rel => exact ⟨j + 1, by omega, by go_num, by rw [unhide HS]; simp, b9⟩
            case measure => simp [intOf]; omega
        · obtain rfl : j = ls.length := by omega
          rw [List.take_length, unhide HSM k hlt]
          have hmm := unhide HLM k hlt
          have hrb := (unhide HR wr b2j).b3
          have rls := unhide HRL wr bkj
          by_cases hb : (k : Int) ∈ t.before
          · have hd1 : decide ((k : Int) ∈ t.before) = true := by simpa using hb
            have hd2 : decide ((k : Int) ∈ ls) = false := by simp [hmm, hb]
            have HD1 := hide hd1
            have HD2 := hide hd2
            clear hmm hb hd1 hd2
            have hF : StBL [bV (.bool true), bV (.bool false), bV (.bool false), bV (.slice AL ls.length cl), bV (.int .i64 (k : Int)), bV (.bool false), bV (.pointer (some ⟨bx, 2, none⟩)), bV (.slice A3 t.before.length c3), bV (.int .i64 (k : Int))] :=
              ⟨sb_V _, sb_V _, sb_V _, sb_V _, sb_V _, sb_V _, sb_V _, sb_V _, sb_V _, trivial⟩
            go_upto_region 17 with fail
            refine wp_region_loc (by kernel_rfl) [(0, some 52), (1, some 53), (2, some 54), (3, some 55), (4, some 56), (5, some 57), (6, some 58), (7, some 59), (8, some 60)] [[], [(0, some 52)], [(1, some 53)], [(2, some 54)], [(2, some 54)], [(2, some 54), (3, some 55), (4, some 56)], [(2, some 54)], [(2, some 54), (6, some 58)], [(2, some 54)]] (by kernel_rfl)
              (locB _) (fun a b => Below a.heap.size a b) noR [0, 0, 0, 0, 0, 0, 0, 0, 0] 0 (by kernel_rfl) (fun _ => Below.refl _ _) (fun _ _ _ => bthen) (locB_st hF _) trivial ?_ ?_
            · refine steps_cons ?s0 ( steps_cons ?s1 ( steps_cons ?s2 ( steps_cons ?s3 ( steps_cons ?s4 ( steps_cons ?s5 ( steps_cons ?s6 ( steps_cons ?s7 ( steps_cons ?s8 steps_nil))))))))
              case s0 =>
                intro w' m' hE hR
                intro Q hQ
                go_wp2
                exact hQ _ _ _ rfl rfl (Below.refl _ _) trivial
              case s1 =>
                intro w' m' hE hR
                rintro _ rfl Q hQ
                go_wp2
                exact hQ _ _ _ rfl rfl (Below.refl _ _) trivial
              case s2 =>
                intro w' m' hE hR
                rintro _ rfl Q hQ
                go_wp2
                exact hQ _ _ _ rfl rfl (Below.refl _ _) trivial
              case s3 =>
                intro w' m' hE hR
                rintro _ rfl Q hQ
                go_wp2
                exact hQ _ _ _ rfl rfl (Below.refl _ _) trivial
              case s4 =>
                intro w' m' hE hR
                rintro _ rfl Q hQ
                go_wp2
                exact hQ _ _ _ rfl rfl (Below.refl _ _) trivial
              case s5 =>
                intro w' m' hE hR
                rintro _ rfl _ rfl _ rfl Q hQ
                go_wp2_with fail
                refine (hasKey_any AL cl ls (k : Int) w' (unhide HRL w' (bthen bkj (below_undrew hE))) (by omega)).mono ?_
                rintro e w9 ⟨rfl, rfl⟩
                rw [unhide HD2]
                go_wp2
                exact hQ _ _ _ rfl rfl (Below.refl _ _) trivial
              case s6 =>
                intro w' m' hE hR
                rintro _ rfl Q hQ
                go_wp2
                exact hQ _ _ _ rfl rfl (Below.refl _ _) trivial
              case s7 =>
                intro w' m' hE hR
                rintro _ rfl _ rfl Q hQ
                obtain ⟨x0, x1, x2⟩ := unhide HX w' (bthen b2j (below_undrew hE))
                go_wp2
                exact hQ _ _ _ rfl rfl (Below.refl _ _) trivial
              case s8 =>
                intro w' m' hE hR
                rintro _ rfl Q hQ
                go_wp2
                exact hQ _ _ _ rfl rfl (Below.refl _ _) trivial
            intro w9 hE _
            rintro v0 - v1 - v2 hv2 v3 - v4 - v5 hv5 v6 - v7 hv7 v8 hv8
            obtain rfl : v2 = _ := hv2
            obtain rfl : v5 = _ := hv5
            obtain rfl : v7 = _ := hv7
            obtain rfl : v8 = _ := hv8
            change wpList _ _ _ [_, _, _] _ _
            simp only [Act.put, List.setIfInBounds_toArray, List.set_cons_succ, List.set_cons_zero]
            have b9 := bthen bkj (below_undrew hE)
            have b29 := bthen b2j (below_undrew hE)
            clear hE hF
            go_wp2_with fail
            refine (hasKey_any A3 c3 t.before (k : Int) w9 (unhide HR w9 b29).b3 (by omega)).mono ?_
            rintro e w10 ⟨rfl, rfl⟩
            rw [unhide HD1]
            go_wp2
            go_roundw
            case rel => exact ⟨k + 1, by omega, by go_num, b9⟩
            case measure => simp [intOf]; omega
          · have hd1 : decide ((k : Int) ∈ t.before) = false := by simpa using hb
            have hd2 : decide ((k : Int) ∈ ls) = true := by simp [hmm, hb]
            have HD1 := hide hd1
            have HD2 := hide hd2
            clear hmm hb hd1 hd2
            have hF : StBL [bV (.bool true), bV (.bool false), bV (.bool false), bV (.slice AL ls.length cl), bV (.int .i64 (k : Int)), bV (.bool true), bV (.pointer (some ⟨bx, 2, none⟩)), bV (.slice A3 t.before.length c3), bV (.int .i64 (k : Int))] :=
              ⟨sb_V _, sb_V _, sb_V _, sb_V _, sb_V _, sb_V _, sb_V _, sb_V _, sb_V _, trivial⟩
            go_upto_region 17 with fail
            refine wp_region_loc (by kernel_rfl) [(0, some 52), (1, some 53), (2, some 54), (3, some 55), (4, some 56), (5, some 57), (6, some 58), (7, some 59), (8, some 60)] [[], [(0, some 52)], [(1, some 53)], [(2, some 54)], [(2, some 54)], [(2, some 54), (3, some 55), (4, some 56)], [(2, some 54)], [(2, some 54), (6, some 58)], [(2, some 54)]] (by kernel_rfl)
              (locB _) (fun a b => Below a.heap.size a b) noR [0, 0, 0, 0, 0, 0, 0, 0, 0] 0 (by kernel_rfl) (fun _ => Below.refl _ _) (fun _ _ _ => bthen) (locB_st hF _) trivial ?_ ?_
            · refine steps_cons ?s0 ( steps_cons ?s1 ( steps_cons ?s2 ( steps_cons ?s3 ( steps_cons ?s4 ( steps_cons ?s5 ( steps_cons ?s6 ( steps_cons ?s7 ( steps_cons ?s8 steps_nil))))))))
              case s0 =>
                intro w' m' hE hR
                intro Q hQ
                go_wp2
                exact hQ _ _ _ rfl rfl (Below.refl _ _) trivial
              case s1 =>
                intro w' m' hE hR
                rintro _ rfl Q hQ
                go_wp2
                exact hQ _ _ _ rfl rfl (Below.refl _ _) trivial
              case s2 =>
                intro w' m' hE hR
                rintro _ rfl Q hQ
                go_wp2
                exact hQ _ _ _ rfl rfl (Below.refl _ _) trivial
              case s3 =>
                intro w' m' hE hR
                rintro _ rfl Q hQ
                go_wp2
                exact hQ _ _ _ rfl rfl (Below.refl _ _) trivial
              case s4 =>
                intro w' m' hE hR
                rintro _ rfl Q hQ
                go_wp2
                exact hQ _ _ _ rfl rfl (Below.refl _ _) trivial
              case s5 =>
                intro w' m' hE hR
                rintro _ rfl _ rfl _ rfl Q hQ
                go_wp2_with fail
                refine (hasKey_any AL cl ls (k : Int) w' (unhide HRL w' (bthen bkj (below_undrew hE))) (by omega)).mono ?_
                rintro e w9 ⟨rfl, rfl⟩
                rw [unhide HD2]
                go_wp2
                exact hQ _ _ _ rfl rfl (Below.refl _ _) trivial
              case s6 =>
                intro w' m' hE hR
                rintro _ rfl Q hQ
                go_wp2
                exact hQ _ _ _ rfl rfl (Below.refl _ _) trivial
              case s7 =>
                intro w' m' hE hR
                rintro _ rfl _ rfl Q hQ
                obtain ⟨x0, x1, x2⟩ := unhide HX w' (bthen b2j (below_undrew hE))
                go_wp2
                exact hQ _ _ _ rfl rfl (Below.refl _ _) trivial
              case s8 =>
                intro w' m' hE hR
                rintro _ rfl Q hQ
                go_wp2
                exact hQ _ _ _ rfl rfl (Below.refl _ _) trivial
            intro w9 hE _
            rintro v0 - v1 - v2 hv2 v3 - v4 - v5 hv5 v6 - v7 hv7 v8 hv8
            obtain rfl : v2 = _ := hv2
            obtain rfl : v5 = _ := hv5
            obtain rfl : v7 = _ := hv7
            obtain rfl : v8 = _ := hv8
            change wpList _ _ _ [_, _, _] _ _
            simp only [Act.put, List.setIfInBounds_toArray, List.set_cons_succ, List.set_cons_zero]
            have b9 := bthen bkj (below_undrew hE)
            have b29 := bthen b2j (below_undrew hE)
            clear hE hF
            go_wp2_with fail
            refine (hasKey_any A3 c3 t.before (k : Int) w9 (unhide HR w9 b29).b3 (by omega)).mono ?_
            rintro e w10 ⟨rfl, rfl⟩
            rw [unhide HD1]
            go_wp2
            go_roundw
            case rel => exact ⟨k + 1, by omega, by go_num, b9⟩
            case measure => simp [intOf]; omega
    · obtain rfl : k = t.blocks.length := by omega
      go_wp2
      go_ret
      exact ⟨rfl, bthen hB b2o⟩
set_option maxRecDepth 100000 in
set_option maxHeartbeats 8000000 in
theorem law_FnKeptBlocks (A : Option Addr) (c : Nat) (bs : List Int) (w : World) (h : Rd w A (bs.map (.int .u8))) (hw : ∀ b ∈ bs, 0 ≤ b ∧ b ≤ 255) (hc : bs.length ≤ c) (hm : c ≤ maxLen) :
    Calls Try.prog 4 #[.slice A bs.length c] w fun e w' => e = .returned (.bool true) ∧ Below w.heap.size w w' := by
  have hm2 : bs.length ≤ 9223372036854775807 := by simp only [maxLen] at hm; omega
  by_cases hl : (1048576 : Int) < (bs.length : Int)
  · clear hw
    go_enter Try.func4, Try.ntmps4
    go_wp2
    go_ret
    exact ⟨rfl, Below.refl _ _⟩
  have HW := hide hw
  have HC := hide hc
  have HM := hide hm
  clear hw hc hm
  go_enter Try.func4, Try.ntmps4
  go_wp2_with fail
  refine (DrawKeptBlocks_any A c bs w h (unhide HW) (unhide HC) (unhide HM)).mono ?_
  rintro e w1 ⟨t, A1, c1, A2, c2, A3, c3, z, rfl, hz, ⟨hd1, ⟨hd2, hd2'⟩, hd3, hd4⟩, hR1, hB⟩
  clear h hz
  go_wp2_with (refine wpList_store_row rfl 27 (.tmp 3) (.tmp 13) rfl w1.heap.size #[.slice A1 t.base.length c1, .slice A2 t.blocks.length c2, .slice A3 t.before.length c3] rfl rfl 27 #[.slice none 0 0, .slice none 0 0, .slice none 0 0] (box_new w1 27 #[.slice none 0 0, .slice none 0 0, .slice none 0 0] #[.slice A1 t.base.length c1, .slice A2 t.blocks.length c2, .slice A3 t.before.length c3]).1 info_tr rfl (sl3_one _ _ _ _ _ _ _ _ _) ?_; refine at_world (C := fun W => wpList _ _ _ _ _ W) (F := fun W => Blk W w1.heap.size 27 #[.slice A1 t.base.length c1, .slice A2 t.blocks.length c2, .slice A3 t.before.length c3] ∧ Below w1.heap.size w1 W) ⟨(box_new w1 27 #[.slice none 0 0, .slice none 0 0, .slice none 0 0] #[.slice A1 t.base.length c1, .slice A2 t.blocks.length c2, .slice A3 t.before.length c3]).2.1, (box_new w1 27 #[.slice none 0 0, .slice none 0 0, .slice none 0 0] #[.slice A1 t.base.length c1, .slice A2 t.blocks.length c2, .slice A3 t.before.length c3]).2.2⟩ ?_; rintro w2 ⟨kb, b2⟩; obtain ⟨bx, hbx⟩ : ∃ bx, bx = w1.heap.size := ⟨_, rfl⟩; rw [← hbx] at kb ⊢; have HBX := hide hbx; clear hbx; have x0 : w2.cell? ⟨bx, 0, none⟩ = some (.slice A1 t.base.length c1) := kb.cell 0; have x1 : w2.cell? ⟨bx, 1, none⟩ = some (.slice A2 t.blocks.length c2) := kb.cell 1; have x2 : w2.cell? ⟨bx, 2, none⟩ = some (.slice A3 t.before.length c3) := kb.cell 2)
  have hbx := unhide HBX
  have hbx1 : w.heap.size ≤ bx := by have := hB.size; omega
  replace hB := bthen hB b2
  have HR := hide (fun (w' : World) (hb : Below w2.heap.size w2 w') => hR1.new (bthen b2 hb))
  have HD4 := hide (fun x (hx : x ∈ t.blocks) => show x.list.length ≤ 1099511627776 by have := hd4 x hx; omega)
  have HX := hide (fun (w' : World) (hb : Below w2.heap.size w2 w') => show (w'.cell? ⟨bx, 0, none⟩ = some (.slice A1 t.base.length c1) ∧ w'.cell? ⟨bx, 1, none⟩ = some (.slice A2 t.blocks.length c2) ∧ w'.cell? ⟨bx, 2, none⟩ = some (.slice A3 t.before.length c3)) from ⟨(kb.new_ hb).cell 0, (kb.new_ hb).cell 1, (kb.new_ hb).cell 2⟩)
  have HLI := hide (fun (w' : World) (hb : Below w2.heap.size w2 w') => kept_impl t A1 c1 A2 c2 A3 c3 z w' (unhide HR w' hb) (by omega) (by omega) (unhide HD4) (by omega))
  have HLS := hide (fun (w' : World) (hb : Below w2.heap.size w2 w') => kept_spec t A1 c1 A2 c2 A3 c3 z w' (unhide HR w' hb) (by omega) (by omega) (unhide HD4) (by omega))
  have HIB := hide (fun (w' : World) (hb : Below w2.heap.size w2 w') (a b : Int) => isBefore_impl t A1 c1 A2 c2 A3 c3 a b w' (unhide HR w' hb) (by omega) (by omega) (unhide HD4) (by omega))
  simp only [trA] at HLI HLS HIB
  clear hbx hR1 hd4 kb b2
  refine (unhide HLI w2 (Below.refl _ _)).mono ?_
  rintro e w3 ⟨AL, cl, rfl, oL, b3⟩
  have rL := own_rd oL
  have hll := keptL_len t z
  clear oL x0 x1 x2
  obtain ⟨x0, x1, x2⟩ := unhide HX w3 b3
  go_wp2_with fail
  refine (unhide HLS w3 b3).mono ?_
  rintro e w4 ⟨AM, cm, rfl, oM, b4⟩
  have rL4 := rL.new b4
  have b24 := bthen b3 b4
  go_wp2_with fail
  refine (sameInts_any AL AM cl cm (keptL t z) (keptL t z) w4 rL4 (own_rd oM) (by omega)).mono ?_
  rintro e w' ⟨rfl, m, rfl⟩
  rw [show decide (keptL t z = keptL t z) = true by simp]
  have b25 := below_drewN b24 m
  have rL5 := rL4.drewN m
  clear oM rL rL4 b24 x0 x1 x2 b3 b4
  generalize w4.drewN m = w6 at *
  clear w4 w3
  by_cases hzz : (keptL t z).length = 0
  · rw [hzz]
    clear hll rL5 hzz
    go_wp2_with fail
    refine (alive_any w6).mono ?_
    rintro e w7 ⟨rfl, b7⟩
    go_wp2
    go_ret
    exact ⟨rfl, bthen hB (bthen b25 b7)⟩
  have hz2 : (((keptL t z).length : Int) == 0) = false := by simpa using hzz
  have HKH := hide (fun (k : Nat) (hk : k < t.blocks.length) => kept_has hzz k hk)
  have HK0 := hide (kept_first hzz)
  have HKS := hide (kept_self hzz)
  have hn0 : 0 < (keptL t z).length := by omega
  have HRL := hide (fun (w' : World) (hb : Below w6.heap.size w6 w') => (rL5.new hb : Rd w' AL ((keptL t z).map (.int .i64))))
  generalize keptL t z = ls at *
  clear rL5 hzz
  go_wp2
  go_loopw [6] (fun i wr => ∃ (k : Nat), k ≤ t.blocks.length ∧ i = .int .i64 k ∧ Below w6.heap.size w6 wr) (fun i _ => t.blocks.length - (intOf i).toNat)
  case atStart => exact ⟨0, Nat.zero_le _, rfl, Below.refl _ _⟩
  case round =>
    obtain ⟨k, hk, rfl, bk⟩ := hrel
    have b2k := bthen b25 bk
    obtain ⟨x0, x1, x2⟩ := unhide HX wr b2k
    by_cases hlt : k < t.blocks.length
    · have i1 : (k : Int) < (t.blocks.length : Int) := by omega
      have HKK := hide (unhide HKH k hlt)
      go_upto_region 12 with fail
      clear x0 x1 x2
      generalize hb1 : beforeB t (k : Int) z = b1 at *
      have HB1 := hide hb1
      clear hb1
      cases b1
      · have hd2 : decide ((k : Int) ∈ ls) = (beforeB t z (k : Int)) := by rw [unhide HKK]; rfl
        have HD2 := hide hd2
        clear hd2
        have hF : StBL [bV (.slice AL ls.length cl), bV (.int .i64 (k : Int)), bV (.bool (beforeB t z (k : Int))), bV (.agg #[.slice A1 t.base.length c1, .slice A2 t.blocks.length c2, .slice A3 t.before.length c3]), bV (.int .i64 (k : Int)), bV (.int .i64 z), bV (.bool false), bV (.bool false), bV (.agg #[.slice A1 t.base.length c1, .slice A2 t.blocks.length c2, .slice A3 t.before.length c3]), bV (.int .i64 z), bV (.int .i64 (k : Int))] :=
          ⟨sb_V _, sb_V _, sb_V _, sb_V _, sb_V _, sb_V _, sb_V _, sb_V _, sb_V _, sb_V _, sb_V _, trivial⟩
        refine wp_region_loc (by kernel_rfl) [(0, some 35), (1, some 36), (2, some 37), (3, some 38), (4, some 39), (5, some 40), (6, some 41), (7, some 42), (8, some 43), (9, some 44), (10, some 45)] [[], [], [(0, some 35), (1, some 36)], [], [], [], [(3, some 38), (4, some 39), (5, some 40)], [(6, some 41)], [(7, some 42)], [(7, some 42)], [(7, some 42)]] (by kernel_rfl)
          (locB _) (fun a b => Below a.heap.size a b) noR [0, 0, 0, 0, 0, 0, 0, 0, 0, 0, 0] 0 (by kernel_rfl) (fun _ => Below.refl _ _) (fun _ _ _ => bthen) (locB_st hF _) trivial ?_ ?_
        · refine steps_cons ?s0 ( steps_cons ?s1 ( steps_cons ?s2 ( steps_cons ?s3 ( steps_cons ?s4 ( steps_cons ?s5 ( steps_cons ?s6 ( steps_cons ?s7 ( steps_cons ?s8 ( steps_cons ?s9 ( steps_cons ?s10 steps_nil))))))))))
          case s0 =>
            intro w' m' hE hR
            intro Q hQ
            go_wp2
            exact hQ _ _ _ rfl rfl (Below.refl _ _) trivial
          case s1 =>
            intro w' m' hE hR
            intro Q hQ
            go_wp2
            exact hQ _ _ _ rfl rfl (Below.refl _ _) trivial
          case s2 =>
            intro w' m' hE hR
            rintro _ rfl _ rfl Q hQ
            go_wp2_with fail
            refine (hasKey_any AL cl ls (k : Int) w' (unhide HRL w' (bthen bk (below_undrew hE))) (by omega)).mono ?_
            rintro e w9 ⟨rfl, rfl⟩
            rw [unhide HD2]
            go_wp2
            exact hQ _ _ _ rfl rfl (Below.refl _ _) trivial
          case s3 =>
            intro w' m' hE hR
            intro Q hQ
            obtain ⟨x0, x1, x2⟩ := unhide HX w' (bthen b2k (below_undrew hE))
            go_wp2
            exact hQ _ _ _ rfl rfl (Below.refl _ _) trivial
          case s4 =>
            intro w' m' hE hR
            intro Q hQ
            go_wp2
            exact hQ _ _ _ rfl rfl (Below.refl _ _) trivial
          case s5 =>
            intro w' m' hE hR
            intro Q hQ
            go_wp2
            exact hQ _ _ _ rfl rfl (Below.refl _ _) trivial
          case s6 =>
            intro w' m' hE hR
            rintro _ rfl _ rfl _ rfl Q hQ
            go_wp2_with fail
            refine (unhide HIB w' (bthen b2k (below_undrew hE)) (k : Int) z).mono ?_
            rintro e w9 ⟨rfl, b9⟩
            rw [unhide HB1]
            go_wp2
            exact hQ _ _ _ rfl rfl b9 trivial
          case s7 =>
            intro w' m' hE hR
            rintro _ rfl Q hQ
            go_wp2
            exact hQ _ _ _ rfl rfl (Below.refl _ _) trivial
          case s8 =>
            intro w' m' hE hR
            rintro _ rfl Q hQ
            obtain ⟨x0, x1, x2⟩ := unhide HX w' (bthen b2k (below_undrew hE))
            go_wp2
            exact hQ _ _ _ rfl rfl (Below.refl _ _) trivial
          case s9 =>
            intro w' m' hE hR
            rintro _ rfl Q hQ
            go_wp2
            exact hQ _ _ _ rfl rfl (Below.refl _ _) trivial
          case s10 =>
            intro w' m' hE hR
            rintro _ rfl Q hQ
            go_wp2
            exact hQ _ _ _ rfl rfl (Below.refl _ _) trivial
        intro w9 hE _
        rintro v0 - v1 - v2 hv2 v3 - v4 - v5 - v6 - v7 hv7 v8 hv8 v9 hv9 v10 hv10
        obtain rfl : v2 = _ := hv2
        obtain rfl : v7 = _ := hv7
        obtain rfl : v8 = _ := hv8
        obtain rfl : v9 = _ := hv9
        obtain rfl : v10 = _ := hv10
        change wpList _ _ _ [_, _, _] _ _
        simp only [Act.put, List.setIfInBounds_toArray, List.set_cons_succ, List.set_cons_zero]
        have b9 := bthen bk (below_undrew hE)
        clear hE hF
        go_wp2_with fail
        refine (unhide HIB w9 (bthen b25 b9) z (k : Int)).mono ?_
        rintro e w10 ⟨rfl, b10⟩
        have b910 := bthen b9 b10
        clear b9 b10
        generalize beforeB t z (k : Int) = b2 at *
        cases b2
        · go_wp2
          go_roundw
          case rel => exact ⟨k + 1, by omega, by go_num, b910⟩
          case measure => simp [intOf]; omega
        · go_wp2
          go_roundw
          case rel => exact ⟨k + 1, by omega, by go_num, b910⟩
          case measure => simp [intOf]; omega
      · have hd2 : decide ((k : Int) ∈ ls) = true := by rw [unhide HKK]; rfl
        have HD2 := hide hd2
        clear hd2
        have hF : StBL [bV (.slice AL ls.length cl), bV (.int .i64 (k : Int)), bV (.bool true), bV (.agg #[.slice A1 t.base.length c1, .slice A2 t.blocks.length c2, .slice A3 t.before.length c3]), bV (.int .i64 (k : Int)), bV (.int .i64 z), bV (.bool true), bV (.bool true), bV (undef), bV (undef), bV (undef)] :=
          ⟨sb_V _, sb_V _, sb_V _, sb_V _, sb_V _, sb_V _, sb_V _, sb_V _, sb_V _, sb_V _, sb_V _, trivial⟩
        refine wp_region_loc (by kernel_rfl) [(0, some 35), (1, some 36), (2, some 37), (3, some 38), (4, some 39), (5, some 40), (6, some 41), (7, some 42), (8, some 43), (9, some 44), (10, some 45)] [[], [], [(0, some 35), (1, some 36)], [], [], [], [(3, some 38), (4, some 39), (5, some 40)], [(6, some 41)], [(7, some 42)], [(7, some 42)], [(7, some 42)]] (by kernel_rfl)
          (locB _) (fun a b => Below a.heap.size a b) noR [0, 0, 0, 0, 0, 0, 0, 0, 0, 0, 0] 0 (by kernel_rfl) (fun _ => Below.refl _ _) (fun _ _ _ => bthen) (locB_st hF _) trivial ?_ ?_
        · refine steps_cons ?s0 ( steps_cons ?s1 ( steps_cons ?s2 ( steps_cons ?s3 ( steps_cons ?s4 ( steps_cons ?s5 ( steps_cons ?s6 ( steps_cons ?s7 ( steps_cons ?s8 ( steps_cons ?s9 ( steps_cons ?s10 steps_nil))))))))))
          case s0 =>
            intro w' m' hE hR
            intro Q hQ
            go_wp2
            exact hQ _ _ _ rfl rfl (Below.refl _ _) trivial
          case s1 =>
            intro w' m' hE hR
            intro Q hQ
            go_wp2
            exact hQ _ _ _ rfl rfl (Below.refl _ _) trivial
          case s2 =>
            intro w' m' hE hR
            rintro _ rfl _ rfl Q hQ
            go_wp2_with fail
            refine (hasKey_any AL cl ls (k : Int) w' (unhide HRL w' (bthen bk (below_undrew hE))) (by omega)).mono ?_
            rintro e w9 ⟨rfl, rfl⟩
            rw [unhide HD2]
            go_wp2
            exact hQ _ _ _ rfl rfl (Below.refl _ _) trivial
          case s3 =>
            intro w' m' hE hR
            intro Q hQ
            obtain ⟨x0, x1, x2⟩ := unhide HX w' (bthen b2k (below_undrew hE))
            go_wp2
            exact hQ _ _ _ rfl rfl (Below.refl _ _) trivial
          case s4 =>
            intro w' m' hE hR
            intro Q hQ
            go_wp2
            exact hQ _ _ _ rfl rfl (Below.refl _ _) trivial
          case s5 =>
            intro w' m' hE hR
            intro Q hQ
            go_wp2
            exact hQ _ _ _ rfl rfl (Below.refl _ _) trivial
          case s6 =>
            intro w' m' hE hR
            rintro _ rfl _ rfl _ rfl Q hQ
            go_wp2_with fail
            refine (unhide HIB w' (bthen b2k (below_undrew hE)) (k : Int) z).mono ?_
            rintro e w9 ⟨rfl, b9⟩
            rw [unhide HB1]
            go_wp2
            exact hQ _ _ _ rfl rfl b9 trivial
          case s7 =>
            intro w' m' hE hR
            rintro _ rfl Q hQ
            go_wp2
            exact hQ _ _ _ rfl rfl (Below.refl _ _) trivial
          case s8 =>
            intro w' m' hE hR
            rintro _ rfl Q hQ
            go_wp2
            exact hQ _ _ _ rfl rfl (Below.refl _ _) trivial
          case s9 =>
            intro w' m' hE hR
            rintro _ rfl Q hQ
            go_wp2
            exact hQ _ _ _ rfl rfl (Below.refl _ _) trivial
          case s10 =>
            intro w' m' hE hR
            rintro _ rfl Q hQ
            go_wp2
            exact hQ _ _ _ rfl rfl (Below.refl _ _) trivial
        intro w9 hE _
        rintro v0 - v1 - v2 hv2 v3 - v4 - v5 - v6 - v7 hv7 v8 - v9 - v10 -
        obtain rfl : v2 = _ := hv2
        obtain rfl : v7 = _ := hv7
        change wpList _ _ _ [_, _, _] _ _
        simp only [Act.put, List.setIfInBounds_toArray, List.set_cons_succ, List.set_cons_zero]
        have b9 := bthen bk (below_undrew hE)
        clear hE hF
        go_wp2
        go_roundw
        case rel => exact ⟨k + 1, by omega, by go_num, b9⟩
        case measure => simp [intOf]; omega
    · obtain rfl : k = t.blocks.length := by omega
      obtain ⟨bl, ol, hAL, hbl, d0⟩ := (unhide HRL wr bk).int hn0
      have h00 : ls[0] = 0 := by have := unhide HK0; rw [List.getElem?_eq_getElem hn0] at this; simpa using this
      rw [h00, Nat.add_zero] at d0
      have i3 : (0 : Int) < (ls.length : Int) := by omega
      have hrl := unhide HRL wr bk
      have HRL2 := hide hrl
      obtain rfl := hAL
      clear hrl h00
      go_wp2_with fail
      refine (hasKey_any _ cl ls z wr (unhide HRL2) (by omega)).mono ?_
      rintro e w9 ⟨rfl, rfl⟩
      rw [unhide HKS]
      go_wp2
      go_ret
      exact ⟨rfl, bthen hB b2k⟩
end Go.Proofs.Ytefdhlfljpppfaa
