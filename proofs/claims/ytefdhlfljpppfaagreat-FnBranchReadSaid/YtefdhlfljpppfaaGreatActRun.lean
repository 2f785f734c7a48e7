/- What an action does: run of the program. -/
import Derived.Test.YtefdhlfljpppfaaGreatResult
import Derived.Test.YtefdhlfljpppfaaGreatLocB
namespace Go.Proofs.YtefdhlfljpppfaaGreat
open Go.RowKit
set_option linter.unusedVariables false
set_option linter.unusedSimpArgs false
attribute [local go_sem ↓] Go.wp_at_zero Go.wp_at_succ

theorem atV_nat (v : List Int) (p : Nat) : atV v (p : Int) = v.getD p 0 := by simp [atV]
theorem actReads_mem {a : Act} {k : Int} (h : k ∈ actReads a) : k = a.src ∨ k = a.dst := by
  unfold actReads at h
  split at h
  · cases h
  · split at h
    · exact .inl (by simpa using h)
    · rcases List.mem_cons.1 h with h | h
      · exact .inl h
      · exact .inr (by simpa using h)
theorem actWrites_mem {a : Act} {k : Int} (h : k ∈ actWrites a) : k = a.src ∨ k = a.dst := by
  unfold actWrites at h
  split at h
  · exact .inl (by simpa using h)
  · split at h
    · exact .inr (by simpa using h)
    · simp only [List.mem_cons, List.not_mem_nil, or_false] at h
      omega
theorem result_any (a : Act) (v : List Int) (w : World) (ha : actB a = true) (hv : valOk v) :
    Calls Tryz.prog 118 #[.agg #[.int .i64 a.kind, .int .i64 a.src, .int .i64 a.dst, .int .i64 a.amt], .agg (vA v)] w fun e w' => ∃ b, e = .returned (.tuple #[.map (some b), .bool (actDone a (atV v a.src) (atV v a.dst))]) ∧ MapAt (wAt a (atV v a.src) (atV v a.dst)) w' b (actWrites a) ∧ w.heap.size ≤ b ∧ Below w.heap.size w w' := by
  obtain ⟨hs, hd, hm, hk⟩ := actB_bd ha
  have hkk := actK_kind hk
  have hmem := fun k (h : k ∈ actWrites a) => actWrites_mem h
  obtain ⟨kd, sr, ds, am⟩ := a
  simp only at *
  obtain ⟨p, rfl⟩ := Int.eq_ofNat_of_zero_le hs.1
  obtain ⟨q, rfl⟩ := Int.eq_ofNat_of_zero_le hd.1
  have hx := atV_bd hv (p : Int)
  have hy := atV_bd hv (q : Int)
  refine result_core kd p q am v (atV v p) (atV v q) _ _ _ w (by omega) (by omega) hv.1 (atV_nat v p).symm (atV_nat v q).symm hx hy hm hkk hmem ?_ ?_ ?_ ?_ ?_ ?_
  · rintro rfl; simp [wAt, actDone, actWrites]
  · rintro rfl; simp [wAt, actDone, actWrites]
  · rintro rfl; simp [wAt, actDone, actWrites]
  · rintro rfl
    refine ⟨?_, ?_, ?_⟩
    · simp only [wAt]
      by_cases h : (p : Int) = (q : Int)
      · simp [h]
      · simp [h]
    · simp [wAt]
    · simp [actDone]
  · rintro rfl; simp [wAt, actDone, actWrites]
  · rintro rfl
    refine ⟨?_, ?_⟩
    · rintro rfl; simp [wAt, actDone]
    · intro hne
      have h1 : ¬ (p : Int) = (q : Int) := by omega
      have h2 : ¬ (q : Int) = (p : Int) := by omega
      simp [wAt, actDone, h1, h2]
theorem runV_reads (v : List Int) (a : Act) : (runV v a).reads = (actReads a).map fun k => ⟨k, atV v k⟩ := by
  show (actReads a).map _ = _
  apply List.map_congr_left
  intro k hk
  rcases actReads_mem hk with rfl | rfl
  · simp
  · by_cases h : a.dst = a.src
    · rw [if_pos h, h]
    · rw [if_neg h]
theorem runV_done (v : List Int) (a : Act) : (runV v a).done = actDone a (atV v a.src) (atV v a.dst) := rfl
theorem runV_yes {v : List Int} {a : Act} (h : actDone a (atV v a.src) (atV v a.dst) = true) : (runV v a).writes = (actWrites a).map fun k => ⟨k, wAt a (atV v a.src) (atV v a.dst) k⟩ := by
  show (if _ then _ else _) = _
  rw [if_pos h]
theorem runV_no {v : List Int} {a : Act} (h : actDone a (atV v a.src) (atV v a.dst) = false) : (runV v a).writes = [] := by
  show (if _ then _ else _) = _
  rw [if_neg (by simp [h])]
def bRow (base : Nat) (cs : Array Value) (v : Value) (w : World) : Prop := ∃ q, v = .slice (some ⟨q, 0, none⟩) 1 1 ∧ base ≤ q ∧ Blk w q 85 cs
theorem sb_Row (base : Nat) (cs : Array Value) : StB (bRow base cs) := fun _ _ _ hb ⟨q, h1, h2, h3⟩ => ⟨q, h1, h2, h3.new_ hb⟩
set_option maxRecDepth 100000 in
set_option maxHeartbeats 4000000 in
theorem run_any (a : Act) (v : List Int) (w : World) (ha : actB a = true) (hv : valOk v) :
    Calls Tryz.prog 85 #[.agg #[.int .i64 a.kind, .int .i64 a.src, .int .i64 a.dst, .int .i64 a.amt], .agg (vA v)] w fun e w' => ∃ A1 c1 A2 c2, e = .returned (.agg #[.bool (runV v a).done, .slice A1 (runV v a).reads.length c1, .slice A2 (runV v a).writes.length c2]) ∧
      effR (fun k => w.heap.size ≤ k) (runV v a) w' (effV (runV v a) A1 c1 A2 c2) ∧ Below w.heap.size w w' := by
  have hvl := hv.1
  have hsV : (vA v).size = 32 := by rw [vA_size, hvl]
  have HA := hide ha
  have HVO := hide hv
  have HRD := hide (runV_reads v a)
  have HKM := hide (fun k (h : k ∈ actReads a) => show 0 ≤ k ∧ k ≤ 31 by
    obtain ⟨h1, h2, _⟩ := actB_bd ha
    rcases actReads_mem h with rfl | rfl
    · exact h1
    · exact h2)
  have HWM := hide (fun k (h : k ∈ actWrites a) => show 0 ≤ k ∧ k ≤ 31 by
    obtain ⟨h1, h2, _⟩ := actB_bd ha
    rcases actWrites_mem h with rfl | rfl
    · exact h1
    · exact h2)
  have HYES := hide (runV_yes (v := v) (a := a))
  have HNO := hide (runV_no (v := v) (a := a))
  have hrl := actReads_len a
  have hwl := actWrites_len a
  clear ha hv
  go_enter Tryz.func85, Tryz.ntmps85
  go_wp2_with fail
  have hW : ∃ W : World, W = ((((w.alloc (.cells #[.int .i64 a.kind, .int .i64 a.src, .int .i64 a.dst, .int .i64 a.amt] 101)).alloc (.cells (vA v) 76)).alloc (.cells #[.bool false, .slice none 0 0, .slice none 0 0] 83)).alloc (.cells #[.bool false, .slice none 0 0, .slice none 0 0] 83)) ∧ Blk W w.heap.size 101 #[.int .i64 a.kind, .int .i64 a.src, .int .i64 a.dst, .int .i64 a.amt] ∧ Blk W (w.heap.size + 1) 76 (vA v) ∧ Blk W (w.heap.size + 1 + 1) 83 #[.bool false, .slice none 0 0, .slice none 0 0] ∧ Blk W (w.heap.size + 1 + 1 + 1) 83 #[.bool false, .slice none 0 0, .slice none 0 0] ∧ Below w.heap.size w W ∧ W.heap.size = w.heap.size + 1 + 1 + 1 + 1 := by
    refine ⟨_, rfl, ?_, ?_, ?_, ?_, ?_, ?_⟩
    · exact (((Blk.new _ _ _).alloc _).alloc _).alloc _
    · have := ((Blk.new (w.alloc (.cells #[.int .i64 a.kind, .int .i64 a.src, .int .i64 a.dst, .int .i64 a.amt] 101)) 76 (vA v)).alloc (.cells #[.bool false, .slice none 0 0, .slice none 0 0] 83)).alloc (.cells #[.bool false, .slice none 0 0, .slice none 0 0] 83)
      simpa using this
    · have := (Blk.new ((w.alloc (.cells #[.int .i64 a.kind, .int .i64 a.src, .int .i64 a.dst, .int .i64 a.amt] 101)).alloc (.cells (vA v) 76)) 83 #[.bool false, .slice none 0 0, .slice none 0 0]).alloc (.cells #[.bool false, .slice none 0 0, .slice none 0 0] 83)
      simpa using this
    · have := Blk.new (((w.alloc (.cells #[.int .i64 a.kind, .int .i64 a.src, .int .i64 a.dst, .int .i64 a.amt] 101)).alloc (.cells (vA v) 76)).alloc (.cells #[.bool false, .slice none 0 0, .slice none 0 0] 83)) 83 #[.bool false, .slice none 0 0, .slice none 0 0]
      simpa using this
    · exact (((((Below.refl _ _).alloc (Nat.le_refl _) _).alloc (by simp) _).alloc (by simp; omega) _).alloc (by simp; omega) _)
    · simp
  obtain ⟨W, hWe, kA, kV, kR, kE, hB, hsz⟩ := hW
  rw [← hWe]
  clear hWe
  refine (reads_any a W).mono ?_
  rintro e w1 ⟨A1, c1, rfl, o1, b1⟩
  replace kA := kA.new_ b1
  replace kV := kV.new_ b1
  replace kR := kR.new_ b1
  replace kE := kE.new_ b1
  have hs1 : w.heap.size + 1 + 1 + 1 + 1 ≤ w1.heap.size := by have := b1.size; omega
  replace hB := bthen hB b1
  have r1 := own_rdB o1 (Nat.le_refl _)
  clear o1 b1
  generalize hks : actReads a = ks at *
  have HKS := hide hks
  clear hks
  have hB1s := hB.size
  go_wp2
  go_loopw [7, 15] (fun _ i wr => ∃ (k : Nat) (A' : Option Addr) (c' : Nat), k ≤ ks.length ∧ i = .int .i64 k ∧ Blk wr (w.heap.size + 1 + 1 + 1) 83 #[.bool false, .slice A' k c', .slice none 0 0] ∧ wr.ownsRow w1.heap.size 85 2 (.slice A' k c') k (((ks.take k).map fun k => (⟨k, atV v k⟩ : Ent)).flatMap encE) ∧ Chg (fun q => q = w.heap.size + 1 + 1 + 1) w1 wr) (fun _ i _ => ks.length - (intOf i).toNat)
  case atStart => exact ⟨0, none, 0, Nat.zero_le _, rfl, kE, own_nil _ _ _ _, Chg.refl _ _⟩
  case round =>
    obtain ⟨k, A', c', hk, rfl, ke, hown, hch⟩ := hrel
    have kv := kV.chg hch (by omega)
    have ka := kA.chg hch (by omega)
    have kr := kR.chg hch (by omega)
    have hsr := hch.size
    by_cases hlt : k < ks.length
    · have hr1 := (r1.keep (Kp.chg hch fun k hk e => by omega)).rd
      obtain ⟨b, off, rfl, hbb, hc⟩ := hr1.int hlt
      have hkb := unhide HKM ks[k] (List.getElem_mem hlt)
      have HT := hide (show (ks.take (k + 1)).map (fun k => (⟨k, atV v k⟩ : Ent)) = (ks.take k).map (fun k => (⟨k, atV v k⟩ : Ent)) ++ [⟨ks[k], atV v ks[k]⟩] by rw [List.take_succ_eq_append_getElem hlt, List.map_append]; rfl)
      generalize ks[k] = key at *
      obtain ⟨q, rfl⟩ := Int.eq_ofNat_of_zero_le hkb.1
      have i1 : (k : Int) < (ks.length : Int) := by omega
      have i2 : (q : Int) < 32 := by omega
      have cq := vA_get kv (show q < v.length by omega)
      rw [← atV_nat] at cq
      generalize atV v (q : Int) = x at *
      have ce1 : wr.cell? ⟨w.heap.size + 1 + 1 + 1, 1, none⟩ = some (.slice A' k c') := ke.cell 1
      have hlv := kv.lt
      have hle := ke.lt
      have hF : StBL [bV (.pointer (some ⟨w.heap.size + 1 + 1 + 1, 1, none⟩)), bV (.slice A' k c'), bV (.int .i64 (q : Int)), bV (.int .i64 (q : Int)), bV (.pointer (some ⟨w.heap.size + 1, q, none⟩)), bV (.int .i64 x), bV (.agg #[.int .i64 (q : Int), .int .i64 x]), bRow wr.heap.size #[.int .i64 (q : Int), .int .i64 x]] := ⟨sb_V _, sb_V _, sb_V _, sb_V _, sb_V _, sb_V _, sb_V _, sb_Row _ _, trivial⟩
      go_wp2
      refine wp_region_loc (by kernel_rfl) [(0, some 19), (1, some 20), (2, some 21), (3, some 22), (4, some 23), (5, some 24), (6, some 25), (7, some 26)] [[], [(0, some 19)], [], [], [(3, some 22)], [(4, some 23)], [(2, some 21), (5, some 24)], [(6, some 25)]] (by kernel_rfl)
        (locB [bV (.pointer (some ⟨w.heap.size + 1 + 1 + 1, 1, none⟩)), bV (.slice A' k c'), bV (.int .i64 (q : Int)), bV (.int .i64 (q : Int)), bV (.pointer (some ⟨w.heap.size + 1, q, none⟩)), bV (.int .i64 x), bV (.agg #[.int .i64 (q : Int), .int .i64 x]), bRow wr.heap.size #[.int .i64 (q : Int), .int .i64 x]]) (fun a b => Below a.heap.size a b) noR [0, 0, 0, 0, 0, 0, 0, 0] 0 (by kernel_rfl) (fun _ => Below.refl _ _) (fun _ _ _ => bthen) (locB_st hF _) trivial ?_ ?_
      · refine steps_cons ?s0 (steps_cons ?s1 (steps_cons ?s2 (steps_cons ?s3 (steps_cons ?s4 (steps_cons ?s5 (steps_cons ?s6 (steps_cons ?s7 steps_nil)))))))
        case s0 =>
          intro w' m hE hR Q hQ
          go_wp2
          exact hQ _ _ _ rfl rfl (Below.refl _ _) trivial
        case s1 =>
          intro w' m hE hR v0 h0 Q hQ
          obtain rfl : v0 = _ := h0
          have z := ((below_undrew hE).cell (p := ⟨w.heap.size + 1 + 1 + 1, 1, none⟩) hle).trans ce1
          go_wp2
          exact hQ _ _ _ rfl rfl (Below.refl _ _) trivial
        case s2 =>
          intro w' m hE hR Q hQ
          go_wp2
          exact hQ _ _ _ rfl rfl (Below.refl _ _) trivial
        case s3 =>
          intro w' m hE hR Q hQ
          go_wp2
          exact hQ _ _ _ rfl rfl (Below.refl _ _) trivial
        case s4 =>
          intro w' m hE hR v0 h0 Q hQ
          obtain rfl : v0 = _ := h0
          go_wp2
          exact hQ _ _ _ rfl rfl (Below.refl _ _) trivial
        case s5 =>
          intro w' m hE hR v0 h0 Q hQ
          obtain rfl : v0 = _ := h0
          have z := ((below_undrew hE).cell (p := ⟨w.heap.size + 1, q, none⟩) hlv).trans cq
          go_wp2
          exact hQ _ _ _ rfl rfl (Below.refl _ _) trivial
        case s6 =>
          intro w' m hE hR v0 h0 v1 h1 Q hQ
          obtain rfl : v0 = _ := h0
          obtain rfl : v1 = _ := h1
          go_wp2
          exact hQ _ _ _ rfl rfl (Below.refl _ _) trivial
        case s7 =>
          intro w' m hE hR v0 h0 Q hQ
          obtain rfl : v0 = _ := h0
          go_wp2
          exact hQ _ _ _ rfl ⟨w'.heap.size, rfl, (below_undrew hE).size, Blk.new _ _ _⟩ ((Below.refl _ _).alloc (Nat.le_refl _) _) trivial
      intro w3 hE _
      rintro v0 h0 v1 h1 v2 - v3 - v4 - v5 - v6 - v7 ⟨q7, rfl, hq7, k7⟩
      obtain rfl : v0 = _ := h0
      obtain rfl : v1 = _ := h1
      have b3 := below_undrew hE
      have o3 := own_new hown b3
      have ke3 := ke.new_ b3
      have hch3 := hch.trans (Chg.of_new (S := fun q => q = w.heap.size + 1 + 1 + 1) b3)
      have hs3 := hch3.size
      clear hown hE ce1 cq hc
      change wpList _ _ _ [_, _, _] _ _
      simp only [Go.Act.put, List.setIfInBounds_toArray, List.set_cons_succ, List.set_cons_zero]
      go_wp2_with (at_builtin; refine wpList_app rfl (.tmp 20) (.tmp 26) 23 rfl el_ent rfl o3 rfl (rd_blk k7) rfl (one_ents [⟨(q : Int), x⟩]) (by simp only [maxLen]; omega) (by omega) (by omega) ?_; intro A6 c6 w6 o6 ch6 _ _; rw [snoc_ents] at o6; have zE : w6.frozen? ⟨w.heap.size + 1 + 1 + 1, 1, none⟩ = false := (ke3.chg ch6 (fun e => by have := own_rng o3 _ e; omega)).frozen 1; have zC : w6.cell? ⟨w.heap.size + 1 + 1 + 1, 1, none⟩ = some (.slice A' k c') := (ke3.chg ch6 (fun e => by have := own_rng o3 _ e; omega)).cell 1)
      have ke6 := (ke3.chg ch6 (fun e => by have := own_rng o3 _ e; omega)).set_ 1 (.slice A6 (k + 1) c6)
      have hch6 := (chg_g hch3 o3 ch6 (Nat.le_refl _)).setCell (p := ⟨w.heap.size + 1 + 1 + 1, 1, none⟩) (.inl rfl) (.slice A6 (k + 1) c6)
      have o7 := own_far o6 (p := ⟨w.heap.size + 1 + 1 + 1, 1, none⟩) (fun g hA e => by have := own_rng o6 g hA; simp only at e; omega) (.slice A6 (k + 1) c6)
      go_roundw
      case rel => exact ⟨k + 1, A6, c6, by omega, by go_num, ke6, by rw [unhide HT]; exact o7, hch6⟩
      case measure => simp [intOf]; omega
    · obtain rfl : k = ks.length := by omega
      rw [List.take_length] at hown
      have HRE := hide (show (runV v a).reads = ks.map fun k => (⟨k, atV v k⟩ : Ent) by rw [unhide HRD])
      have hcpR := own_cap hown
      have rdR := own_rdB hown (Nat.le_refl _)
      have hrlen : (runV v a).reads.length = ks.length := by rw [unhide HRE, List.length_map]
      have HRL := hide hrlen
      rw [← unhide HRE] at rdR
      clear hrlen hown
      have c0 : wr.cell? ⟨w.heap.size, 0, none⟩ = some (.int .i64 a.kind) := ka.cell 0
      have c1' : wr.cell? ⟨w.heap.size, 1, none⟩ = some (.int .i64 a.src) := ka.cell 1
      have c2 : wr.cell? ⟨w.heap.size, 2, none⟩ = some (.int .i64 a.dst) := ka.cell 2
      have c3 : wr.cell? ⟨w.heap.size, 3, none⟩ = some (.int .i64 a.amt) := ka.cell 3
      go_wp2_with (refine wpList_load_row rfl 76 (.tmp 3) rfl (w.heap.size + 1) rfl 76 (vA v) (0, 0) _ kv Tryz.underlying76 rfl (by rw [hsV]; exact info_vals) ?_)
      refine (result_any a v wr (unhide HA) (unhide HVO)).mono ?_
      rintro e w4 ⟨bm, rfl, hm4, hbm, b4⟩
      have ka4 := ka.new_ b4
      have ke4 := ke.new_ b4
      have kr4 := kr.new_ b4
      have rd4 := rdR.keep (Kp.below b4)
      have hB4 : Below w.heap.size w w4 := (hB.trans (hch.below (fun q hq e => by omega) hB.size)).trans (b4.mono (by have := hch.size; omega))
      have hs4 : w.heap.size + 1 + 1 + 1 + 1 ≤ w4.heap.size := by have := hch.size; have := b4.size; omega
      have hbmg : w.heap.size + 1 + 1 + 1 < bm := by have := hch.size; omega
      clear ka kv kr ke rdR c0 c1' c2 c3
      have c0 : w4.cell? ⟨w.heap.size, 0, none⟩ = some (.int .i64 a.kind) := ka4.cell 0
      have c1' : w4.cell? ⟨w.heap.size, 1, none⟩ = some (.int .i64 a.src) := ka4.cell 1
      have c2 : w4.cell? ⟨w.heap.size, 2, none⟩ = some (.int .i64 a.dst) := ka4.cell 2
      have c3 : w4.cell? ⟨w.heap.size, 3, none⟩ = some (.int .i64 a.amt) := ka4.cell 3
      have e0 : w4.cell? ⟨w.heap.size + 1 + 1 + 1, 0, none⟩ = some (.bool false) := ke4.cell 0
      have e1 : w4.cell? ⟨w.heap.size + 1 + 1 + 1, 1, none⟩ = some (.slice A' ks.length c') := ke4.cell 1
      have e2 : w4.cell? ⟨w.heap.size + 1 + 1 + 1, 2, none⟩ = some (.slice none 0 0) := ke4.cell 2
      have f0 : w4.frozen? ⟨w.heap.size + 1 + 1 + 1, 0, none⟩ = false := ke4.frozen 0
      have y0 : w4.cell? ⟨w.heap.size + 1 + 1, 0, none⟩ = some (.bool false) := kr4.cell 0
      have y1 : w4.cell? ⟨w.heap.size + 1 + 1, 1, none⟩ = some (.slice none 0 0) := kr4.cell 1
      have y2 : w4.cell? ⟨w.heap.size + 1 + 1, 2, none⟩ = some (.slice none 0 0) := kr4.cell 2
      have p0 : w4.frozen? ⟨w.heap.size + 1 + 1, 0, none⟩ = false := kr4.frozen 0
      have p1 : w4.frozen? ⟨w.heap.size + 1 + 1, 1, none⟩ = false := kr4.frozen 1
      have p2 : w4.frozen? ⟨w.heap.size + 1 + 1, 2, none⟩ = false := kr4.frozen 2
      have KR4 := hide kr4
      have KE4 := hide ke4
      have KA4 := hide ka4
      have RD4 := hide rd4
      clear kr4 ke4 ka4 rd4
      cases hdn : actDone a (atV v a.src) (atV v a.dst)
      · have HW0 := hide (unhide HNO hdn)
        have HDN := hide (show (runV v a).done = false from hdn)
        clear hdn
        go_wp2
        have kb := Blk.set_ (Blk.set_ (Blk.set_ (Blk.far_ (unhide KR4) (p := ⟨w.heap.size + 1 + 1 + 1, 0, none⟩) (by simp only []; omega) (.bool false)) 0 (.bool false)) 1 (.slice A' ks.length c')) 2 (.slice none 0 0)
        have hc := ((((Chg.refl (fun q => q = w.heap.size + 1 + 1 + 1 ∨ q = w.heap.size + 1 + 1) w4).setCell (p := ⟨w.heap.size + 1 + 1 + 1, 0, none⟩) (.inl (.inl rfl)) (.bool false)).setCell (p := ⟨w.heap.size + 1 + 1, 0, none⟩) (.inl (.inr rfl)) (.bool false)).setCell (p := ⟨w.heap.size + 1 + 1, 1, none⟩) (.inl (.inr rfl)) (.slice A' ks.length c')).setCell (p := ⟨w.heap.size + 1 + 1, 2, none⟩) (.inl (.inr rfl)) (.slice none 0 0)
        refine bodyPost_ret (v := .agg #[.bool false, .slice A' ks.length c', .slice none 0 0]) (results_cell_row rfl _ _ (w.heap.size + 1 + 1) 83 #[.bool false, .slice A' ks.length c', .slice none 0 0] (0, 0) _ rfl kb Tryz.underlying83 rfl info_valEffect) rfl ⟨A', c', none, 0, ?_, ?_, ?_⟩
        · rw [unhide HDN, unhide HRL, unhide HW0]
          rfl
        · refine ⟨A', c', none, 0, rfl, by rw [unhide HRL]; exact hcpR, by rw [unhide HW0]; simp [maxLen], ?_, by rw [unhide HW0]; exact RdP.nil _ _ _⟩
          exact ((unhide RD4).keep (Kp.chg hc fun q hq e => by omega)).mono fun q hq _ => by omega
        · exact hB4.trans (hc.below (fun q hq e => by omega) hB4.size)
      · have HWY := hide (unhide HYES hdn)
        have HDN := hide (show (runV v a).done = true from hdn)
        clear hdn
        go_wp2_with fail
        have ke5 := (unhide KE4).set_ 0 (.bool true)
        have hc5 := (Chg.refl (fun q => q = w.heap.size + 1 + 1 + 1) w4).setCell (p := ⟨w.heap.size + 1 + 1 + 1, 0, none⟩) (.inl rfl) (.bool true)
        refine at_world (C := fun w => Calls _ _ _ w _) (F := fun x => Blk x (w.heap.size + 1 + 1 + 1) 83 #[.bool true, .slice A' ks.length c', .slice none 0 0] ∧ Chg (fun q => q = w.heap.size + 1 + 1 + 1) w4 x) ⟨ke5, hc5⟩ ?_
        clear ke5 hc5 c0 c1' c2 c3 e0 e1 e2 f0 y0 y1 y2 p0 p1 p2
        rintro w5 ⟨ke5, hc5⟩
        refine (writes_any a w5).mono ?_
        rintro e w6 ⟨A6, c6, rfl, o6, b6⟩
        have ke6 := ke5.new_ b6
        have hc6 := hc5.trans (Chg.of_new (S := fun q => q = w.heap.size + 1 + 1 + 1) b6)
        have kr6 := (unhide KR4).chg hc6 (by omega)
        have rd6 := (unhide RD4).keep (Kp.chg hc6 fun q hq e => by omega)
        have hm6 := hm4.keep (hc6.block bm hm4.lt (by omega))
        have hB6 := hB4.trans (hc6.below (fun q hq e => by omega) hB4.size)
        have hs6 : w.heap.size + 1 + 1 + 1 + 1 ≤ w6.heap.size := by have := hc6.size; omega
        have q6 := own_rdB o6 (show w.heap.size + 1 + 1 + 1 + 1 ≤ w5.heap.size by have := hc5.size; omega)
        clear ke5 hc5 o6 b6 hc6
        generalize hms : actWrites a = ms at *
        have HMS := hide hms
        clear hms
        generalize hwf : wAt a (atV v a.src) (atV v a.dst) = f at *
        have HWF := hide hwf
        clear hwf
        go_wp2
        go_loopw [11, 42] (fun _ i wr => ∃ (k : Nat) (A2 : Option Addr) (c2 : Nat), k ≤ ms.length ∧ i = .int .i64 k ∧ Blk wr (w.heap.size + 1 + 1 + 1) 83 #[.bool true, .slice A' ks.length c', .slice A2 k c2] ∧ wr.ownsRow w6.heap.size 85 2 (.slice A2 k c2) k (((ms.take k).map fun k => (⟨k, f k⟩ : Ent)).flatMap encE) ∧ Chg (fun q => q = w.heap.size + 1 + 1 + 1) w6 wr) (fun _ i _ => ms.length - (intOf i).toNat)
        case atStart => exact ⟨0, none, 0, Nat.zero_le _, rfl, ke6, own_nil _ _ _ _, Chg.refl _ _⟩
        case round =>
          obtain ⟨k, A2, c2, hk, rfl, ke, hown, hch⟩ := hrel
          have hsr := hch.size
          by_cases hlt : k < ms.length
          · have hr6 := (q6.keep (Kp.chg hch fun q hq e => by omega)).rd
            obtain ⟨b, off, rfl, hbb, hc⟩ := hr6.int hlt
            have hkb := unhide HWM ms[k] (List.getElem_mem hlt)
            have HT := hide (show (ms.take (k + 1)).map (fun k => (⟨k, f k⟩ : Ent)) = (ms.take k).map (fun k => (⟨k, f k⟩ : Ent)) ++ [⟨ms[k], f ms[k]⟩] by rw [List.take_succ_eq_append_getElem hlt, List.map_append]; rfl)
            have hlk := (hm6.keep (hch.block bm hm6.lt (by omega))).look (List.getElem_mem hlt) ⟨by omega, by omega⟩
            generalize ms[k] = key at *
            have i1 : (k : Int) < (ms.length : Int) := by omega
            generalize f key = x at *
            have ce2 : wr.cell? ⟨w.heap.size + 1 + 1 + 1, 2, none⟩ = some (.slice A2 k c2) := ke.cell 2
            have hne : w.heap.size + 1 + 1 + 1 < wr.heap.size := by omega
            go_wp2_with (at_builtin; refine wpList_app rfl (.tmp 47) (.tmp 53) 23 rfl el_ent rfl (own_alloc hown _) rfl (rd_lit wr [.int .i64 key, .int .i64 x] _) rfl (one_ents [⟨key, x⟩]) (by simp only [maxLen]; omega) (by omega) (by simp; omega) ?_; intro A7 c7 w7 o7 ch7 _ _; rw [snoc_ents] at o7; have zE : w7.frozen? ⟨w.heap.size + 1 + 1 + 1, 2, none⟩ = false := ((ke.alloc _).chg ch7 (fun e => by have := own_rng hown _ e; omega)).frozen 2; have zC : w7.cell? ⟨w.heap.size + 1 + 1 + 1, 2, none⟩ = some (.slice A2 k c2) := ((ke.alloc _).chg ch7 (fun e => by have := own_rng hown _ e; omega)).cell 2)
            have ke7 := ((ke.alloc _).chg ch7 (fun e => by have := own_rng hown _ e; omega)).set_ 2 (.slice A7 (k + 1) c7)
            have hch7 := (chg_g (hch.alloc _) (own_alloc hown _) ch7 (Nat.le_refl _)).setCell (p := ⟨w.heap.size + 1 + 1 + 1, 2, none⟩) (.inl rfl) (.slice A7 (k + 1) c7)
            have o8 := own_far o7 (p := ⟨w.heap.size + 1 + 1 + 1, 2, none⟩) (fun g hA e => by have := own_rng o7 g hA; simp only at e; omega) (.slice A7 (k + 1) c7)
            go_roundw
            case rel => exact ⟨k + 1, A7, c7, by omega, by go_num, ke7, by rw [unhide HT]; exact o8, hch7⟩
            case measure => simp [intOf]; omega
          · obtain rfl : k = ms.length := by omega
            rw [List.take_length] at hown
            have HWE := hide (show (runV v a).writes = ms.map fun k => (⟨k, f k⟩ : Ent) by rw [unhide HWY])
            have hwlen : (runV v a).writes.length = ms.length := by rw [unhide HWE, List.length_map]
            have HWL := hide hwlen
            have hcpW := own_cap hown
            have rdW := own_rdB hown (Nat.le_refl _)
            rw [← unhide HWE] at rdW
            have RDW := hide rdW
            have kr := kr6.chg hch (by omega)
            have RDR := hide (rd6.keep (Kp.chg hch fun q hq e => by omega))
            have hB7 := hB6.trans (hch.below (fun q hq e => by omega) hB6.size)
            clear hwlen rdW hown
            have e0 : wr.cell? ⟨w.heap.size + 1 + 1 + 1, 0, none⟩ = some (.bool true) := ke.cell 0
            have e1 : wr.cell? ⟨w.heap.size + 1 + 1 + 1, 1, none⟩ = some (.slice A' ks.length c') := ke.cell 1
            have e2 : wr.cell? ⟨w.heap.size + 1 + 1 + 1, 2, none⟩ = some (.slice A2 ms.length c2) := ke.cell 2
            have y0 : wr.cell? ⟨w.heap.size + 1 + 1, 0, none⟩ = some (.bool false) := kr.cell 0
            have y1 : wr.cell? ⟨w.heap.size + 1 + 1, 1, none⟩ = some (.slice none 0 0) := kr.cell 1
            have y2 : wr.cell? ⟨w.heap.size + 1 + 1, 2, none⟩ = some (.slice none 0 0) := kr.cell 2
            have p0 : wr.frozen? ⟨w.heap.size + 1 + 1, 0, none⟩ = false := kr.frozen 0
            have p1 : wr.frozen? ⟨w.heap.size + 1 + 1, 1, none⟩ = false := kr.frozen 1
            have p2 : wr.frozen? ⟨w.heap.size + 1 + 1, 2, none⟩ = false := kr.frozen 2
            have KR := hide kr
            clear kr
            go_wp2
            have kb := Blk.set_ (Blk.set_ (Blk.set_ (unhide KR) 0 (.bool true)) 1 (.slice A' ks.length c')) 2 (.slice A2 ms.length c2)
            have hc := (((Chg.refl (fun q => q = w.heap.size + 1 + 1) wr).setCell (p := ⟨w.heap.size + 1 + 1, 0, none⟩) (.inl rfl) (.bool true)).setCell (p := ⟨w.heap.size + 1 + 1, 1, none⟩) (.inl rfl) (.slice A' ks.length c')).setCell (p := ⟨w.heap.size + 1 + 1, 2, none⟩) (.inl rfl) (.slice A2 ms.length c2)
            refine bodyPost_ret (v := .agg #[.bool true, .slice A' ks.length c', .slice A2 ms.length c2]) (results_cell_row rfl _ _ (w.heap.size + 1 + 1) 83 #[.bool true, .slice A' ks.length c', .slice A2 ms.length c2] (0, 0) _ rfl kb Tryz.underlying83 rfl info_valEffect) rfl ⟨A', c', A2, c2, ?_, ?_, ?_⟩
            · rw [unhide HDN, unhide HRL, unhide HWL]
            · refine ⟨A', c', A2, c2, rfl, by rw [unhide HRL]; exact hcpR, by rw [unhide HWL]; exact hcpW, ?_, ?_⟩
              · exact ((unhide RDR).keep (Kp.chg hc fun q hq e => by omega)).mono fun q hq _ => by omega
              · exact ((unhide RDW).keep (Kp.chg hc fun q hq e => by omega)).mono fun q hq _ => by omega
            · exact hB7.trans (hc.below (fun q hq e => by omega) hB7.size)
end Go.Proofs.YtefdhlfljpppfaaGreat
