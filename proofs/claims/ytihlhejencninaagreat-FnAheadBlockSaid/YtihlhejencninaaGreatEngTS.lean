/- Ends of engines, of the reference: done, tries, the store that remains, the result (printed by gen_in.py from xengts.in). -/
import Derived.Test.YtihlhejencninaaGreatEngVS
import Derived.Test.YtihlhejencninaaGreatEngT
import Derived.Test.YtihlhejencninaaGreatLastV
import Derived.Test.YtihlhejencninaaGreatEngRes
namespace Go.Proofs.YtihlhejencninaaGreat
open Go.RowKit
set_option linter.unusedVariables false
set_option linter.unusedSimpArgs false

set_option maxRecDepth 100000 in
set_option maxHeartbeats 2000000 in
theorem engineDone_spec (e : Eng) (A1 : Option Addr) (c1 : Nat) (A2 : Option Addr) (c2 : Nat) (A3 : Option Addr) (c3 : Nat) (A4 : Option Addr) (c4 : Nat) (w : World) (h : EngRd w e A1 A2 A3 A4) (hok : EngOk e) (hall : ∀ x ∈ e.slots, x.stage = 2) :
    Calls Tryz.prog 119 #[.agg (engA e A1 c1 A2 c2 A3 c3 A4 c4)] w fun x w' => x = .returned (.bool true) ∧ Below w.heap.size w w' := by
  have HALL := hide hall
  clear hall
  have hn10 := hok.len10
  obtain ⟨W, hW⟩ : ∃ W : World, W = w.alloc (.cells (engA e A1 c1 A2 c2 A3 c3 A4 c4) 96) := ⟨_, rfl⟩
  have hb0 : Below w.heap.size w W := by rw [hW]; exact (Below.refl _ _).alloc (Nat.le_refl _) _
  have K0 : Blk W w.heap.size 96 (engA e A1 c1 A2 c2 A3 c3 A4 c4) := by rw [hW]; exact Blk.new _ _ _
  have hW1 := K0.lt
  have HK0 := hide (fun (w' : World) (hb : Below W.heap.size W w') => (⟨(K0.new_ hb).cell 0, (K0.new_ hb).cell 1, (K0.new_ hb).cell 2, (K0.new_ hb).cell 3⟩ : w'.cell? ⟨w.heap.size, 0, none⟩ = some (.slice A1 e.base.length c1) ∧ w'.cell? ⟨w.heap.size, 1, none⟩ = some (.slice A2 e.list.length c2) ∧ w'.cell? ⟨w.heap.size, 2, none⟩ = some (.slice A3 e.vers.length c3) ∧ w'.cell? ⟨w.heap.size, 3, none⟩ = some (.slice A4 e.slots.length c4)))
  have HR := hide (fun (w' : World) (hb : Below W.heap.size W w') => h.new (bthen hb0 hb))
  obtain ⟨y0, y1, y2, y3⟩ := unhide HK0 W (Below.refl _ _)
  have KV := engineValid_spec e A1 c1 A2 c2 A3 c3 A4 c4 W (h.new hb0) hok
  clear hok
  simp only [engA] at hW KV ⊢
  clear K0 h
  go_enter Tryz.func119, Tryz.ntmps119
  go_upto_region 1 with fail
  rw [← hW]
  clear hW
  go_wp2_with fail
  refine KV.mono ?_
  rintro x w3 ⟨rfl, b3⟩
  clear KV y0 y1 y2 y3
  obtain ⟨y0, y1, y2, y3⟩ := unhide HK0 w3 b3
  go_wp2
  clear y0 y1 y2 y3
  go_loopw [3] (fun i wr => ∃ (k : Nat), k ≤ e.slots.length ∧ i = .int .i64 k ∧ Below W.heap.size W wr) (fun i _ => e.slots.length - (intOf i).toNat)
  case atStart => exact ⟨0, Nat.zero_le _, rfl, b3⟩
  case round =>
    clear b3
    obtain ⟨k, hk, rfl, hB⟩ := hrel
    obtain ⟨y0, y1, y2, y3⟩ := unhide HK0 wr hB
    by_cases hlt : k < e.slots.length
    · have i1 : (k : Int) < (e.slots.length : Int) := by omega
      obtain ⟨b, off, P0, d0, P1, d1, P2, d2, hA4, -, hbb, ⟨q0, -, -, -, -, -⟩, -, -, -⟩ := (unhide HR wr hB).slots.slt hlt
      rw [unhide HALL _ (List.getElem_mem hlt)] at q0
      have HA4 := hide hA4
      rw [hA4] at y3
      clear hA4
      rw [unhide HA4]
      go_wp2
      go_roundw
      case rel => exact ⟨k + 1, by omega, by go_num, hB⟩
      case measure => simp [intOf]; omega
    · obtain rfl : k = e.slots.length := by omega
      go_wp2
      go_ret
      exact ⟨rfl, bthen hb0 hB⟩
set_option maxRecDepth 100000 in
set_option maxHeartbeats 2000000 in
theorem triesOf_spec (e : Eng) (A1 : Option Addr) (c1 : Nat) (A2 : Option Addr) (c2 : Nat) (A3 : Option Addr) (c3 : Nat) (A4 : Option Addr) (c4 : Nat) (w : World) (h : EngRd w e A1 A2 A3 A4) (hok : EngOk e) :
    Calls Tryz.prog 70 #[.agg (engA e A1 c1 A2 c2 A3 c3 A4 c4)] w fun x w' => x = .returned (.int .i64 (trsF e)) ∧ Below w.heap.size w w' := by
  have HBD := hide (trsN_bd hok)
  have HTA := hide (trsN_all e)
  have hn10 := hok.len10
  obtain ⟨W, hW⟩ : ∃ W : World, W = w.alloc (.cells (engA e A1 c1 A2 c2 A3 c3 A4 c4) 96) := ⟨_, rfl⟩
  have hb0 : Below w.heap.size w W := by rw [hW]; exact (Below.refl _ _).alloc (Nat.le_refl _) _
  have K0 : Blk W w.heap.size 96 (engA e A1 c1 A2 c2 A3 c3 A4 c4) := by rw [hW]; exact Blk.new _ _ _
  have hW1 := K0.lt
  have HK0 := hide (fun (w' : World) (hb : Below W.heap.size W w') => (⟨(K0.new_ hb).cell 0, (K0.new_ hb).cell 1, (K0.new_ hb).cell 2, (K0.new_ hb).cell 3⟩ : w'.cell? ⟨w.heap.size, 0, none⟩ = some (.slice A1 e.base.length c1) ∧ w'.cell? ⟨w.heap.size, 1, none⟩ = some (.slice A2 e.list.length c2) ∧ w'.cell? ⟨w.heap.size, 2, none⟩ = some (.slice A3 e.vers.length c3) ∧ w'.cell? ⟨w.heap.size, 3, none⟩ = some (.slice A4 e.slots.length c4)))
  have HR := hide (fun (w' : World) (hb : Below W.heap.size W w') => h.new (bthen hb0 hb))
  obtain ⟨y0, y1, y2, y3⟩ := unhide HK0 W (Below.refl _ _)
  have KV := engineValid_spec e A1 c1 A2 c2 A3 c3 A4 c4 W (h.new hb0) hok
  clear hok
  simp only [engA] at hW KV ⊢
  clear K0 h
  go_enter Tryz.func70, Tryz.ntmps70
  go_upto_region 1 with fail
  rw [← hW]
  clear hW
  go_wp2_with fail
  refine KV.mono ?_
  rintro x w3 ⟨rfl, b3⟩
  clear KV y0 y1 y2 y3
  obtain ⟨y0, y1, y2, y3⟩ := unhide HK0 w3 b3
  go_wp2
  clear y0 y1 y2 y3
  go_loopw [3, 4] (fun t i wr => ∃ (k : Nat), k ≤ e.slots.length ∧ i = .int .i64 k ∧ t = .int .i64 (trsN e k) ∧ Below W.heap.size W wr) (fun _ i _ => e.slots.length - (intOf i).toNat)
  case atStart => exact ⟨0, Nat.zero_le _, rfl, rfl, b3⟩
  case round =>
    clear b3
    obtain ⟨k, hk, rfl, rfl, hB⟩ := hrel
    obtain ⟨y0, y1, y2, y3⟩ := unhide HK0 wr hB
    have hbd := unhide HBD k hk
    by_cases hlt : k < e.slots.length
    · have i1 : (k : Int) < (e.slots.length : Int) := by omega
      have hbd2 := unhide HBD (k + 1) hlt
      obtain ⟨b, off, P0, d0, P1, d1, P2, d2, hA4, -, hbb, ⟨-, q1, -, -, -, -⟩, -, -, -⟩ := (unhide HR wr hB).slots.slt hlt
      have HT := hide (trsN_succ e hlt)
      rw [trsN_succ e hlt] at hbd2
      rw [← slAt_get e hlt] at q1
      generalize slAt e k = s at *
      generalize trsN e k = t at *
      have HA4 := hide hA4
      rw [hA4] at y3
      clear hA4
      rw [unhide HA4]
      go_wp2
      go_roundw
      case rel => exact ⟨k + 1, by omega, by go_num, by rw [unhide HT], hB⟩
      case measure => simp [intOf]; omega
    · obtain rfl : k = e.slots.length := by omega
      rw [unhide HTA]
      go_wp2
      go_ret
      exact ⟨rfl, bthen hb0 hB⟩
set_option maxRecDepth 100000 in
set_option maxHeartbeats 4000000 in
theorem versionsValid_spec (A : Option Addr) (c : Nat) (vs : List Ver) (w : World) (h : Rd w A (vs.flatMap encV)) (hb : vs.length ≤ 1000000) (hs : srtV vs) (hbd : ∀ x ∈ vs, (0 ≤ x.k ∧ x.k ≤ 31) ∧ (0 ≤ x.n ∧ x.n ≤ 9) ∧ 0 ≤ x.v ∧ x.v ≤ 1000000) :
    Calls Tryz.prog 160 #[.slice A vs.length c] w fun e w' => e = .returned (.bool true) ∧ Below w.heap.size w w' := by
  have HS := hide hs
  have HBD := hide hbd
  clear hs hbd
  go_enter Tryz.func160, Tryz.ntmps160
  go_wp2
  go_loopw [3, 4] (fun i _ wr => ∃ (k : Nat), k ≤ vs.length ∧ i = .int .i64 k ∧ Below w.heap.size w wr) (fun i _ _ => vs.length - (intOf i).toNat)
  case atStart => exact ⟨0, Nat.zero_le _, rfl, Below.refl _ _⟩
  case round =>
    obtain ⟨k, hk, rfl, hB⟩ := hrel
    by_cases hlt : k < vs.length
    · have i1 : (k : Int) < (vs.length : Int) := by omega
      obtain ⟨b, off, hA, hbb, d0, d1, d2⟩ := (h.new hB).ver hlt
      have hx := unhide HBD vs[k] (List.getElem_mem hlt)
      have HPREV := hide (fun (p : Nat) (hp : p + 1 = k) => show ∃ y : Ver, (wr.cell? ⟨b, off + p * 3, none⟩ = some (.int .i64 y.k) ∧ wr.cell? ⟨b, off + p * 3 + 1, none⟩ = some (.int .i64 y.n)) ∧ ltV y vs[k] from by
        obtain ⟨b', off', hA', -, z0, z1, z2⟩ := (h.new hB).ver (show p < vs.length by omega)
        rw [hA] at hA'
        injection hA' with hA'
        injection hA' with h8 h9
        subst h8
        subst h9
        exact ⟨vs[p], ⟨z0, z1⟩, List.pairwise_iff_getElem.1 (unhide HS) p k (by omega) hlt (by omega)⟩)
      generalize vs[k] = x at *
      have HA := hide hA
      clear hA
      rw [unhide HA]
      have t1 : inB x.k 0 31 = true := inB_true.2 hx.1
      have t2 : inB x.n 0 9 = true := inB_true.2 hx.2.1
      have t3 : inB x.v 0 1000000 = true := inB_true.2 hx.2.2
      obtain ⟨V, hV⟩ : ∃ V : World, V = wr.alloc (.cells #[.int .i64 x.k, .int .i64 x.n, .int .i64 x.v] 166) := ⟨_, rfl⟩
      have bwV : Below wr.heap.size wr V := by rw [hV]; exact (Below.refl _ _).alloc (Nat.le_refl _) _
      have KX : Blk V wr.heap.size 166 #[.int .i64 x.k, .int .i64 x.n, .int .i64 x.v] := by rw [hV]; exact Blk.new _ _ _
      have x0 : V.cell? ⟨wr.heap.size, 0, none⟩ = some (.int .i64 x.k) := KX.cell 0
      have x1 : V.cell? ⟨wr.heap.size, 1, none⟩ = some (.int .i64 x.n) := KX.cell 1
      have x2 : V.cell? ⟨wr.heap.size, 2, none⟩ = some (.int .i64 x.v) := KX.cell 2
      have HV := hide hV
      clear KX hV hx
      go_upto_region 5 with fail
      rw [← unhide HV]
      clear d0 d1 d2
      by_cases hz : k = 0
      · have hz1 : decide (0 < k) = false := by simp [hz]
        clear hz
        go_wp2_with (go_at_call 93; refine (l1In_any _ _ _ _).mono ?_; rintro x w' ⟨rfl, rfl⟩)
        go_quiet (fail)
        go_wp2
        go_roundw
        case rel => exact ⟨k + 1, by omega, by go_num, below_drewN (bthen hB bwV) _⟩
        case measure => simp [intOf]; omega
      · obtain ⟨p, rfl⟩ : ∃ p, k = p + 1 := ⟨k - 1, by omega⟩
        rw [show ((p + 1 : Nat) : Int) = (p : Int) + 1 by omega] at i1 ⊢
        have hz1 : decide (0 < p + 1) = true := by simp
        obtain ⟨y, ⟨z0, z1⟩, hyx⟩ := unhide HPREV p rfl
        have c0 := (bwV.cell (p := ⟨b, off + p * 3, none⟩) hbb).trans z0
        have c1 := (bwV.cell (p := ⟨b, off + p * 3 + 1, none⟩) hbb).trans z1
        have i2 : (p : Int) < (vs.length : Int) := by omega
        unfold ltV at hyx
        clear z0 z1 hz
        by_cases hk : y.k = x.k
        · have g1 : decide (x.k < y.k) = false := by simp; omega
          have g2 : (x.k == y.k) = true := by simp [hk]
          have g3 : decide (x.n ≤ y.n) = false := by simp; omega
          clear hk hyx
          go_wp2_with (go_at_call 93; refine (l1In_any _ _ _ _).mono ?_; rintro x w' ⟨rfl, rfl⟩)
          go_quiet (fail)
          go_wp2
          go_roundw
          case rel => exact ⟨p + 1 + 1, by omega, by go_num, below_drewN (bthen hB bwV) _⟩
          case measure => simp [intOf]; omega
        · have g1 : decide (x.k < y.k) = false := by simp; omega
          have g2 : (x.k == y.k) = false := by simp; omega
          clear hk hyx
          go_wp2_with (go_at_call 93; refine (l1In_any _ _ _ _).mono ?_; rintro x w' ⟨rfl, rfl⟩)
          go_quiet (fail)
          go_wp2
          go_roundw
          case rel => exact ⟨p + 1 + 1, by omega, by go_num, below_drewN (bthen hB bwV) _⟩
          case measure => simp [intOf]; omega
    · obtain rfl : k = vs.length := by omega
      go_wp2
      go_ret
      exact ⟨rfl, hB⟩
theorem nowV_get32 (s : List Ent) (vs : List Ver) (k : Nat) (hk : k < 32) : (nowV s vs 10).getD k 0 = (readV s vs (k : Int) 10).1 := nowV_get s vs 10 k hk
set_option maxRecDepth 100000 in
set_option maxHeartbeats 4000000 in
theorem lastVersions_spec (A : Option Addr) (c : Nat) (s : List Ent) (B : Option Addr) (d : Nat) (vs : List Ver) (w : World) (ha : Rd w A (s.flatMap encE)) (hsb : storeB s = true) (h : Rd w B (vs.flatMap encV)) (hb : vs.length ≤ 1000000) (hs : srtV vs) (hbd : ∀ x ∈ vs, (0 ≤ x.k ∧ x.k ≤ 31) ∧ (0 ≤ x.n ∧ x.n ≤ 9) ∧ 0 ≤ x.v ∧ x.v ≤ 1000000) :
    Calls Tryz.prog 121 #[.slice A s.length c, .slice B vs.length d] w fun e w' => ∃ A' c', e = .returned (.slice A' (storeL (nowV s vs 10)).length c') ∧ w'.ownsRow w.heap.size 79 2 (.slice A' (storeL (nowV s vs 10)).length c') (storeL (nowV s vs 10)).length ((storeL (nowV s vs 10)).flatMap encE) ∧ Below w.heap.size w w' := by
  have hsl := store_len hsb
  have HKS := hide (fun (w' : World) (hb : Below w.heap.size w w') => show Calls Tryz.prog 48 #[.slice A s.length c] w' fun e w'' => e = .returned (.bool true) ∧ ∃ m, w'.drewN m = w'' from hsb ▸ storeB_store_spec A c s w' (ha.new hb) (by omega))
  have HKV := hide (fun (w' : World) (hb : Below w.heap.size w w') => versionsValid_spec B d vs w' (h.new hb) (by omega) hs hbd)
  have HRV := hide (fun (key : Int) (w' : World) (hb : Below w.heap.size w w') => read_spec A c s B d vs key 10 w' (ha.new hb) (by omega) (h.new hb) (by omega))
  have HL := hide (show storeL (nowV s vs 10) = stGo (nowV s vs 10) 32 from rfl)
  have HLN := hide (fun (k : Nat) => show (stGo (nowV s vs 10) k).length ≤ k from by
    induction k with
    | zero => exact Nat.le_refl _
    | succ k ih =>
      rw [stGo, List.length_append]
      split
      · simp; omega
      · simp; omega)
  clear hs hbd hsb ha h
  go_enter Tryz.func121, Tryz.ntmps121
  go_wp2
  go_loopw [5, 6, 7, 8] (fun r i _ _ wr => ∃ (k : Nat) (A' : Option Addr) (c' : Nat), k ≤ 32 ∧ i = .int .i64 k ∧ r = .slice A' (stGo (nowV s vs 10) k).length c' ∧ wr.ownsRow w.heap.size 79 2 (.slice A' (stGo (nowV s vs 10) k).length c') (stGo (nowV s vs 10) k).length ((stGo (nowV s vs 10) k).flatMap encE) ∧ Below w.heap.size w wr) (fun _ i _ _ _ => 32 - (intOf i).toNat)
  case atStart => exact ⟨0, _, _, Nat.zero_le _, rfl, rfl, own_made w #[] 0 (Nat.le_refl _) (by simp [maxLen]) rfl, (Below.refl _ _).alloc (Nat.le_refl _) _⟩
  case round =>
    obtain ⟨k, A', c', hk, rfl, rfl, hown, hB⟩ := hrel
    obtain ⟨wo, hwo⟩ : ∃ wo, wo = wr := ⟨_, rfl⟩
    rw [← hwo] at hown hB ⊢
    clear hwo
    by_cases hlt : k < 32
    · have i1 : decide ((k : Int) ≤ 31) = true := by simp; omega
      have HST := hide (show stGo (nowV s vs 10) (k + 1) = stGo (nowV s vs 10) k ++ (if 0 < (readV s vs (k : Int) 10).1 then [⟨(k : Int), (readV s vs (k : Int) 10).1⟩] else []) by rw [stGo, nowV_get32 _ _ _ hlt])
      have hgl := unhide HLN k
      generalize stGo (nowV s vs 10) k = gs at *
      go_wp2_with fail
      refine (unhide HKS wo hB).mono ?_
      rintro x w1 ⟨rfl, m, hm⟩
      have b1 : Below wo.heap.size wo w1 := by rw [← hm]; exact below_drewN (Below.refl _ _) m
      have own1 := own_new hown b1
      have hB1 := bthen hB b1
      clear hm
      go_wp2_with fail
      refine (unhide HKV w1 hB1).mono ?_
      rintro x w2 ⟨rfl, b2⟩
      have own2 := own_new own1 b2
      have hB2 := bthen hB1 b2
      have hrg := own_rng own2
      have hw2 := hB2.size
      go_wp2_with fail
      refine (unhide HRV (k : Int) w2 hB2).mono ?_
      rintro x w' ⟨rfl, rfl⟩
      by_cases hv : 0 < (readV s vs (k : Int) 10).1
      · have HS2 := hide ((unhide HST).trans (by rw [if_pos hv]))
        have t1 : decide (0 < (readV s vs (k : Int) 10).1) = true := by simp [hv]
        clear hv
        go_wp2_with (at_builtin; refine wpList_app rfl (.tmp 31) (.tmp 35) 34 rfl el_ent rfl (own_alloc own2 _) rfl (rd_lit w2 [.int .i64 (k : Int), .int .i64 (readV s vs (k : Int) 10).1] _) rfl (one_ents [⟨(k : Int), (readV s vs (k : Int) 10).1⟩]) (by simp only [maxLen]; omega) (by omega) (by simp; omega) ?_; intro A9 c9 w9 o9 ch9 _ _)
        have b9 : Below w.heap.size w w9 := (hB2.alloc hw2 _).trans (ch9.below (fun q hq e => by have := hrg q e; omega) (by simp; omega))
        rw [snoc_ents] at o9
        go_roundw
        case rel => exact ⟨k + 1, A9, c9, by omega, by go_num, by rw [unhide HS2]; simp, by rw [unhide HS2]; simpa using o9, b9⟩
        case measure => simp [intOf]; omega
      · have HS2 := hide ((unhide HST).trans (by rw [if_neg hv, List.append_nil]))
        have t1 : decide (0 < (readV s vs (k : Int) 10).1) = false := by simp [hv]
        clear hv
        go_wp2
        go_roundw
        case rel => exact ⟨k + 1, A', c', by omega, by go_num, by rw [unhide HS2], by rw [unhide HS2]; exact own2, hB2⟩
        case measure => simp [intOf]; omega
    · obtain rfl : k = 32 := by omega
      rw [← unhide HL] at hown ⊢
      go_wp2
      go_ret
      exact ⟨A', c', rfl, hown, hB⟩
set_option maxRecDepth 100000 in
set_option maxHeartbeats 4000000 in
theorem engineResult_spec (e : Eng) (A1 : Option Addr) (c1 : Nat) (A2 : Option Addr) (c2 : Nat) (A3 : Option Addr) (c3 : Nat) (A4 : Option Addr) (c4 : Nat) (w : World) (h : EngRd w e A1 A2 A3 A4) (hok : EngOk e) (hall : ∀ x ∈ e.slots, x.stage = 2) :
    Calls Tryz.prog 69 #[.agg (engA e A1 c1 A2 c2 A3 c3 A4 c4)] w fun x w' => ∃ A c B d, x = .returned (.tuple #[.slice A (storeL (nowV e.base e.vers 10)).length c, .slice B e.slots.length d, .bool true]) ∧ Rd w' A ((storeL (nowV e.base e.vers 10)).flatMap encE) ∧ RdD effR (fun _ => True) w' B (e.slots.map (·.res)) ∧ Below w.heap.size w w' := by
  have hvl := hok.vlen
  have HSL := hide (fun (n : Nat) (hn : n < e.slots.length) => slot_len (hok.slot n hn))
  have HOK := hide hok
  have HALL := hide hall
  clear hall
  have hn10 := hok.len10
  obtain ⟨W, hW⟩ : ∃ W : World, W = w.alloc (.cells (engA e A1 c1 A2 c2 A3 c3 A4 c4) 96) := ⟨_, rfl⟩
  have hb0 : Below w.heap.size w W := by rw [hW]; exact (Below.refl _ _).alloc (Nat.le_refl _) _
  have K0 : Blk W w.heap.size 96 (engA e A1 c1 A2 c2 A3 c3 A4 c4) := by rw [hW]; exact Blk.new _ _ _
  have hW1 := K0.lt
  have HK0 := hide (fun (w' : World) (hb : Below W.heap.size W w') => (⟨(K0.new_ hb).cell 0, (K0.new_ hb).cell 1, (K0.new_ hb).cell 2, (K0.new_ hb).cell 3⟩ : w'.cell? ⟨w.heap.size, 0, none⟩ = some (.slice A1 e.base.length c1) ∧ w'.cell? ⟨w.heap.size, 1, none⟩ = some (.slice A2 e.list.length c2) ∧ w'.cell? ⟨w.heap.size, 2, none⟩ = some (.slice A3 e.vers.length c3) ∧ w'.cell? ⟨w.heap.size, 3, none⟩ = some (.slice A4 e.slots.length c4)))
  have HR := hide (fun (w' : World) (hb : Below W.heap.size W w') => h.new (bthen hb0 hb))
  obtain ⟨y0, y1, y2, y3⟩ := unhide HK0 W (Below.refl _ _)
  have KV := engineDone_spec e A1 c1 A2 c2 A3 c3 A4 c4 W (h.new hb0) hok (unhide HALL)
  clear hok
  simp only [engA] at hW KV ⊢
  clear K0 h
  go_enter Tryz.func69, Tryz.ntmps69
  go_upto_region 1 with fail
  rw [← hW]
  clear hW
  go_wp2_with fail
  refine KV.mono ?_
  rintro x w3 ⟨rfl, b3⟩
  clear KV y0 y1 y2 y3
  obtain ⟨y0, y1, y2, y3⟩ := unhide HK0 w3 b3
  have b4 : Below W.heap.size W (w3.alloc (.cells #[] 107)) := b3.alloc b3.size _
  have oe := own_made (base := W.heap.size) (e := 107) (size := 3) w3 #[] 0 b3.size (by simp [maxLen]) rfl
  go_wp2
  clear y0 y1 y2 y3
  go_loopw [5, 6] (fun t i wr => ∃ (k : Nat) (A' : Option Addr) (c' : Nat) (vs : List (List Value)), k ≤ e.slots.length ∧ i = .int .i64 k ∧ t = .slice A' k c' ∧ AllR effR (Off W.heap.size A') wr ((e.slots.take k).map (·.res)) vs ∧ wr.ownsRow W.heap.size 107 3 (.slice A' k c') k vs.flatten ∧ Below W.heap.size W wr) (fun _ i _ => e.slots.length - (intOf i).toNat)
  case atStart => exact ⟨0, _, _, [], Nat.zero_le _, rfl, rfl, trivial, by simpa using oe, b4⟩
  case round =>
    clear b3 b4 oe
    obtain ⟨k, A', c', vs, hk, rfl, rfl, hall, hown, hB⟩ := hrel
    have hwr := hB.size
    obtain ⟨y0, y1, y2, y3⟩ := unhide HK0 wr hB
    by_cases hlt : k < e.slots.length
    · have i1 : (k : Int) < (e.slots.length : Int) := by omega
      obtain ⟨b, off, P0, d0, P1, d1, P2, d2, hA4, -, hbb, ⟨q0, q1, q2, q3, q4, q5⟩, r0, r1, r2⟩ := (unhide HR wr hB).slots.slt hlt
      have hsl := unhide HSL k hlt
      rw [slAt_get e hlt] at hsl
      have HT := hide (show (e.slots.take (k + 1)).map (·.res) = (e.slots.take k).map (·.res) ++ [e.slots[k].res] by rw [List.take_succ_eq_append_getElem hlt, List.map_append]; rfl)
      generalize e.slots[k] = s at *
      have HA4 := hide hA4
      rw [hA4] at y3
      clear hA4 r0
      rw [unhide HA4]
      have KE := effCopy_spec s.res P1 d1 P2 d2 wr r1.rd r2.rd (by omega) (by omega)
      have HRG := hide (own_rng hown)
      go_wp2_with fail
      refine KE.mono ?_
      rintro x w4 ⟨X1, e1, X2, e2, rfl, cp1, cp2, o1, o2, b4⟩
      clear KE r1 r2
      have oq := own_new hown b4
      have hs4 := b4.size
      go_wp2_with (at_builtin; refine wpList_app rfl (.tmp 20) (.tmp 28) 57 rfl el_eff rfl (own_alloc oq _) rfl (rd_lit w4 (effV s.res X1 e1 X2 e2) _) rfl (one_effs _ _ _ _ _) (by simp only [maxLen]; omega) (by omega) (by simp; omega) ?_; intro A8 c8 w8 o8 ch8 d8 _)
      have hx : effR (fun q => wr.heap.size ≤ q) s.res w4 (effV s.res X1 e1 X2 e2) := ⟨X1, e1, X2, e2, rfl, cp1, cp2, o1, o2⟩
      have hall4 := hall.keep eff_good (Kp.below (P := Off W.heap.size A') b4)
      have hall8 := deep_app eff_good hall4 hx hwr (fun q hq => unhide HRG q hq) ch8 d8
      have hB8 : Below W.heap.size W w8 := ((bthen hB b4).alloc (by omega) _).trans (ch8.below (fun q hq e => by have := unhide HRG q e; omega) (by simp; omega))
      go_roundw
      case rel => exact ⟨k + 1, A8, c8, _, by omega, by go_num, rfl, by rw [unhide HT]; exact hall8, by rw [List.flatten_append]; simpa [effV] using o8, hB8⟩
      case measure => simp [intOf]; omega
    · obtain rfl : k = e.slots.length := by omega
      rw [List.take_length] at hall
      have hrd := unhide HR wr hB
      have hOK := unhide HOK
      have HRE := hide (show RdD effR (fun _ => True) wr A' (e.slots.map (·.res)) from ⟨vs, hall.mono eff_good fun _ _ _ => trivial, RdP.of_rd (own_rd hown) fun _ _ _ => trivial⟩)
      have KL := lastVersions_spec A1 c1 e.base A3 c3 e.vers wr hrd.base hOK.base hrd.vers (by omega) hOK.srt hOK.bd10
      clear hall hown hrd hOK
      go_wp2_with fail
      refine KL.mono ?_
      rintro x w4 ⟨A9, c9, rfl, o9, b9⟩
      have r9 := own_rd o9
      go_wp2
      go_ret3
      exact ⟨A9, c9, A', c', rfl, r9, (unhide HRE).new eff_good b9, bthen hb0 (bthen hB b9)⟩
end Go.Proofs.YtihlhejencninaaGreat
