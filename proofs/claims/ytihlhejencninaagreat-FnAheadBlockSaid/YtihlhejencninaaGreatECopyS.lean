/- Copies of engines, of the reference (printed by gen_in.py from xecopys.in). -/
import Derived.Test.YtihlhejencninaaGreatETryS
namespace Go.Proofs.YtihlhejencninaaGreat
open Go.RowKit
set_option linter.unusedVariables false
set_option linter.unusedSimpArgs false

set_option maxRecDepth 100000 in
set_option maxHeartbeats 8000000 in
theorem ecopy_spec (e : Eng) (A1 : Option Addr) (c1 : Nat) (A2 : Option Addr) (c2 : Nat) (A3 : Option Addr) (c3 : Nat) (A4 : Option Addr) (c4 : Nat) (w : World) (h : EngRd w e A1 A2 A3 A4) (hok : EngOk e) :
    Calls Tryz.prog 117 #[.agg (engA e A1 c1 A2 c2 A3 c3 A4 c4)] w fun x w' => ∃ B1 d1 B2 d2 B3 d3 B4 d4, x = .returned (.agg (engA e B1 d1 B2 d2 B3 d3 B4 d4)) ∧ EngOwn (fun k => w.heap.size ≤ k ∧ B4 ≠ some ⟨k, 0, none⟩) w.heap.size w' e B1 B2 B3 B4 d4 ∧ Below w.heap.size w w' := by
  have hbl := hok.base_len
  have hvl := hok.vlen
  have hn10 := hok.len10
  have hll : e.list.length ≤ 10 := by rw [← hok.len]; exact hn10
  have HSL := hide (fun (n : Nat) (hn : n < e.slots.length) => slot_len (hok.slot n hn))
  obtain ⟨W, hW⟩ : ∃ W : World, W = (w.alloc (.cells (engA e A1 c1 A2 c2 A3 c3 A4 c4) 96)).alloc (.cells #[.slice none 0 0, .slice none 0 0, .slice none 0 0, .slice none 0 0] 96) := ⟨_, rfl⟩
  have hb0 : Below w.heap.size w W := by rw [hW]; exact ((Below.refl _ _).alloc (Nat.le_refl _) _).alloc (by simp) _
  have K0 : Blk W w.heap.size 96 (engA e A1 c1 A2 c2 A3 c3 A4 c4) := by rw [hW]; exact (Blk.new _ _ _).alloc _
  have K1 : Blk W (w.heap.size + 1) 96 #[.slice none 0 0, .slice none 0 0, .slice none 0 0, .slice none 0 0] := by
    rw [hW]
    have := Blk.new (w.alloc (.cells (engA e A1 c1 A2 c2 A3 c3 A4 c4) 96)) 96 #[.slice none 0 0, .slice none 0 0, .slice none 0 0, .slice none 0 0]
    simpa using this
  have hW1 := K1.lt
  simp only [engA] at K0 hW ⊢
  have HX := hide (fun (w' : World) (hb : Below W.heap.size W w') => show w'.cell? ⟨w.heap.size, 0, none⟩ = some (.slice A1 e.base.length c1) ∧ w'.cell? ⟨w.heap.size, 1, none⟩ = some (.slice A2 e.list.length c2) ∧ w'.cell? ⟨w.heap.size, 2, none⟩ = some (.slice A3 e.vers.length c3) ∧ w'.cell? ⟨w.heap.size, 3, none⟩ = some (.slice A4 e.slots.length c4) ∧ EngRd w' e A1 A2 A3 A4 from ⟨(K0.new_ hb).cell 0, (K0.new_ hb).cell 1, (K0.new_ hb).cell 2, (K0.new_ hb).cell 3, h.new (bthen hb0 hb)⟩)
  have HK1 := hide (fun (w' : World) (hb : Below W.heap.size W w') => K1.new_ hb)
  clear h K0 K1 hok
  go_enter Tryz.func117, Tryz.ntmps117
  go_wp2
  rw [← hW]
  have hF : StBL [eOwn 79 2 W.heap.size, bV (.pointer (some ⟨w.heap.size, 0, none⟩)), bV (.slice A1 e.base.length c1), sOwn W.heap.size e.base, eOwn 56 4 W.heap.size, bV (.pointer (some ⟨w.heap.size, 1, none⟩)), bV (.slice A2 e.list.length c2), acOwn W.heap.size e.list, eOwn 166 3 W.heap.size, bV (.pointer (some ⟨w.heap.size, 2, none⟩)), bV (.slice A3 e.vers.length c3), vOwn W.heap.size e.vers, engB W.heap.size e, newBox W.heap.size 96 #[.slice none 0 0, .slice none 0 0, .slice none 0 0, .slice none 0 0]] :=
    ⟨sb_eOwn _ _ _, sb_V _, sb_V _, sb_Own _ _, sb_eOwn _ _ _, sb_V _, sb_V _, sb_acOwn _ _, sb_eOwn _ _ _, sb_V _, sb_V _, sb_vOwn _ _, sb_engB _ _, sb_newBox _ _ _, trivial⟩
  go_upto_region 1 with fail
  refine wp_region_loc (by kernel_rfl) [(0, some 6), (1, some 7), (2, some 8), (3, some 9), (4, some 10), (5, some 11), (6, some 12), (7, some 13), (8, some 14), (9, some 15), (10, some 16), (11, some 17), (12, some 18), (13, some 3)] [[], [], [(1, some 7)], [(0, some 6), (2, some 8)], [], [], [(5, some 11)], [(4, some 10), (6, some 12)], [], [], [(9, some 15)], [(8, some 14), (10, some 16)], [(3, some 9), (7, some 13), (11, some 17)], []] (by kernel_rfl)
    (locB _) (fun a b => Below a.heap.size a b) noR [0, 0, 0, 0, 0, 0, 0, 0, 0, 0, 0, 0, 0, 0] 0 (by kernel_rfl) (fun _ => Below.refl _ _) (fun _ _ _ => bthen) (locB_st hF _) trivial ?_ ?_
  · refine steps_cons ?s0 ( steps_cons ?s1 ( steps_cons ?s2 ( steps_cons ?s3 ( steps_cons ?s4 ( steps_cons ?s5 ( steps_cons ?s6 ( steps_cons ?s7 ( steps_cons ?s8 ( steps_cons ?s9 ( steps_cons ?s10 ( steps_cons ?s11 ( steps_cons ?s12 ( steps_cons ?s13 steps_nil)))))))))))))
    case s0 =>
      intro w' m' hE hR
      intro Q hQ
      have hsz := hE.size
      go_wp2
      exact hQ _ _ _ rfl ⟨_, rfl, by simpa using own_made (base := W.heap.size) (e := 79) (size := 2) w' #[] 0 hsz (by simp [maxLen]) rfl⟩ ((Below.refl _ _).alloc (Nat.le_refl _) _) trivial
    case s1 =>
      intro w' m' hE hR
      intro Q hQ
      go_wp2
      exact hQ _ _ _ rfl rfl (Below.refl _ _) trivial
    case s2 =>
      intro w' m' hE hR
      rintro _ rfl Q hQ
      obtain ⟨y0, y1, y2, y3, y4⟩ := unhide HX w' (below_undrew hE)
      go_wp2
      exact hQ _ _ _ rfl rfl (Below.refl _ _) trivial
    case s3 =>
      intro w' m' hE hR
      rintro _ ⟨A', rfl, oA⟩ _ rfl Q hQ
      obtain ⟨y0, y1, y2, y3, y4⟩ := unhide HX w' (below_undrew hE)
      have hsz := hE.size
      refine wpList_app0 rfl (.tmp 6) (.tmp 8) 34 rfl el_ent rfl oA rfl y4.base (length_flat encE 2 encE_len e.base) (one_ents e.base) (by simp only [maxLen]; omega) (by omega) hsz ?_
      intro A9 c9 w2 o2 b2
      go_wp2
      exact hQ _ _ _ rfl ⟨A9, c9, rfl, o2⟩ b2 trivial
    case s4 =>
      intro w' m' hE hR
      intro Q hQ
      have hsz := hE.size
      go_wp2
      exact hQ _ _ _ rfl ⟨_, rfl, by simpa using own_made (base := W.heap.size) (e := 56) (size := 4) w' #[] 0 hsz (by simp [maxLen]) rfl⟩ ((Below.refl _ _).alloc (Nat.le_refl _) _) trivial
    case s5 =>
      intro w' m' hE hR
      intro Q hQ
      go_wp2
      exact hQ _ _ _ rfl rfl (Below.refl _ _) trivial
    case s6 =>
      intro w' m' hE hR
      rintro _ rfl Q hQ
      obtain ⟨y0, y1, y2, y3, y4⟩ := unhide HX w' (below_undrew hE)
      go_wp2
      exact hQ _ _ _ rfl rfl (Below.refl _ _) trivial
    case s7 =>
      intro w' m' hE hR
      rintro _ ⟨A', rfl, oA⟩ _ rfl Q hQ
      obtain ⟨y0, y1, y2, y3, y4⟩ := unhide HX w' (below_undrew hE)
      have hsz := hE.size
      refine wpList_app0 rfl (.tmp 10) (.tmp 12) 30 rfl el_actz rfl oA rfl y4.list (len_acts e.list) (one_acts2 e.list) (by simp only [maxLen]; omega) (by omega) hsz ?_
      intro A9 c9 w2 o2 b2
      go_wp2
      exact hQ _ _ _ rfl ⟨A9, c9, rfl, o2⟩ b2 trivial
    case s8 =>
      intro w' m' hE hR
      intro Q hQ
      have hsz := hE.size
      go_wp2
      exact hQ _ _ _ rfl ⟨_, rfl, by simpa using own_made (base := W.heap.size) (e := 166) (size := 3) w' #[] 0 hsz (by simp [maxLen]) rfl⟩ ((Below.refl _ _).alloc (Nat.le_refl _) _) trivial
    case s9 =>
      intro w' m' hE hR
      intro Q hQ
      go_wp2
      exact hQ _ _ _ rfl rfl (Below.refl _ _) trivial
    case s10 =>
      intro w' m' hE hR
      rintro _ rfl Q hQ
      obtain ⟨y0, y1, y2, y3, y4⟩ := unhide HX w' (below_undrew hE)
      go_wp2
      exact hQ _ _ _ rfl rfl (Below.refl _ _) trivial
    case s11 =>
      intro w' m' hE hR
      rintro _ ⟨A', rfl, oA⟩ _ rfl Q hQ
      obtain ⟨y0, y1, y2, y3, y4⟩ := unhide HX w' (below_undrew hE)
      have hsz := hE.size
      refine wpList_app0 rfl (.tmp 14) (.tmp 16) 93 rfl el_ver rfl oA rfl y4.vers (length_flat encV 3 (fun _ => rfl) e.vers) (one_vers e.vers) (by simp only [maxLen]; omega) (by omega) hsz ?_
      intro A9 c9 w2 o2 b2
      go_wp2
      exact hQ _ _ _ rfl ⟨A9, c9, rfl, o2⟩ b2 trivial
    case s12 =>
      intro w' m' hE hR
      rintro _ ⟨B1, d1, rfl, o1⟩ _ ⟨B2, d2, rfl, o2⟩ _ ⟨B3, d3, rfl, o3⟩ Q hQ
      go_wp2
      exact hQ _ _ _ rfl ⟨B1, d1, B2, d2, B3, d3, rfl, o1, o2, o3⟩ (Below.refl _ _) trivial
    case s13 =>
      intro w' m' hE hR
      intro Q hQ
      have hsz := hE.size
      go_wp2
      exact hQ _ _ _ rfl ⟨w'.heap.size, rfl, hsz, Blk.new _ _ _⟩ ((Below.refl _ _).alloc (Nat.le_refl _) _) trivial
  intro w9 hE _
  rintro v0 - v1 - v2 - v3 - v4 - v5 - v6 - v7 - v8 - v9 - v10 - v11 - v12 ⟨B1, d1, B2, d2, B3, d3, rfl, o1, o2, o3⟩ v13 ⟨g, rfl, hg, kg⟩
  change wpList _ _ _ [_] _ _
  simp only [Act.put, List.setIfInBounds_toArray, List.set_cons_succ, List.set_cons_zero]
  have b9 := below_undrew hE
  have hgl := kg.lt
  have r1 := own_off o1 kg ne_eng.1
  have r2 := own_off o2 kg ne_eng.2.1
  have r3 := own_off o3 kg ne_eng.2.2.1
  clear o1 o2 o3 hE hF
  go_wp2_with (refine wpList_store_row rfl 96 (.tmp 3) (.tmp 18) rfl g #[.slice B1 e.base.length d1, .slice B2 e.list.length d2, .slice B3 e.vers.length d3, .slice none 0 0] rfl rfl 96 #[.slice none 0 0, .slice none 0 0, .slice none 0 0, .slice none 0 0] kg info_eng4 rfl (sl4_one _ _ _ _ _ _ _ _ _ _ _ _) ?_; refine at_world (C := fun W => wpList _ _ _ _ _ W) (F := fun W2 => Blk W2 g 96 #[.slice B1 e.base.length d1, .slice B2 e.list.length d2, .slice B3 e.vers.length d3, .slice none 0 0] ∧ Below W.heap.size W W2 ∧ Chg (fun q => q = g) w9 W2 ∧ g < W2.heap.size) ⟨blk_setRow kg, below_setRow b9 hg _, ⟨rfl, rfl, rfl, by rw [size_setRow]; exact Nat.le_refl _, fun k _ hk => setRow_other w9 g k _ hk⟩, by rw [size_setRow]; exact hgl⟩ ?_; rintro W2 ⟨kg2, b2, ch2, hg2⟩; obtain ⟨y0, y1, y2, y3, -⟩ := unhide HX W2 b2)
  have HB := hide (show RdP (fun k => W.heap.size ≤ k ∧ k < W2.heap.size ∧ k ≠ g) W2 B1 (e.base.flatMap encE) ∧ RdP (fun k => W.heap.size ≤ k ∧ k < W2.heap.size ∧ k ≠ g) W2 B2 (e.list.flatMap encA) ∧ RdP (fun k => W.heap.size ≤ k ∧ k < W2.heap.size ∧ k ≠ g) W2 B3 (e.vers.flatMap encV) from
    ⟨(r1.keep (Kp.chg ch2 fun k hk => hk.2)).mono fun k hk hkw => ⟨hk.1, hkw, hk.2⟩, (r2.keep (Kp.chg ch2 fun k hk => hk.2)).mono fun k hk hkw => ⟨hk.1, hkw, hk.2⟩, (r3.keep (Kp.chg ch2 fun k hk => hk.2)).mono fun k hk hkw => ⟨hk.1, hkw, hk.2⟩⟩)
  have hW2 := b2.size
  have HG := hide hg
  clear kg r1 r2 r3 ch2 b9 hgl hg
  go_wp2
  go_loopw [4] (fun i wr => ∃ (k : Nat) (A' : Option Addr) (c' : Nat) (vs : List (List Value)), k ≤ e.slots.length ∧ i = .int .i64 k ∧ AllR sltR (Off W2.heap.size A') wr (e.slots.take k) vs ∧ wr.ownsRow W2.heap.size 141 6 (.slice A' k c') k vs.flatten ∧ Blk wr g 96 #[.slice B1 e.base.length d1, .slice B2 e.list.length d2, .slice B3 e.vers.length d3, .slice A' k c'] ∧ Kp (fun q => W.heap.size ≤ q ∧ q < W2.heap.size ∧ q ≠ g) W2 wr ∧ Below W.heap.size W wr) (fun i _ => e.slots.length - (intOf i).toNat)
  case atStart => exact ⟨0, none, 0, [], Nat.zero_le _, rfl, trivial, own_nil _ _ _ _, kg2, Kp.refl _ _, b2⟩
  case round =>
    clear kg2 b2 y0 y1 y2 y3
    obtain ⟨k, A', c', vs, hk, rfl, hall, hown, kg, hkp, hB⟩ := hrel
    have hwr := hkp.1
    have hglt := kg.lt
    have q0 : wr.cell? ⟨g, 0, none⟩ = some (.slice B1 e.base.length d1) := kg.cell 0
    have q1 : wr.cell? ⟨g, 1, none⟩ = some (.slice B2 e.list.length d2) := kg.cell 1
    have q2 : wr.cell? ⟨g, 2, none⟩ = some (.slice B3 e.vers.length d3) := kg.cell 2
    have q3 : wr.cell? ⟨g, 3, none⟩ = some (.slice A' k c') := kg.cell 3
    obtain ⟨-, -, -, y3, -⟩ := unhide HX wr hB
    have hwW := hB.size
    have hwlt : w.heap.size < wr.heap.size := by omega
    by_cases hlt : k < e.slots.length
    · have i1 : (k : Int) < (e.slots.length : Int) := by omega
      obtain ⟨-, -, -, -, hE0⟩ := unhide HX wr hB
      obtain ⟨b, off, P0, d4, P1, d5, P2, d6, hA4, -, hbb, ⟨u0, u1, u2, u3, u4, u5⟩, s0, s1, s2⟩ := hE0.slots.slt hlt
      have hsl := unhide HSL k hlt
      rw [slAt_get e hlt] at hsl
      have HT := hide (show e.slots.take (k + 1) = e.slots.take k ++ [e.slots[k]] from List.take_succ_eq_append_getElem hlt)
      generalize e.slots[k] = s at *
      have HA4 := hide hA4
      have HRO := hide (own_rng hown)
      clear hA4 hE0
      rw [unhide HA4] at y3
      rw [unhide HA4]
      go_wp2_with (refine wpList_store_row rfl 141 (.tmp 5) (.tmp 30) rfl wr.heap.size (sltV s P0 d4 P1 d5 P2 d6).toArray rfl rfl 141 zS (box_new wr 141 zS (sltV s P0 d4 P1 d5 P2 d6).toArray).1 info_slt6 rfl (slt_one6 _ _ _ _ _ _ _) ?_; refine at_world (C := fun W => wpList _ _ _ _ _ W) (F := fun W => Blk W wr.heap.size 141 (sltV s P0 d4 P1 d5 P2 d6).toArray ∧ Below wr.heap.size wr W) ⟨(box_new wr 141 zS (sltV s P0 d4 P1 d5 P2 d6).toArray).2.1, (box_new wr 141 zS (sltV s P0 d4 P1 d5 P2 d6).toArray).2.2⟩ ?_; rintro w5 ⟨k5, b5⟩)
      have HY := hide (fun (w' : World) (hb : Below w5.heap.size w5 w') => show w'.cell? ⟨g, 3, none⟩ = some (.slice A' k c') ∧ (w'.cell? ⟨wr.heap.size, 0, none⟩ = some (.int .i64 s.stage) ∧ w'.cell? ⟨wr.heap.size, 1, none⟩ = some (.int .i64 s.tries) ∧ w'.cell? ⟨wr.heap.size, 2, none⟩ = some (.slice P0 s.frm.length d4) ∧ w'.cell? ⟨wr.heap.size, 3, none⟩ = some (.bool s.res.done) ∧ w'.cell? ⟨wr.heap.size, 4, none⟩ = some (.slice P1 s.res.reads.length d5) ∧ w'.cell? ⟨wr.heap.size, 5, none⟩ = some (.slice P2 s.res.writes.length d6)) ∧ (Rd w' P0 (s.frm.map (.int .i64)) ∧ Rd w' P1 (s.res.reads.flatMap encE) ∧ Rd w' P2 (s.res.writes.flatMap encE)) from ⟨((kg.new_ b5).new_ hb).cell 3, slt_cells (k5.new_ hb), s0.rd.new (bthen b5 hb), s1.rd.new (bthen b5 hb), s2.rd.new (bthen b5 hb)⟩)
      have hF : StBL [bV (.pointer (some ⟨g, 3, none⟩)), bV (.slice A' k c'), bV (.pointer (some ⟨wr.heap.size, 0, none⟩)), bV (.int .i64 s.stage), bV (.pointer (some ⟨wr.heap.size, 1, none⟩)), bV (.int .i64 s.tries), eOwn 3 1 wr.heap.size, bV (.pointer (some ⟨wr.heap.size, 2, none⟩)), bV (.slice P0 s.frm.length d4), iRow wr.heap.size s.frm, bV (.pointer (some ⟨wr.heap.size, 3, none⟩)), bV (.agg #[.bool s.res.done, .slice P1 s.res.reads.length d5, .slice P2 s.res.writes.length d6]), effRow wr.heap.size s.res, sltB wr.heap.size s, sltRow1 wr.heap.size s] :=
        ⟨sb_V _, sb_V _, sb_V _, sb_V _, sb_V _, sb_V _, sb_eOwn _ _ _, sb_V _, sb_V _, sb_iRow _ _, sb_V _, sb_V _, sb_effRow _ _, sb_sltB _ _, sb_sltRow1 _ _, trivial⟩
      go_upto_region 6 with fail
      refine wp_region_loc (by kernel_rfl) [(0, some 31), (1, some 32), (2, some 33), (3, some 34), (4, some 35), (5, some 36), (6, some 37), (7, some 38), (8, some 39), (9, some 40), (10, some 41), (11, some 42), (12, some 43), (13, some 44), (14, some 45)] [[], [(0, some 31)], [], [(2, some 33)], [], [(4, some 35)], [], [], [(7, some 38)], [(6, some 37), (8, some 39)], [], [(10, some 41)], [(11, some 42)], [(3, some 34), (5, some 36), (9, some 40), (12, some 43)], [(13, some 44)]] (by kernel_rfl)
        (locB _) (fun a b => Below a.heap.size a b) noR [0, 0, 0, 0, 0, 0, 0, 0, 0, 0, 0, 0, 0, 0, 0] 0 (by kernel_rfl) (fun _ => Below.refl _ _) (fun _ _ _ => bthen) (locB_st hF _) trivial ?_ ?_
      · refine steps_cons ?s0 ( steps_cons ?s1 ( steps_cons ?s2 ( steps_cons ?s3 ( steps_cons ?s4 ( steps_cons ?s5 ( steps_cons ?s6 ( steps_cons ?s7 ( steps_cons ?s8 ( steps_cons ?s9 ( steps_cons ?s10 ( steps_cons ?s11 ( steps_cons ?s12 ( steps_cons ?s13 ( steps_cons ?s14 steps_nil))))))))))))))
        case s0 =>
          intro w' m' hE hR
          intro Q hQ
          go_wp2
          exact hQ _ _ _ rfl rfl (Below.refl _ _) trivial
        case s1 =>
          intro w' m' hE hR
          rintro _ rfl Q hQ
          obtain ⟨q3, ⟨v0, v1, v2, v3, v4, v5⟩, x0, x1, x2⟩ := unhide HY w' (below_undrew hE)
          go_wp2
          exact hQ _ _ _ rfl rfl (Below.refl _ _) trivial
        case s2 =>
          intro w' m' hE hR
          intro Q hQ
          go_wp2
          exact hQ _ _ _ rfl rfl (Below.refl _ _) trivial
        case s3 =>
          intro w' m' hE hR
          rintro _ rfl Q hQ
          obtain ⟨q3, ⟨v0, v1, v2, v3, v4, v5⟩, x0, x1, x2⟩ := unhide HY w' (below_undrew hE)
          go_wp2
          exact hQ _ _ _ rfl rfl (Below.refl _ _) trivial
        case s4 =>
          intro w' m' hE hR
          intro Q hQ
          go_wp2
          exact hQ _ _ _ rfl rfl (Below.refl _ _) trivial
        case s5 =>
          intro w' m' hE hR
          rintro _ rfl Q hQ
          obtain ⟨q3, ⟨v0, v1, v2, v3, v4, v5⟩, x0, x1, x2⟩ := unhide HY w' (below_undrew hE)
          go_wp2
          exact hQ _ _ _ rfl rfl (Below.refl _ _) trivial
        case s6 =>
          intro w' m' hE hR
          intro Q hQ
          have hsz := hE.size
          have hsz5 := b5.size
          go_wp2
          exact hQ _ _ _ rfl ⟨_, rfl, by simpa using own_made (base := wr.heap.size) (e := 3) (size := 1) w' #[] 0 (Nat.le_trans hsz5 hsz) (by simp [maxLen]) rfl⟩ ((Below.refl _ _).alloc (Nat.le_refl _) _) trivial
        case s7 =>
          intro w' m' hE hR
          intro Q hQ
          go_wp2
          exact hQ _ _ _ rfl rfl (Below.refl _ _) trivial
        case s8 =>
          intro w' m' hE hR
          rintro _ rfl Q hQ
          obtain ⟨q3, ⟨v0, v1, v2, v3, v4, v5⟩, x0, x1, x2⟩ := unhide HY w' (below_undrew hE)
          go_wp2
          exact hQ _ _ _ rfl rfl (Below.refl _ _) trivial
        case s9 =>
          intro w' m' hE hR
          rintro _ ⟨A9, rfl, oA⟩ _ rfl Q hQ
          obtain ⟨q3, ⟨v0, v1, v2, v3, v4, v5⟩, x0, x1, x2⟩ := unhide HY w' (below_undrew hE)
          have hsz := hE.size
          have hsz5 := b5.size
          refine wpList_app0 rfl (.tmp 37) (.tmp 39) 26 rfl el_int rfl oA rfl x0 (by simp) (one_ia s.frm) (by simp only [maxLen]; omega) (by omega) (Nat.le_trans hsz5 hsz) ?_
          intro A9 c9 w2 o2 b2
          go_wp2
          exact hQ _ _ _ rfl ⟨A9, c9, rfl, own_rdB o2 (Nat.le_refl _)⟩ b2 trivial
        case s10 =>
          intro w' m' hE hR
          intro Q hQ
          go_wp2
          exact hQ _ _ _ rfl rfl (Below.refl _ _) trivial
        case s11 =>
          intro w' m' hE hR
          rintro _ rfl Q hQ
          obtain ⟨q3, ⟨v0, v1, v2, v3, v4, v5⟩, x0, x1, x2⟩ := unhide HY w' (below_undrew hE)
          go_wp2
          exact hQ _ _ _ rfl rfl (Below.refl _ _) trivial
        case s12 =>
          intro w' m' hE hR
          rintro _ rfl Q hQ
          obtain ⟨q3, ⟨v0, v1, v2, v3, v4, v5⟩, x0, x1, x2⟩ := unhide HY w' (below_undrew hE)
          have hsz := hE.size
          have hsz5 := b5.size
          go_wp2_with fail
          refine (effCopy_spec s.res P1 d5 P2 d6 w' x1 x2 (by omega) (by omega)).mono ?_
          rintro x w2 ⟨B7, d7, B8, d8, rfl, -, -, o1, o2, b2⟩
          go_wp2
          exact hQ _ _ _ rfl ⟨B7, d7, B8, d8, rfl, o1.mono fun k hk _ => Nat.le_trans (Nat.le_trans hsz5 hsz) hk, o2.mono fun k hk _ => Nat.le_trans (Nat.le_trans hsz5 hsz) hk⟩ b2 trivial
        case s13 =>
          intro w' m' hE hR
          rintro _ rfl _ rfl _ ⟨A9, c9, rfl, z0⟩ _ ⟨B7, d7, B8, d8, rfl, z1, z2⟩ Q hQ
          go_wp2
          exact hQ _ _ _ rfl ⟨A9, c9, B7, d7, B8, d8, rfl, A9, c9, B7, d7, B8, d8, rfl, z0, z1, z2⟩ (Below.refl _ _) trivial
        case s14 =>
          intro w' m' hE hR
          rintro _ ⟨A9, c9, B7, d7, B8, d8, rfl, z0⟩ Q hQ
          go_wp2
          exact hQ _ _ _ rfl ⟨_, A9, c9, B7, d7, B8, d8, rfl, rd_lit w' (sltV s A9 c9 B7 d7 B8 d8) _, slt_good.keep z0 (Kp.alloc _ _ _)⟩ ((Below.refl _ _).alloc (Nat.le_refl _) _) trivial
      intro w7 hE _
      rintro v0 - v1 hv1 v2 - v3 - v4 - v5 - v6 - v7 - v8 - v9 - v10 - v11 - v12 - v13 - v14 ⟨ql, A9, c9, B7, d7, B8, d8, rfl, rl, hx⟩
      obtain rfl : v1 = _ := hv1
      change wpList _ _ _ [_, _, _] _ _
      simp only [Act.put, List.setIfInBounds_toArray, List.set_cons_succ, List.set_cons_zero]
      have b57 := bthen b5 (below_undrew hE)
      clear hE hF
      have hs7 := b57.size
      have oA := own_new hown b57
      have kg7s := kg.new_ b57
      go_wp2_with (at_builtin; refine wpList_app rfl (.tmp 32) (.tmp 45) 94 rfl el_slt rfl oA rfl rl rfl (sltV_one s A9 c9 B7 d7 B8 d8) (by simp only [maxLen]; omega) (by omega) (by omega) ?_; intro A8 c8 w8 o8 ch8 d8' _; have kg8 := kg7s.chg ch8 (fun e => by have := unhide HRO _ e; omega); have h1 : w8.cell? ⟨g, 3, none⟩ = some (.slice A' k c') := kg8.cell 3; have h2 : w8.frozen? ⟨g, 3, none⟩ = false := kg8.frozen 3)
      have hall7 := hall.keep slt_good (Kp.below (P := Off W2.heap.size A') b57)
      have hall8 := deep_app2 slt_good hall7 hx hwr (fun q hq => unhide HRO q hq) ch8 d8'
      have chG : Chg (fun q => q = g) w8 (w8.setCell ⟨g, 3, none⟩ (.slice A8 (k + 1) c8)) := (Chg.refl (fun q => q = g) w8).setCell (p := ⟨g, 3, none⟩) (.inl rfl) _
      have hall9 := hall8.keep slt_good (Kp.chg (P := Off W2.heap.size A8) chG fun q hq e => by have := hq.1; omega)
      have hrg8 := own_rng o8
      have hown9 := own_chg o8 chG (fun q hq e => by have := hrg8 q hq; omega)
      have kg9 : Blk (w8.setCell ⟨g, 3, none⟩ (.slice A8 (k + 1) c8)) g 96 #[.slice B1 e.base.length d1, .slice B2 e.list.length d2, .slice B3 e.vers.length d3, .slice A8 (k + 1) c8] := kg8.set_ 3 _
      have hkp9 := ((hkp.trans (Kp.below (P := fun q => W.heap.size ≤ q ∧ q < W2.heap.size ∧ q ≠ g) b57)).trans (Kp.chg ch8 fun q hq e => by have := unhide HRO q e; omega)).trans (Kp.chg (P := fun q => W.heap.size ≤ q ∧ q < W2.heap.size ∧ q ≠ g) chG fun q hq e => hq.2.2 e)
      have hB9 : Below W.heap.size W (w8.setCell ⟨g, 3, none⟩ (.slice A8 (k + 1) c8)) := ((bthen hB b57).trans (ch8.below (fun q hq e => by have := unhide HRO q e; omega) (by omega))).trans (chG.below (fun q hq e => by have := unhide HG; omega) (by have := ch8.size; omega))
      clear hall hall7 hall8
      go_roundw
      case rel => exact ⟨k + 1, A8, c8, _, by omega, by go_num, by rw [unhide HT]; exact hall9, by rw [List.flatten_append]; simpa using hown9, kg9, hkp9, hB9⟩
      case measure => simp [intOf]; omega
    · obtain rfl : k = e.slots.length := by omega
      rw [List.take_length] at hall
      have kR := unhide HK1 wr hB
      obtain ⟨r1, r2, r3⟩ := unhide HB
      have HRO := hide (own_rng hown)
      have HG2 := unhide HG
      have hfin2 : EngOwn (fun k => w.heap.size + 2 ≤ k ∧ A' ≠ some ⟨k, 0, none⟩) w.heap.size wr e B1 B2 B3 A' c' :=
        ⟨(r1.keep hkp).mono fun q hq _ => ⟨by omega, fun he => by have := unhide HRO q he; omega⟩, (r2.keep hkp).mono fun q hq _ => ⟨by omega, fun he => by have := unhide HRO q he; omega⟩, (r3.keep hkp).mono fun q hq _ => ⟨by omega, fun he => by have := unhide HRO q he; omega⟩, vs, hall.mono slt_good fun q hq _ => ⟨by have := hq.1; omega, hq.2⟩, own_base hown (by omega)⟩
      clear hall hown r1 r2 r3 hkp
      go_wp2_with (refine wpList_store_row rfl 96 (.tmp 2) (.tmp 48) rfl (w.heap.size + 1) #[.slice B1 e.base.length d1, .slice B2 e.list.length d2, .slice B3 e.vers.length d3, .slice A' e.slots.length c'] rfl rfl 96 #[.slice none 0 0, .slice none 0 0, .slice none 0 0, .slice none 0 0] kR info_eng4 rfl (sl4_one _ _ _ _ _ _ _ _ _ _ _ _) ?_)
      refine bodyPost_ret (v := .agg #[.slice B1 e.base.length d1, .slice B2 e.list.length d2, .slice B3 e.vers.length d3, .slice A' e.slots.length c']) (results_cell_row (p := 2) (ty := 96) rfl _ _ (w.heap.size + 1) 96 #[.slice B1 e.base.length d1, .slice B2 e.list.length d2, .slice B3 e.vers.length d3, .slice A' e.slots.length c'] (0, 0) _ rfl (blk_setRow kR) Tryz.underlying96 rfl info_eng4) rfl ?_
      refine ⟨B1, d1, B2, d2, B3, d3, A', c', rfl, ?_, below_setRow (bthen' hb0 hB) (by omega) _⟩
      exact (hfin2.keep (w' := wr.setRow (w.heap.size + 1) _) ⟨by rw [size_setRow]; exact Nat.le_refl _, fun q hq _ => setRow_other wr (w.heap.size + 1) q _ (by omega)⟩ (fun q hq _ => setRow_other wr (w.heap.size + 1) q _ (by have := unhide HRO q hq; omega))).mono fun q hq _ => ⟨by omega, hq.2⟩
end Go.Proofs.YtihlhejencninaaGreat
