/- The sum of a block, of both sides (printed by gen_in.py from xbsum.in). -/
import Derived.Test.YtefdhlfljpppfaaGreatProof
import Derived.Test.YtefdhlfljpppfaaGreatBkS
import Derived.Test.YtefdhlfljpppfaaGreatRun
import Derived.Test.YtefdhlfljpppfaaGreatSerial
import Derived.Test.YtefdhlfljpppfaaGreatLocB
import Derived.Deep.Cut
namespace Go.Proofs.YtefdhlfljpppfaaGreat
open Go.RowKit
set_option linter.unusedVariables false
set_option linter.unusedSimpArgs false

def actN (a : Act) : List Int := [a.kind, a.src, a.dst, a.amt]
def bnums (b : Bk) : List Int := ([b.before, b.height, b.view, (b.list.length : Int)] ++ b.list.flatMap actN) ++ [b.root, b.eff]
def bsum (b : Bk) : Int := if blkB b = true then sumF 5 (bnums b) else -1
theorem actN_len (xs : List Act) : (xs.flatMap actN).length = 4 * xs.length := by
  induction xs with
  | nil => rfl
  | cons a xs ih => rw [List.flatMap_cons, List.length_append, ih, List.length_cons]; simp [actN]; omega
theorem bnums_len (b : Bk) : (bnums b).length = 4 + 4 * b.list.length + 2 := by
  rw [bnums, List.length_append, List.length_append, actN_len]
  rfl
theorem summed_all {xs : List Int} (h : ∀ n ∈ xs, 0 ≤ n ∧ n ≤ 2000000) : summed xs = true := by
  unfold summed
  rw [Bool.not_eq_true', List.any_eq_false]
  intro n hn
  simp [inB_true.2 (h n hn)]
theorem bnums_summed {b : Bk} (h : blkB b = true) : summed (bnums b) = true := by
  unfold blkB at h
  simp only [Bool.and_eq_true] at h
  obtain ⟨h1, h2, h3, h4, h5, h6⟩ := h
  have h1 := inB_true.1 h1
  have h2 := inB_true.1 h2
  have h3 := inB_true.1 h3
  have h4 := inB_true.1 h4
  have h5 := inB_true.1 h5
  have hl := (actsB_yes h6).1
  have ha := acts_all h6
  refine summed_all fun n hn => ?_
  simp only [bnums, List.mem_append, List.mem_cons, List.not_mem_nil, or_false, List.mem_flatMap] at hn
  rcases hn with ((rfl | rfl | rfl | rfl) | ⟨a, hm, hn⟩) | rfl | rfl
  · omega
  · omega
  · omega
  · omega
  · obtain ⟨g1, g2, g3, g4⟩ := actB_bd (ha a hm)
    have gk := actK_kind g4
    simp only [actN, List.mem_cons, List.not_mem_nil, or_false] at hn
    rcases hn with rfl | rfl | rfl | rfl <;> omega
  · omega
  · omega
theorem bsum_yes {b : Bk} (h : blkB b = true) : bsum b = sumF 5 (bnums b) := by unfold bsum; rw [if_pos h]
theorem bsum_no {b : Bk} (h : blkB b = false) : bsum b = -1 := by unfold bsum; rw [if_neg (by simp [h])]
theorem bsum_bd (b : Bk) : -1 ≤ bsum b ∧ bsum b ≤ 1000002 := by
  unfold bsum
  split
  · exact sumF_bd _ _
  · omega
theorem bsum_nn {b : Bk} (h : blkB b = true) : 0 ≤ bsum b := by
  rw [bsum_yes h, sumF_yes (by rfl) (bnums_summed h)]
  exact (sums_bd _ _ (by omega)).1
theorem bsum_neg (b : Bk) : decide (bsum b < 0) = !blkB b := by
  cases h : blkB b
  · rw [bsum_no h]; rfl
  · have := bsum_nn h
    simp; omega
theorem bnums_take (b : Bk) (k : Nat) (hk : k < b.list.length) : ([b.before, b.height, b.view, (b.list.length : Int)] ++ (b.list.take k).flatMap actN).map (Value.int .i64) ++ [.int .i64 b.list[k].kind, .int .i64 b.list[k].src, .int .i64 b.list[k].dst, .int .i64 b.list[k].amt] = ([b.before, b.height, b.view, (b.list.length : Int)] ++ (b.list.take (k + 1)).flatMap actN).map (Value.int .i64) := by
  rw [List.take_succ_eq_append_getElem hk, List.flatMap_append]
  simp [actN]
set_option maxRecDepth 100000 in
set_option maxHeartbeats 1000000 in
theorem blockSum_impl (x : Bk) (A : Option Addr) (c : Nat) (w : World) (h : Rd w A (x.list.flatMap encA)) (hb : x.list.length ≤ 4611686018427387904) :
    Calls Tryz.prog 28 #[.agg #[.int .i64 x.before, .int .i64 x.height, .int .i64 x.view, .slice A x.list.length c, .int .i64 x.root, .int .i64 x.eff]] w fun e w' => e = .returned (.int .i64 (bsum x)) ∧ Below w.heap.size w w' := by
  have hb1 : Below w.heap.size w (w.alloc (.cells #[.int .i64 x.before, .int .i64 x.height, .int .i64 x.view, .slice A x.list.length c, .int .i64 x.root, .int .i64 x.eff] 50)) := (Below.refl _ _).alloc (Nat.le_refl _) _
  have k0 := Blk.new w 50 #[.int .i64 x.before, .int .i64 x.height, .int .i64 x.view, .slice A x.list.length c, .int .i64 x.root, .int .i64 x.eff]
  have hr := h.new hb1
  cases hv : blkB x
  · have HR := hide (bsum_no hv)
    go_enter Tryz.func28, Tryz.ntmps28
    go_wp2_with fail
    refine (blockValid_impl x A c _ hr hb).mono ?_
    rintro e w1 ⟨rfl, b1⟩
    rw [hv]
    go_wp2
    go_ret
    exact ⟨reti (unhide HR).symm, bthen hb1 b1⟩
  have HR := hide (bsum_yes hv)
  have hl : x.list.length ≤ 10 := by
    unfold blkB at hv
    simp only [Bool.and_eq_true] at hv
    exact (actsB_yes hv.2.2.2.2.2).1
  go_enter Tryz.func28, Tryz.ntmps28
  go_wp2_with fail
  refine (blockValid_impl x A c _ hr hb).mono ?_
  rintro e w1 ⟨rfl, b1⟩
  rw [hv]
  clear hv hr
  have k1 := k0.new_ b1
  have hB := bthen hb1 b1
  have ha := h.new hB
  clear b1 k0 hb1 h
  have z0 : w1.cell? ⟨w.heap.size, 0, none⟩ = some _ := k1.cell 0
  have z1 : w1.cell? ⟨w.heap.size, 1, none⟩ = some _ := k1.cell 1
  have z2 : w1.cell? ⟨w.heap.size, 2, none⟩ = some _ := k1.cell 2
  have z3 : w1.cell? ⟨w.heap.size, 3, none⟩ = some _ := k1.cell 3
  have om := own_made (base := w1.heap.size) (e := 3) (size := 1) w1 #[.int .i64 x.before, .int .i64 x.height, .int .i64 x.view, .int .i64 (x.list.length : Int)] 4 (Nat.le_refl _) (by simp [maxLen]) rfl
  have hk1 := k1.lt
  go_wp2
  go_loopw [3, 5, 22] (fun ns _ i wr => ∃ (k : Nat) (A' : Option Addr) (c' : Nat), k ≤ x.list.length ∧ i = .int .i64 k ∧ ns = .slice A' (4 + 4 * k) c' ∧ wr.ownsRow w1.heap.size 3 1 (.slice A' (4 + 4 * k) c') (4 + 4 * k) (([x.before, x.height, x.view, (x.list.length : Int)] ++ (x.list.take k).flatMap actN).map (.int .i64)) ∧ Below w1.heap.size w1 wr) (fun _ _ i _ => x.list.length - (intOf i).toNat)
  case atStart => exact ⟨0, _, _, Nat.zero_le _, rfl, rfl, by simpa using om, (Below.refl _ _).alloc (Nat.le_refl _) _⟩
  case round =>
    clear om
    obtain ⟨k, A', c', hk, rfl, rfl, hown, hbel⟩ := hrel
    have hsz := hbel.size
    by_cases hlt : k < x.list.length
    · obtain ⟨b, off, rfl, hbb, d0, d1, d2, d3⟩ := (ha.new hbel).act hlt
      have HT := hide (bnums_take x k hlt)
      generalize x.list[k] = a at *
      have i1 : (k : Int) < (x.list.length : Int) := by omega
      go_wp2_with (at_builtin; refine wpList_app rfl (.tmp 26) (.tmp 35) 25 rfl el_int rfl (own_alloc (own_alloc hown _) _) rfl (rd_at (s := wr.heap.size + 1) _ [.int .i64 a.kind, .int .i64 a.src, .int .i64 a.dst, .int .i64 a.amt] _ (by simp)) rfl (one_ints [a.kind, a.src, a.dst, a.amt]) (by simp only [maxLen]; omega) (by omega) (by simp; omega) ?_; intro A3 c3 w3 o3 ch3 _ _)
      have hb3 := app_below (hbel.alloc hsz _) (own_alloc hown _) ch3 (Nat.le_refl _)
      rw [unhide HT] at o3
      go_roundw
      case rel => exact ⟨k + 1, A3, c3, by omega, by go_num, rfl, o3, hb3⟩
      case measure => simp [intOf]; omega
    · obtain rfl : k = x.list.length := by omega
      rw [List.take_length] at hown
      have y4 : wr.cell? ⟨w.heap.size, 4, none⟩ = some _ := (k1.new_ hbel).cell 4
      have y5 : wr.cell? ⟨w.heap.size, 5, none⟩ = some _ := (k1.new_ hbel).cell 5
      go_wp2_with (at_builtin; refine wpList_app rfl (.tmp 38) (.tmp 43) 25 rfl el_int rfl (own_alloc hown _) rfl (rd_lit wr [.int .i64 x.root, .int .i64 x.eff] _) rfl (one_ints [x.root, x.eff]) (by simp only [maxLen]; omega) (by omega) (by simp; omega) ?_; intro A3 c3 w3 o3 ch3 _ _)
      have hb3 := app_below hbel hown ch3 (Nat.le_refl _)
      have K := sum_impl 5 A3 c3 (bnums x) w3 (by simpa [bnums] using own_rd o3) (by rw [bnums_len]; omega)
      rw [bnums_len] at K
      refine K.mono ?_
      rintro e w4 ⟨rfl, rfl⟩
      go_wp2
      go_ret
      exact ⟨reti (unhide HR).symm, bthen hB hb3⟩
def bRowN (base n : Nat) (xs : List Int) (v : Value) (w : World) : Prop := ∃ q, v = .slice (some ⟨q, 0, none⟩) n n ∧ base ≤ q ∧ Blk w q 3 (xs.map (.int .i64)).toArray
theorem sb_RowN (base n : Nat) (xs : List Int) : StB (bRowN base n xs) := fun _ _ _ hb ⟨q, h1, h2, h3⟩ => ⟨q, h1, h2, h3.new_ hb⟩
theorem blk_rd {w : World} {q : Nat} {t : TypeId} {xs : List Value} (h : Blk w q t xs.toArray) : Rd w (some ⟨q, 0, none⟩) xs := fun _ => ⟨q, 0, rfl, h.lt, fun j u hu => by rw [Nat.zero_add, h.cell j]; simpa using hu⟩
set_option maxRecDepth 100000 in
set_option maxHeartbeats 2000000 in
theorem blockSum_spec (x : Bk) (A : Option Addr) (c : Nat) (w : World) (h : Rd w A (x.list.flatMap encA)) (hb : x.list.length ≤ 4611686018427387904) :
    Calls Tryz.prog 74 #[.agg #[.int .i64 x.before, .int .i64 x.height, .int .i64 x.view, .slice A x.list.length c, .int .i64 x.root, .int .i64 x.eff]] w fun e w' => e = .returned (.int .i64 (bsum x)) ∧ Below w.heap.size w w' := by
  have hb1 : Below w.heap.size w (w.alloc (.cells #[.int .i64 x.before, .int .i64 x.height, .int .i64 x.view, .slice A x.list.length c, .int .i64 x.root, .int .i64 x.eff] 50)) := (Below.refl _ _).alloc (Nat.le_refl _) _
  have k0 := Blk.new w 50 #[.int .i64 x.before, .int .i64 x.height, .int .i64 x.view, .slice A x.list.length c, .int .i64 x.root, .int .i64 x.eff]
  have hr := h.new hb1
  cases hv : blkB x
  · have HR := hide (bsum_no hv)
    go_enter Tryz.func74, Tryz.ntmps74
    go_wp2_with fail
    refine (blockValid_spec x A c _ hr hb).mono ?_
    rintro e w1 ⟨rfl, b1⟩
    rw [hv]
    go_wp2
    go_ret
    exact ⟨reti (unhide HR).symm, bthen hb1 b1⟩
  have HR := hide (bsum_yes hv)
  have HSM := hide (bnums_summed hv)
  have hl : x.list.length ≤ 10 := by
    unfold blkB at hv
    simp only [Bool.and_eq_true] at hv
    exact (actsB_yes hv.2.2.2.2.2).1
  go_enter Tryz.func74, Tryz.ntmps74
  go_wp2_with fail
  refine (blockValid_spec x A c _ hr hb).mono ?_
  rintro e w1 ⟨rfl, b1⟩
  rw [hv]
  clear hv hr
  have k1 := k0.new_ b1
  have hB := bthen hb1 b1
  have ha := h.new hB
  clear b1 k0 hb1 h
  have z0 : w1.cell? ⟨w.heap.size, 0, none⟩ = some _ := k1.cell 0
  have z1 : w1.cell? ⟨w.heap.size, 1, none⟩ = some _ := k1.cell 1
  have z2 : w1.cell? ⟨w.heap.size, 2, none⟩ = some _ := k1.cell 2
  have z3 : w1.cell? ⟨w.heap.size, 3, none⟩ = some _ := k1.cell 3
  have om := own_made (base := w1.heap.size) (e := 3) (size := 1) w1 #[.int .i64 x.before, .int .i64 x.height, .int .i64 x.view, .int .i64 (x.list.length : Int)] 4 (Nat.le_refl _) (by simp [maxLen]) rfl
  go_wp2
  go_loopw [3, 4] (fun ns i wr => ∃ (k : Nat) (A' : Option Addr) (c' : Nat), k ≤ x.list.length ∧ i = .int .i64 k ∧ ns = .slice A' (4 + 4 * k) c' ∧ wr.ownsRow w1.heap.size 3 1 (.slice A' (4 + 4 * k) c') (4 + 4 * k) (([x.before, x.height, x.view, (x.list.length : Int)] ++ (x.list.take k).flatMap actN).map (.int .i64)) ∧ Below w1.heap.size w1 wr) (fun _ i _ => x.list.length - (intOf i).toNat)
  case atStart => exact ⟨0, _, _, Nat.zero_le _, rfl, rfl, by simpa using om, (Below.refl _ _).alloc (Nat.le_refl _) _⟩
  case round =>
    clear om
    obtain ⟨k, A', c', hk, rfl, rfl, hown, hbel⟩ := hrel
    have hsz := hbel.size
    have y3 : wr.cell? ⟨w.heap.size, 3, none⟩ = some _ := (k1.new_ hbel).cell 3
    by_cases hlt : k < x.list.length
    · obtain ⟨b, off, rfl, hbb, d0, d1, d2, d3⟩ := (ha.new hbel).act hlt
      have HT := hide (bnums_take x k hlt)
      generalize x.list[k] = a at *
      have i1 : (k : Int) < (x.list.length : Int) := by omega
      have hks := (k1.new_ hbel).lt
      have XD := hide (fun w' (hb : Below wr.heap.size wr w') => (⟨(hb.cell (p := ⟨w.heap.size, 3, none⟩) hks).trans y3, (hb.cell (p := ⟨b, off + k * 4, none⟩) hbb).trans d0, (hb.cell (p := ⟨b, off + k * 4 + 1, none⟩) hbb).trans d1, (hb.cell (p := ⟨b, off + k * 4 + 2, none⟩) hbb).trans d2, (hb.cell (p := ⟨b, off + k * 4 + 3, none⟩) hbb).trans d3⟩ : _ ∧ _ ∧ _ ∧ _ ∧ _))
      clear d0 d1 d2 d3
      go_wp2
      have hF : StBL [bV ((.slice A' (4 + 4 * k) c')), bV (.pointer (some ⟨w.heap.size, 3, none⟩)), bV (.slice (some ⟨b, off, none⟩) x.list.length c), bV (.int .i64 (k : Int)), bV (.pointer (some ⟨b, off + k * 4, none⟩)), bV (.pointer (some ⟨b, off + k * 4 + 0, none⟩)), bV (.int .i64 a.kind), bV (.pointer (some ⟨w.heap.size, 3, none⟩)), bV (.slice (some ⟨b, off, none⟩) x.list.length c), bV (.int .i64 (k : Int)), bV (.pointer (some ⟨b, off + k * 4, none⟩)), bV (.pointer (some ⟨b, off + k * 4 + 1, none⟩)), bV (.int .i64 a.src), bV (.pointer (some ⟨w.heap.size, 3, none⟩)), bV (.slice (some ⟨b, off, none⟩) x.list.length c), bV (.int .i64 (k : Int)), bV (.pointer (some ⟨b, off + k * 4, none⟩)), bV (.pointer (some ⟨b, off + k * 4 + 2, none⟩)), bV (.int .i64 a.dst), bV (.pointer (some ⟨w.heap.size, 3, none⟩)), bV (.slice (some ⟨b, off, none⟩) x.list.length c), bV (.int .i64 (k : Int)), bV (.pointer (some ⟨b, off + k * 4, none⟩)), bV (.pointer (some ⟨b, off + k * 4 + 3, none⟩)), bV (.int .i64 a.amt), bRowN wr.heap.size 4 [a.kind, a.src, a.dst, a.amt]] :=
        ⟨sb_V _, sb_V _, sb_V _, sb_V _, sb_V _, sb_V _, sb_V _, sb_V _, sb_V _, sb_V _, sb_V _, sb_V _, sb_V _, sb_V _, sb_V _, sb_V _, sb_V _, sb_V _, sb_V _, sb_V _, sb_V _, sb_V _, sb_V _, sb_V _, sb_V _, sb_RowN _ _ _, trivial⟩
      go_upto_region 7 with fail
      refine wp_region_loc (by kernel_rfl) [(0, some 25), (1, some 26), (2, some 27), (3, some 28), (4, some 29), (5, some 30), (6, some 31), (7, some 32), (8, some 33), (9, some 34), (10, some 35), (11, some 36), (12, some 37), (13, some 38), (14, some 39), (15, some 40), (16, some 41), (17, some 42), (18, some 43), (19, some 44), (20, some 45), (21, some 46), (22, some 47), (23, some 48), (24, some 49), (25, some 50)] [[], [], [(1, some 26)], [], [(2, some 27), (3, some 28)], [(4, some 29)], [(5, some 30)], [], [(7, some 32)], [], [(8, some 33), (9, some 34)], [(10, some 35)], [(11, some 36)], [], [(13, some 38)], [], [(14, some 39), (15, some 40)], [(16, some 41)], [(17, some 42)], [], [(19, some 44)], [], [(20, some 45), (21, some 46)], [(22, some 47)], [(23, some 48)], [(6, some 31), (12, some 37), (18, some 43), (24, some 49)]] (by kernel_rfl)
        (locB _) (fun a b => Below a.heap.size a b) noR [0, 0, 0, 0, 0, 0, 0, 0, 0, 0, 0, 0, 0, 0, 0, 0, 0, 0, 0, 0, 0, 0, 0, 0, 0, 0] 0 (by kernel_rfl) (fun _ => Below.refl _ _) (fun _ _ _ => bthen) (locB_st hF _) trivial ?_ ?_
      · refine steps_cons ?s0 ( steps_cons ?s1 ( steps_cons ?s2 ( steps_cons ?s3 ( steps_cons ?s4 ( steps_cons ?s5 ( steps_cons ?s6 ( steps_cons ?s7 ( steps_cons ?s8 ( steps_cons ?s9 ( steps_cons ?s10 ( steps_cons ?s11 ( steps_cons ?s12 ( steps_cons ?s13 ( steps_cons ?s14 ( steps_cons ?s15 ( steps_cons ?s16 ( steps_cons ?s17 ( steps_cons ?s18 ( steps_cons ?s19 ( steps_cons ?s20 ( steps_cons ?s21 ( steps_cons ?s22 ( steps_cons ?s23 ( steps_cons ?s24 ( steps_cons ?s25 steps_nil)))))))))))))))))))))))))
        case s0 =>
          intro w' m' hE hR
          intro Q hQ
          go_wp2
          exact hQ _ _ _ rfl rfl (Below.refl _ _) trivial
        case s1 =>
          intro w' m' hE hR
          intro Q hQ
          go_wp2
          exact hQ _ _ _ rfl rfl (Below.refl _ _) trivial
        case s2 =>
          intro w' m' hE hR
          rintro _ rfl Q hQ
          obtain ⟨x3, x4, x5, x6, x7⟩ := unhide XD w' (below_undrew hE)
          go_wp2
          exact hQ _ _ _ rfl rfl (Below.refl _ _) trivial
        case s3 =>
          intro w' m' hE hR
          intro Q hQ
          go_wp2
          exact hQ _ _ _ rfl rfl (Below.refl _ _) trivial
        case s4 =>
          intro w' m' hE hR
          rintro _ rfl _ rfl Q hQ
          go_wp2
          exact hQ _ _ _ rfl rfl (Below.refl _ _) trivial
        case s5 =>
          intro w' m' hE hR
          rintro _ rfl Q hQ
          go_wp2
          exact hQ _ _ _ rfl rfl (Below.refl _ _) trivial
        case s6 =>
          intro w' m' hE hR
          rintro _ rfl Q hQ
          obtain ⟨x3, x4, x5, x6, x7⟩ := unhide XD w' (below_undrew hE)
          go_wp2
          exact hQ _ _ _ rfl rfl (Below.refl _ _) trivial
        case s7 =>
          intro w' m' hE hR
          intro Q hQ
          go_wp2
          exact hQ _ _ _ rfl rfl (Below.refl _ _) trivial
        case s8 =>
          intro w' m' hE hR
          rintro _ rfl Q hQ
          obtain ⟨x3, x4, x5, x6, x7⟩ := unhide XD w' (below_undrew hE)
          go_wp2
          exact hQ _ _ _ rfl rfl (Below.refl _ _) trivial
        case s9 =>
          intro w' m' hE hR
          intro Q hQ
          go_wp2
          exact hQ _ _ _ rfl rfl (Below.refl _ _) trivial
        case s10 =>
          intro w' m' hE hR
          rintro _ rfl _ rfl Q hQ
          go_wp2
          exact hQ _ _ _ rfl rfl (Below.refl _ _) trivial
        case s11 =>
          intro w' m' hE hR
          rintro _ rfl Q hQ
          go_wp2
          exact hQ _ _ _ rfl rfl (Below.refl _ _) trivial
        case s12 =>
          intro w' m' hE hR
          rintro _ rfl Q hQ
          obtain ⟨x3, x4, x5, x6, x7⟩ := unhide XD w' (below_undrew hE)
          go_wp2
          exact hQ _ _ _ rfl rfl (Below.refl _ _) trivial
        case s13 =>
          intro w' m' hE hR
          intro Q hQ
          go_wp2
          exact hQ _ _ _ rfl rfl (Below.refl _ _) trivial
        case s14 =>
          intro w' m' hE hR
          rintro _ rfl Q hQ
          obtain ⟨x3, x4, x5, x6, x7⟩ := unhide XD w' (below_undrew hE)
          go_wp2
          exact hQ _ _ _ rfl rfl (Below.refl _ _) trivial
        case s15 =>
          intro w' m' hE hR
          intro Q hQ
          go_wp2
          exact hQ _ _ _ rfl rfl (Below.refl _ _) trivial
        case s16 =>
          intro w' m' hE hR
          rintro _ rfl _ rfl Q hQ
          go_wp2
          exact hQ _ _ _ rfl rfl (Below.refl _ _) trivial
        case s17 =>
          intro w' m' hE hR
          rintro _ rfl Q hQ
          go_wp2
          exact hQ _ _ _ rfl rfl (Below.refl _ _) trivial
        case s18 =>
          intro w' m' hE hR
          rintro _ rfl Q hQ
          obtain ⟨x3, x4, x5, x6, x7⟩ := unhide XD w' (below_undrew hE)
          go_wp2
          exact hQ _ _ _ rfl rfl (Below.refl _ _) trivial
        case s19 =>
          intro w' m' hE hR
          intro Q hQ
          go_wp2
          exact hQ _ _ _ rfl rfl (Below.refl _ _) trivial
        case s20 =>
          intro w' m' hE hR
          rintro _ rfl Q hQ
          obtain ⟨x3, x4, x5, x6, x7⟩ := unhide XD w' (below_undrew hE)
          go_wp2
          exact hQ _ _ _ rfl rfl (Below.refl _ _) trivial
        case s21 =>
          intro w' m' hE hR
          intro Q hQ
          go_wp2
          exact hQ _ _ _ rfl rfl (Below.refl _ _) trivial
        case s22 =>
          intro w' m' hE hR
          rintro _ rfl _ rfl Q hQ
          go_wp2
          exact hQ _ _ _ rfl rfl (Below.refl _ _) trivial
        case s23 =>
          intro w' m' hE hR
          rintro _ rfl Q hQ
          go_wp2
          exact hQ _ _ _ rfl rfl (Below.refl _ _) trivial
        case s24 =>
          intro w' m' hE hR
          rintro _ rfl Q hQ
          obtain ⟨x3, x4, x5, x6, x7⟩ := unhide XD w' (below_undrew hE)
          go_wp2
          exact hQ _ _ _ rfl rfl (Below.refl _ _) trivial
        case s25 =>
          intro w' m' hE hR
          rintro _ rfl _ rfl _ rfl _ rfl Q hQ
          have hs := (below_undrew hE).size
          go_wp2
          exact hQ _ _ _ rfl ⟨_, rfl, hs, Blk.new _ _ _⟩ ((Below.refl _ _).alloc (Nat.le_refl _) _) trivial
      intro w9 hE _
      rintro v0 hv0 v1 - v2 - v3 - v4 - v5 - v6 - v7 - v8 - v9 - v10 - v11 - v12 - v13 - v14 - v15 - v16 - v17 - v18 - v19 - v20 - v21 - v22 - v23 - v24 - v25 ⟨q, rfl, hq, kq⟩
      obtain rfl : v0 = _ := hv0
      change wpList _ _ _ [_, _] _ _
      simp only [Act.put, List.setIfInBounds_toArray, List.set_cons_succ, List.set_cons_zero]
      have b9 := below_undrew hE
      have o9 := own_new hown b9
      have hbel9 := bthen hbel b9
      go_wp2_with (at_builtin; refine wpList_app rfl (.tmp 25) (.tmp 50) 25 rfl el_int rfl o9 rfl (blk_rd kq) rfl (one_ints [a.kind, a.src, a.dst, a.amt]) (by simp only [maxLen]; omega) (by omega) (by have := hbel9.size; omega) ?_; intro A3 c3 w3 o3 ch3 _ _)
      have hb3 := app_below' hbel9 o9 ch3 (Nat.le_refl _)
      rw [show ([a.kind, a.src, a.dst, a.amt].map (Value.int .i64)) = [.int .i64 a.kind, .int .i64 a.src, .int .i64 a.dst, .int .i64 a.amt] from rfl, unhide HT] at o3
      go_roundw
      case rel => exact ⟨k + 1, A3, c3, by omega, by go_num, rfl, o3, hb3⟩
      case measure => simp [intOf]; omega
    · obtain rfl : k = x.list.length := by omega
      rw [List.take_length] at hown
      have y4 : wr.cell? ⟨w.heap.size, 4, none⟩ = some _ := (k1.new_ hbel).cell 4
      have y5 : wr.cell? ⟨w.heap.size, 5, none⟩ = some _ := (k1.new_ hbel).cell 5
      go_wp2_with (at_builtin; refine wpList_app rfl (.tmp 52) (.tmp 57) 25 rfl el_int rfl (own_alloc hown _) rfl (rd_lit wr [.int .i64 x.root, .int .i64 x.eff] _) rfl (one_ints [x.root, x.eff]) (by simp only [maxLen]; omega) (by omega) (by simp; omega) ?_; intro A3 c3 w3 o3 ch3 _ _)
      have hb3 := app_below hbel hown ch3 (Nat.le_refl _)
      have K := l1Sum_any 5 A3 c3 (bnums x) w3 (by simpa [bnums] using own_rd o3) (by rw [bnums_len]; omega) rfl (unhide HSM)
      rw [bnums_len] at K
      refine K.mono ?_
      rintro e w4 ⟨rfl, rfl⟩
      go_wp2
      go_ret
      exact ⟨reti (unhide HR).symm, bthen hB hb3⟩
end Go.Proofs.YtefdhlfljpppfaaGreat
