/- Levels, roots and proofs of stores, of both sides; sums of no effects; first blocks (printed by gen_in.py from xroots.in). -/
import Derived.Test.YtefdhlfljpppfaaGreatBSum
import Derived.Test.YtefdhlfljpppfaaGreatTree
import Derived.Test.YtefdhlfljpppfaaGreatPut
import Derived.Test.YtefdhlfljpppfaaGreatRunSpec
namespace Go.Proofs.YtefdhlfljpppfaaGreat
open Go.RowKit
set_option linter.unusedVariables false
set_option linter.unusedSimpArgs false

def sumIn (z : Int) : Prop := 0 ≤ z ∧ z ≤ 1000002
theorem leafS_in {v : List Int} (hv : valOk v) {k : Nat} (hk : k < 32) : sumIn (leafS (k : Int) (v.getD k 0)) := by
  have h := hv.2 k
  unfold leafS
  rw [if_pos ⟨inB_true.2 (by omega), inB_true.2 (by omega)⟩, sumF_yes (by rfl) (summed_all (fun n hn => by simp only [List.mem_cons, List.not_mem_nil, or_false] at hn; rcases hn with rfl | rfl <;> omega))]
  exact sums_bd _ _ (by omega)
theorem leafN_in {v : List Int} (hv : valOk v) {n : Nat} (hn : n ≤ 32) : ∀ z ∈ leafN v n, sumIn z := by
  induction n with
  | zero => intro z hz; simp [leafN] at hz
  | succ n ih =>
    intro z hz
    rw [leafN, List.mem_append] at hz
    rcases hz with hz | hz
    · exact ih (by omega) z hz
    · obtain rfl : z = _ := by simpa using hz
      exact leafS_in hv (by omega)
theorem getD_in {xs : List Int} (h : ∀ z ∈ xs, sumIn z) (j : Nat) : sumIn (xs.getD j 0) := by
  rw [List.getD_eq_getElem?_getD]
  rcases hj : xs[j]? with _ | z
  · exact ⟨by simp, by simp⟩
  · exact h z (List.mem_of_getElem? hj)
theorem upN_in {xs : List Int} (h : ∀ z ∈ xs, sumIn z) (n : Nat) : ∀ z ∈ upN xs n, sumIn z := by
  induction n with
  | zero => intro z hz; simp [upN] at hz
  | succ n ih =>
    intro z hz
    rw [upN, List.mem_append] at hz
    rcases hz with hz | hz
    · exact ih z hz
    · obtain rfl : z = _ := by simpa using hz
      exact node_bd _ _ (getD_in h _) (getD_in h _)
theorem lvN_in {v : List Int} (hv : valOk v) (n : Nat) : ∀ z ∈ lvN v n, sumIn z := by
  induction n with
  | zero => exact leafN_in hv (by omega)
  | succ n ih => exact upN_in ih _
theorem pow5 {k : Nat} (h : k < 5) : 2 ^ (5 - k) = 2 ^ (5 - (k + 1)) + 2 ^ (5 - (k + 1)) := by
  rw [show 5 - k = (5 - (k + 1)) + 1 by omega, Nat.pow_succ]
  omega
theorem pow5_le (k : Nat) : 1 ≤ 2 ^ (5 - k) ∧ 2 ^ (5 - k) ≤ 32 := by
  have h1 : 0 < 2 ^ (5 - k) := Nat.pow_pos (by omega)
  have h2 : 2 ^ (5 - k) ≤ 2 ^ 5 := Nat.pow_le_pow_right (by omega) (by omega)
  omega
def bV2 (u : Value) (v : Value) (_ : World) : Prop := v = u
set_option maxRecDepth 100000 in
set_option maxHeartbeats 2000000 in
theorem l3Level_any (A : Option Addr) (c : Nat) (s : List Ent) (lv : Nat) (w : World) (h : Rd w A (s.flatMap encE)) (hb : s.length ≤ 4611686018427387904) (hs : storeB s = true) (hlv : lv ≤ 5) :
    Calls Tryz.prog 79 #[.slice A s.length c, .int .i64 (lv : Int)] w fun e w' => ∃ A' c', e = .returned (.slice A' (2 ^ (5 - lv)) c') ∧ w'.ownsRow w.heap.size 3 1 (.slice A' (2 ^ (5 - lv)) c') (2 ^ (5 - lv)) ((lvN (valsL s) lv).map (.int .i64)) ∧ Below w.heap.size w w' := by
  have hvo : valOk (valsL s) := valOk_vals (show evOk 1 (-1) s = true from hs) (by omega)
  have HVG := hide (fun k (hk : k < 32) => vals_get (show evOk 1 (-1) s = true from hs) (by omega) k hk)
  have HIN := hide (lvN_in hvo)
  clear hvo
  generalize hv : valsL s = v at *
  clear hv
  have om := own_made (base := w.heap.size) (e := 3) (size := 1) w #[] 0 (Nat.le_refl _) (by simp [maxLen]) rfl
  go_enter Tryz.func79, Tryz.ntmps79
  go_wp2
  go_loopw [5, 6] (fun r i wr => ∃ (k : Nat) (A' : Option Addr) (c' : Nat), k ≤ 32 ∧ i = .int .i64 k ∧ r = .slice A' k c' ∧ wr.ownsRow w.heap.size 3 1 (.slice A' k c') k ((leafN v k).map (.int .i64)) ∧ Below w.heap.size w wr) (fun _ i _ => 32 - (intOf i).toNat)
  case atStart => exact ⟨0, _, _, by omega, rfl, rfl, by simpa [leafN] using om, (Below.refl _ _).alloc (Nat.le_refl _) _⟩
  case round =>
    clear om
    obtain ⟨k, A', c', hk, rfl, rfl, hown, hB⟩ := hrel
    by_cases hlt : k < 32
    · have i1 : (k : Int) ≤ 31 := by omega
      have HS := hide (show leafN v (k + 1) = leafN v k ++ [leafS (k : Int) (v.getD k 0)] from rfl)
      have HG := hide (unhide HVG k hlt)
      generalize leafN v k = gs at *
      go_wp2_with fail
      refine (l2At_any A c s (k : Int) wr (h.new hB) (by omega)).mono ?_
      rintro e w' ⟨rfl, rfl⟩
      rw [← unhide HG]
      generalize v.getD k 0 = x at *
      go_wp2_with fail
      refine (leafSum_spec (k : Int) x wr).mono ?_
      rintro e w2 ⟨rfl, b2⟩
      generalize leafS (k : Int) x = y at *
      have o2 := own_new hown b2
      have hB2 := bthen hB b2
      go_wp2_with (at_builtin; refine wpList_app rfl (.tmp 15) (.tmp 21) 25 rfl el_int rfl (own_alloc o2 _) rfl (rd_lit w2 [.int .i64 y] _) rfl (one_ints [y]) (by simp only [maxLen]; omega) (by omega) (by have := hB2.size; simp; omega) ?_; intro A3 c3 w3 o3 ch3 _ _)
      have hB3 := app_below hB2 o2 ch3 (Nat.le_refl _)
      go_roundw
      case rel => exact ⟨k + 1, A3, c3, by omega, by go_num, rfl, by rw [unhide HS]; simpa using o3, hB3⟩
      case measure => simp [intOf]; omega
    · obtain rfl : k = 32 := by omega
      have i1 : ¬ ((32 : Nat) : Int) ≤ 31 := by omega
      go_wp2
      go_loopw [5, 7, 8, 9] (fun row i _ _ wq => ∃ (k : Nat) (A1 : Option Addr) (c1 : Nat), k ≤ lv ∧ i = .int .i64 k ∧ row = .slice A1 (2 ^ (5 - k)) c1 ∧ wq.ownsRow w.heap.size 3 1 (.slice A1 (2 ^ (5 - k)) c1) (2 ^ (5 - k)) ((lvN v k).map (.int .i64)) ∧ Below w.heap.size w wq) (fun _ i _ _ _ => lv - (intOf i).toNat)
      case atStart => exact ⟨0, A', c', by omega, rfl, rfl, hown, hB⟩
      case round =>
        clear hown hB
        obtain ⟨k, A1, c1, hk, rfl, rfl, hown, hB⟩ := hrel
        by_cases hlt : k < lv
        · have i2 : (k : Int) < (lv : Int) := by omega
          have HUP := hide (lvN_up v k (by omega))
          have HP := hide (pow5 (k := k) (by omega))
          have hp1 := pow5_le (k + 1)
          have hp0 := unhide HP
          have hrow := own_rd hown
          have HIK := hide (unhide HIN k)
          have hrl := hown.1
          rw [List.length_map] at hrl
          generalize lvN v k = xs at *
          generalize hn1 : 2 ^ (5 - (k + 1)) = n1 at *
          have HN1 := hide hn1
          clear hn1
          generalize 2 ^ (5 - k) = n0 at *
          have HXL := hide (show xs.length = n0 by omega)
          have hp2 := hp0
          clear hp0 hrl
          replace hp2 := hide hp2
          have om2 := own_made (base := wr.heap.size) (e := 3) (size := 1) wr #[] 0 (Nat.le_refl _) (by simp [maxLen]) rfl
          clear hown
          go_wp2
          obtain ⟨wo, hwo⟩ : ∃ wo : World, wo = wr := ⟨_, rfl⟩
          have HWO := hide hwo
          clear hwo
          go_loopw [8, 9] (fun nx i wq => ∃ (j m : Nat) (A2 : Option Addr) (c2 : Nat), j ≤ n1 ∧ i = .int .i64 (m : Int) ∧ Hid (m = j + j) ∧ nx = .slice A2 j c2 ∧ wq.ownsRow wo.heap.size 3 1 (.slice A2 j c2) j ((upN xs j).map (.int .i64)) ∧ Below wo.heap.size wo wq) (fun _ i _ => n0 - (intOf i).toNat)
          case atStart => exact ⟨0, 0, _, _, by omega, rfl, hide rfl, rfl, by rw [unhide HWO]; simpa [upN] using om2, by rw [unhide HWO]; exact (Below.refl _ _).alloc (Nat.le_refl _) _⟩
          case round =>
            clear om2
            obtain ⟨j, m, A2, c2, hj, rfl, HM, rfl, hnx, hbel⟩ := hrel
            rw [← unhide HWO] at hrow hB
            clear HWO
            have hm64 : (m : Int) + 2 ≤ 100 := by have := unhide HM; omega
            have hr2 := hrow.new hbel
            by_cases hj2 : j < n1
            · have hm := unhide HM
              have hp0 := unhide hp2
              have hxl := unhide HXL
              have i3 : (m : Int) + 1 < (n0 : Int) := by omega
              have i4 : (m : Int) < (n0 : Int) := by omega
              have hmm : m + 1 < xs.length := by omega
              obtain ⟨b, off, rfl, hbb, e0⟩ := hr2.int (k := m) (by omega)
              obtain ⟨b', off', hbe, hbb', e1⟩ := hr2.int (k := m + 1) (by omega)
              injection hbe with hbe
              injection hbe with q1 q2
              subst q1
              subst q2
              have HU := hide (show upN xs (j + 1) = upN xs j ++ [nodeS (xs[m]'(by omega)) (xs[m + 1]'(by omega))] by
                rw [upN, List.getD_eq_getElem?_getD, List.getD_eq_getElem?_getD, ← hm, List.getElem?_eq_getElem (by omega), List.getElem?_eq_getElem (by omega)]
                rfl)
              have hx1 := unhide HIK xs[m] (List.getElem_mem _)
              have hx2 := unhide HIK xs[m + 1] (List.getElem_mem _)
              generalize xs[m] = y1 at *
              generalize xs[m + 1] = y2 at *
              have HSM := hide (summed_two y1 y2 hx1 hx2)
              have XD := hide (fun w' (hb : Below wr.heap.size wr w') => (⟨(hb.cell (p := ⟨b, off + m, none⟩) hbb).trans e0, (hb.cell (p := ⟨b, off + (m + 1), none⟩) hbb).trans e1⟩ : _ ∧ _))
              clear hm hp0 hxl
              clear e0 e1
              go_wp2
              have hF : StBL [bV (.slice A2 j c2), bV (.slice (some ⟨b, off, none⟩) n0 c1), bV (.int .i64 (m : Int)), bV (.pointer (some ⟨b, off + m, none⟩)), bV (.int .i64 y1), bV (.slice (some ⟨b, off, none⟩) n0 c1), bV (.int .i64 (m : Int)), bV (.int .i64 ((m : Int) + 1)), bV (.pointer (some ⟨b, off + (m + 1), none⟩)), bV (.int .i64 y2), bV (.int .i64 (nodeS y1 y2)), bRowN wr.heap.size 1 [nodeS y1 y2]] :=
                ⟨sb_V _, sb_V _, sb_V _, sb_V _, sb_V _, sb_V _, sb_V _, sb_V _, sb_V _, sb_V _, sb_V _, sb_RowN _ _ _, trivial⟩
              go_upto_region 13 with fail
              refine wp_region_loc (by kernel_rfl) [(0, some 36), (1, some 37), (2, some 38), (3, some 39), (4, some 40), (5, some 41), (6, some 42), (7, some 43), (8, some 44), (9, some 45), (10, some 46), (11, some 47)] [[], [], [], [(1, some 37), (2, some 38)], [(3, some 39)], [], [], [(6, some 42)], [(5, some 41), (7, some 43)], [(8, some 44)], [(4, some 40), (9, some 45)], [(10, some 46)]] (by kernel_rfl)
                (locB _) (fun a b => Below a.heap.size a b) noR [0, 0, 0, 0, 0, 0, 0, 0, 0, 0, 0, 0] 0 (by kernel_rfl) (fun _ => Below.refl _ _) (fun _ _ _ => bthen) (locB_st hF _) trivial ?_ ?_
              · refine steps_cons ?s0 ( steps_cons ?s1 ( steps_cons ?s2 ( steps_cons ?s3 ( steps_cons ?s4 ( steps_cons ?s5 ( steps_cons ?s6 ( steps_cons ?s7 ( steps_cons ?s8 ( steps_cons ?s9 ( steps_cons ?s10 ( steps_cons ?s11 steps_nil)))))))))))
                case s0 =>
                  intro w' m' hE hR
                  intro Q hQ
                  go_wp2
                  exact hQ _ _ _ rfl rfl (Below.refl _ _) trivial
                case s1 =>
                  intro w' m' hE hR
                  intro Q hQ
                  go_wp2
                  exact hQ _ _ _ rfl rfl (Below.refl _ _) trivial
                case s2 =>
                  intro w' m' hE hR
                  intro Q hQ
                  go_wp2
                  exact hQ _ _ _ rfl rfl (Below.refl _ _) trivial
                case s3 =>
                  intro w' m' hE hR
                  rintro _ rfl _ rfl Q hQ
                  go_wp2
                  exact hQ _ _ _ rfl rfl (Below.refl _ _) trivial
                case s4 =>
                  intro w' m' hE hR
                  rintro _ rfl Q hQ
                  obtain ⟨x3, x4⟩ := unhide XD w' (below_undrew hE)
                  go_wp2
                  exact hQ _ _ _ rfl rfl (Below.refl _ _) trivial
                case s5 =>
                  intro w' m' hE hR
                  intro Q hQ
                  go_wp2
                  exact hQ _ _ _ rfl rfl (Below.refl _ _) trivial
                case s6 =>
                  intro w' m' hE hR
                  intro Q hQ
                  go_wp2
                  exact hQ _ _ _ rfl rfl (Below.refl _ _) trivial
                case s7 =>
                  intro w' m' hE hR
                  rintro _ rfl Q hQ
                  go_wp2
                  exact hQ _ _ _ rfl rfl (Below.refl _ _) trivial
                case s8 =>
                  intro w' m' hE hR
                  rintro _ rfl _ rfl Q hQ
                  go_wp2
                  exact hQ _ _ _ rfl rfl (Below.refl _ _) trivial
                case s9 =>
                  intro w' m' hE hR
                  rintro _ rfl Q hQ
                  obtain ⟨x3, x4⟩ := unhide XD w' (below_undrew hE)
                  go_wp2
                  exact hQ _ _ _ rfl rfl (Below.refl _ _) trivial
                case s10 =>
                  intro w' m' hE hR
                  rintro _ rfl _ rfl Q hQ
                  go_wp2_with fail
                  refine (l3Node_any y1 y2 w' (unhide HSM)).mono ?_
                  rintro e w1 ⟨rfl, b1⟩
                  go_wp2
                  exact hQ _ _ _ rfl rfl b1 trivial
                case s11 =>
                  intro w' m' hE hR
                  rintro _ rfl Q hQ
                  have hs := (below_undrew hE).size
                  go_wp2
                  exact hQ _ _ _ rfl ⟨_, rfl, hs, Blk.new _ _ _⟩ ((Below.refl _ _).alloc (Nat.le_refl _) _) trivial
              intro w9 hE _
              rintro v0 hv0 v1 - v2 - v3 - v4 - v5 - v6 - v7 - v8 - v9 - v10 - v11 ⟨q, rfl, hq, kq⟩
              obtain rfl : v0 = _ := hv0
              change wpList _ _ _ [_, _] _ _
              simp only [Act.put, List.setIfInBounds_toArray, List.set_cons_succ, List.set_cons_zero]
              have b9 := below_undrew hE
              have o9 := own_new hnx b9
              have hbel9 := bthen hbel b9
              go_wp2_with (at_builtin; refine wpList_app rfl (.tmp 36) (.tmp 47) 25 rfl el_int rfl o9 rfl (blk_rd kq) rfl (one_ints [nodeS y1 y2]) (by simp only [maxLen]; omega) (by omega) (by have := hbel9.size; omega) ?_; intro A3 c3 w3 o3 ch3 _ _)
              have hb3 := app_below' hbel9 o9 ch3 (Nat.le_refl _)
              have HM2 := hide (show m + 2 = j + 1 + (j + 1) by have := unhide HM; omega)
              go_roundw
              case rel => exact ⟨j + 1, m + 2, A3, c3, by omega, by go_num, HM2, rfl, by rw [unhide HU]; simpa using o3, hb3⟩
              case measure => simp [intOf]; omega
            · obtain rfl : j = n1 := by omega
              have i3 : ¬ (m : Int) + 1 < (n0 : Int) := by have := unhide HM; have := unhide hp2; omega
              rw [← unhide HUP] at hnx
              have hB2 := bthen hB hbel
              have hbs := hB.size
              go_wp2
              go_roundw
              case rel => exact ⟨k + 1, A2, c2, by omega, by go_num, by rw [unhide HN1], by rw [unhide HN1]; exact own_base hnx hbs, hB2⟩
              case measure => simp [intOf]; omega
        · obtain rfl : k = lv := by omega
          go_wp2
          go_ret
          exact ⟨A1, c1, rfl, hown, hB⟩
/-- the proof for a key -/
def prN (v : List Int) (q : Nat) : Nat → List Int
  | 0 => []
  | n + 1 => prN v q n ++ [(lvN v n).getD ((q / 2 ^ n) ^^^ 1) 0]
theorem prN_len (v : List Int) (q n : Nat) : (prN v q n).length = n := by
  induction n with
  | zero => rfl
  | succ n ih => rw [prN, List.length_append, ih]; rfl
def proofL (s : List Ent) (key : Int) : List Int := if storeB s = true ∧ inB key 0 31 = true then prN (valsL s) key.toNat 5 else []
theorem proofL_len (s : List Ent) (key : Int) : (proofL s key).length ≤ 5 := by
  unfold proofL
  split
  · rw [prN_len]; omega
  · simp
theorem sib_lt : ∀ q, q < 32 → ∀ l, l < 5 → (q / 2 ^ l) ^^^ 1 < 2 ^ (5 - l) := by decide
theorem key_xor (q l : Nat) (hq : q < 4294967296) : bits .xor .i64 ((q : Int) / 2 ^ l) 1 = (((q / 2 ^ l) ^^^ 1 : Nat) : Int) := by
  have e : (q : Int) / 2 ^ l = ((q / 2 ^ l : Nat) : Int) := by simp
  have hl : q / 2 ^ l ≤ q := Nat.div_le_self _ _
  rw [e, show (1 : Int) = ((1 : Nat) : Int) from rfl, i64_xor_nat _ _ (by omega) (by omega)]
set_option maxHeartbeats 1000000 in
theorem rootOf_spec (A : Option Addr) (c : Nat) (s : List Ent) (w : World) (h : Rd w A (s.flatMap encE)) (hb : s.length ≤ 4611686018427387904) :
    Calls Tryz.prog 110 #[.slice A s.length c] w fun e w' => e = .returned (.int .i64 (rootL s)) ∧ Below w.heap.size w w' := by
  cases hs : storeB s
  · have HV := hide (show rootL s = -1 by simp [rootL, hs])
    go_enter Tryz.func110, Tryz.ntmps110
    go_wp2_with fail
    refine (storeB_store_spec A c s w h hb).mono ?_
    rintro e w1 ⟨rfl, m1, rfl⟩
    rw [hs]
    go_wp2
    go_ret
    exact ⟨reti (unhide HV).symm, below_drewN (Below.refl _ _) m1⟩
  · have HV := hide (show rootL s = (lvN (valsL s) 5).getD 0 0 by simp [rootL, hs])
    have HS := hide hs
    go_enter Tryz.func110, Tryz.ntmps110
    go_wp2_with fail
    refine (storeB_store_spec A c s w h hb).mono ?_
    rintro e w1 ⟨rfl, m1, rfl⟩
    rw [hs]
    clear hs
    have b1 := below_drewN (Below.refl w.heap.size w) m1
    generalize w.drewN m1 = w1 at *
    go_wp2_with fail
    refine (l3Level_any A c s 5 w1 (h.new b1) hb (unhide HS) (by omega)).mono ?_
    rintro e w2 ⟨A2, c2, rfl, o2, b2⟩
    have hl5 := lvN_len (valsL s) 5 (by omega)
    obtain ⟨b3, off3, rfl, hb3, hcell3⟩ := (own_rd o2) (by simp; omega)
    have hd := hcell3 0 (.int .i64 ((lvN (valsL s) 5).getD 0 0)) (by simp [show 0 < (lvN (valsL s) 5).length by omega])
    simp only [Nat.add_zero] at hd
    generalize (lvN (valsL s) 5).getD 0 0 = z at *
    clear hcell3
    rw [show 2 ^ (5 - 5) = 1 from rfl]
    go_wp2
    go_ret
    exact ⟨reti (unhide HV).symm, bthen b1 b2⟩
theorem row_at {w : World} {A : Option Addr} {xs : List Int} (h : Rd w A (xs.map (.int .i64))) {p : Nat} (hp : p < xs.length) : ∃ b off, A = some ⟨b, off, none⟩ ∧ b < w.heap.size ∧ w.cell? ⟨b, off + p, none⟩ = some (.int .i64 (xs.getD p 0)) := by
  obtain ⟨b, off, e, hb, hc⟩ := h.int hp
  exact ⟨b, off, e, hb, by rw [hc, List.getD_eq_getElem?_getD, List.getElem?_eq_getElem hp]; rfl⟩
set_option maxRecDepth 100000 in
set_option maxHeartbeats 1000000 in
theorem proofOf_impl (A : Option Addr) (c : Nat) (s : List Ent) (key : Int) (w : World) (h : Rd w A (s.flatMap encE)) (hb : s.length ≤ 4611686018427387904) :
    Calls Tryz.prog 39 #[.slice A s.length c, .int .i64 key] w fun e w' => ∃ A' c', e = .returned (.slice A' (proofL s key).length c') ∧ w'.ownsRow w.heap.size 3 1 (.slice A' (proofL s key).length c') (proofL s key).length ((proofL s key).map (.int .i64)) ∧ Below w.heap.size w w' := by
  cases hs : storeB s
  · have HN := hide (show proofL s key = [] by unfold proofL; rw [if_neg (by simp [hs])])
    go_enter Tryz.func39, Tryz.ntmps39
    go_wp2_with fail
    refine (storeB_impl A c s w h hb).mono ?_
    rintro e w1 ⟨rfl, b1⟩
    rw [hs]
    go_wp2
    go_ret
    rw [unhide HN]
    exact ⟨none, 0, rfl, own_nil _ _ _ _, b1⟩
  cases hk : inB key 0 31
  · have HN := hide (show proofL s key = [] by unfold proofL; rw [if_neg (by simp [hk])])
    go_enter Tryz.func39, Tryz.ntmps39
    go_wp2_with fail
    refine (storeB_impl A c s w h hb).mono ?_
    rintro e w1 ⟨rfl, b1⟩
    rw [hs]
    go_wp2_with fail
    refine (isKey_any key _).mono ?_
    rintro e w' ⟨rfl, rfl⟩
    rw [hk]
    go_wp2
    go_ret
    rw [unhide HN]
    exact ⟨none, 0, rfl, own_nil _ _ _ _, b1⟩
  have hkb := inB_true.1 hk
  obtain ⟨q, rfl⟩ := Int.eq_ofNat_of_zero_le hkb.1
  have HN := hide (show proofL s (q : Int) = prN (valsL s) q 5 by unfold proofL; rw [if_pos ⟨hs, hk⟩]; rfl)
  have HS := hide hs
  go_enter Tryz.func39, Tryz.ntmps39
  go_wp2_with fail
  refine (storeB_impl A c s w h hb).mono ?_
  rintro e w1 ⟨rfl, b1⟩
  rw [hs]
  go_wp2_with fail
  refine (isKey_any (q : Int) _).mono ?_
  rintro e w' ⟨rfl, rfl⟩
  rw [hk]
  clear hs hk
  go_wp2_with fail
  refine (levels_impl A c s w1 (h.new b1) hb (unhide HS)).mono ?_
  rintro e w2 ⟨A2, c2, rfl, hc1, hc2, r2, b2⟩
  have hB := bthen b1 b2
  have hBs := hB.size
  generalize valsL s = v at *
  clear b1 b2
  go_wp2
  go_loopw [6, 7, 18] (fun o _ i wr => ∃ (l : Nat) (A' : Option Addr) (c' : Nat), l ≤ 5 ∧ i = .int .i64 l ∧ o = .slice A' l c' ∧ wr.ownsRow w2.heap.size 3 1 (.slice A' l c') l ((prN v q l).map (.int .i64)) ∧ Below w2.heap.size w2 wr) (fun _ _ i _ => 5 - (intOf i).toNat)
  case atStart => exact ⟨0, none, 0, by omega, rfl, rfl, own_nil _ _ _ _, Below.refl _ _⟩
  case round =>
    obtain ⟨l, A', c', hl, rfl, rfl, hown, hbel⟩ := hrel
    have hsz := hbel.size
    by_cases hlt : l < 5
    · have i1 : (l : Int) < 5 := by omega
      have i2 : (l : Int) < 64 := by omega
      have i6 : (l : Int) < 6 := by omega
      obtain ⟨b, off, cs, rfl, _, hbb, hr, hcell⟩ := (r2.new row_good hbel).get row_good (by omega) (k := l) (by rw [lvsN_len]; omega)
      rw [lvsN_get] at hr
      obtain ⟨A3, c3, rfl, h3, h4, r3⟩ := hr
      have hc := hcell 0 _ rfl
      have hll := lvN_len v l (by omega)
      have hsb := sib_lt q (by omega) l hlt
      have hba := key_xor q l (by omega)
      have HT := hide (show prN v q (l + 1) = prN v q l ++ [(lvN v l).getD ((q / 2 ^ l) ^^^ 1) 0] from rfl)
      generalize (q / 2 ^ l) ^^^ 1 = p at *
      obtain ⟨b3, off3, rfl, hb3, hd⟩ := row_at r3.rd (p := p) (by omega)
      generalize (lvN v l).getD p 0 = z at *
      rw [hll] at hc
      generalize 2 ^ (5 - l) = n0 at *
      have i3 : (p : Int) < (n0 : Int) := by omega
      simp only [Nat.mul_one, Nat.add_zero] at hc
      have XD := hide (fun w' (hb : Below wr.heap.size wr w') => (⟨(hb.cell (p := ⟨b, off + l, none⟩) hbb).trans hc, (hb.cell (p := ⟨b3, off3 + p, none⟩) hb3).trans hd⟩ : _ ∧ _))
      clear hcell hc hd r3 hll h3 h4
      go_wp2
      have hF : StBL [bV ((.slice A' l c')), bV (.slice (some ⟨b, off, none⟩) 6 c2), bV (.int .i64 (l : Int)), bV (.pointer (some ⟨b, off + l, none⟩)), bV (.slice (some ⟨b3, off3, none⟩) n0 c3), bV (.int .i64 (q : Int)), bV (.int .i64 (l : Int)), bV (.int .i64 ((q : Int) / 2 ^ l)), bV (.int .i64 (p : Int)), bV (.pointer (some ⟨b3, off3 + p, none⟩)), bV (.int .i64 z), bRowN wr.heap.size 1 [z]] :=
        ⟨sb_V _, sb_V _, sb_V _, sb_V _, sb_V _, sb_V _, sb_V _, sb_V _, sb_V _, sb_V _, sb_V _, sb_RowN _ _ _, trivial⟩
      go_upto_region 8 with fail
      refine wp_region_loc (by kernel_rfl) [(0, some 21), (1, some 22), (2, some 23), (3, some 24), (4, some 25), (5, some 26), (6, some 27), (7, some 28), (8, some 29), (9, some 30), (10, some 31), (11, some 32)] [[], [], [], [(1, some 22), (2, some 23)], [(3, some 24)], [], [], [(5, some 26), (6, some 27)], [(7, some 28)], [(4, some 25), (8, some 29)], [(9, some 30)], [(10, some 31)]] (by kernel_rfl)
        (locB _) (fun a b => Below a.heap.size a b) noR [0, 0, 0, 0, 0, 0, 0, 0, 0, 0, 0, 0] 0 (by kernel_rfl) (fun _ => Below.refl _ _) (fun _ _ _ => bthen) (locB_st hF _) trivial ?_ ?_
      · refine steps_cons ?s0 ( steps_cons ?s1 ( steps_cons ?s2 ( steps_cons ?s3 ( steps_cons ?s4 ( steps_cons ?s5 ( steps_cons ?s6 ( steps_cons ?s7 ( steps_cons ?s8 ( steps_cons ?s9 ( steps_cons ?s10 ( steps_cons ?s11 steps_nil)))))))))))
        case s0 =>
          intro w' m' hE hR
          intro Q hQ
          go_wp2
          exact hQ _ _ _ rfl rfl (Below.refl _ _) trivial
        case s1 =>
          intro w' m' hE hR
          intro Q hQ
          go_wp2
          exact hQ _ _ _ rfl rfl (Below.refl _ _) trivial
        case s2 =>
          intro w' m' hE hR
          intro Q hQ
          go_wp2
          exact hQ _ _ _ rfl rfl (Below.refl _ _) trivial
        case s3 =>
          intro w' m' hE hR
          rintro _ rfl _ rfl Q hQ
          go_wp2
          exact hQ _ _ _ rfl rfl (Below.refl _ _) trivial
        case s4 =>
          intro w' m' hE hR
          rintro _ rfl Q hQ
          obtain ⟨x3, x4⟩ := unhide XD w' (below_undrew hE)
          go_wp2
          exact hQ _ _ _ rfl rfl (Below.refl _ _) trivial
        case s5 =>
          intro w' m' hE hR
          intro Q hQ
          go_wp2
          exact hQ _ _ _ rfl rfl (Below.refl _ _) trivial
        case s6 =>
          intro w' m' hE hR
          intro Q hQ
          go_wp2
          exact hQ _ _ _ rfl rfl (Below.refl _ _) trivial
        case s7 =>
          intro w' m' hE hR
          rintro _ rfl _ rfl Q hQ
          go_wp2
          exact hQ _ _ _ rfl rfl (Below.refl _ _) trivial
        case s8 =>
          intro w' m' hE hR
          rintro _ rfl Q hQ
          go_wp2
          exact hQ _ _ _ rfl rfl (Below.refl _ _) trivial
        case s9 =>
          intro w' m' hE hR
          rintro _ rfl _ rfl Q hQ
          go_wp2
          exact hQ _ _ _ rfl rfl (Below.refl _ _) trivial
        case s10 =>
          intro w' m' hE hR
          rintro _ rfl Q hQ
          obtain ⟨x3, x4⟩ := unhide XD w' (below_undrew hE)
          go_wp2
          exact hQ _ _ _ rfl rfl (Below.refl _ _) trivial
        case s11 =>
          intro w' m' hE hR
          rintro _ rfl Q hQ
          have hs := (below_undrew hE).size
          go_wp2
          exact hQ _ _ _ rfl ⟨_, rfl, hs, Blk.new _ _ _⟩ ((Below.refl _ _).alloc (Nat.le_refl _) _) trivial
      intro w9 hE _
      rintro v0 hv0 v1 - v2 - v3 - v4 - v5 - v6 - v7 - v8 - v9 - v10 - v11 ⟨g, rfl, hg, kg⟩
      obtain rfl : v0 = _ := hv0
      change wpList _ _ _ [_, _] _ _
      simp only [Act.put, List.setIfInBounds_toArray, List.set_cons_succ, List.set_cons_zero]
      have b9 := below_undrew hE
      have o9 := own_new hown b9
      have hbel9 := bthen hbel b9
      go_wp2_with (at_builtin; refine wpList_app rfl (.tmp 21) (.tmp 32) 25 rfl el_int rfl o9 rfl (blk_rd kg) rfl (one_ints [z]) (by simp only [maxLen]; omega) (by omega) (by have := hbel9.size; omega) ?_; intro A4 c4 w4 o4 ch4 _ _)
      have hb4 := app_below' hbel9 o9 ch4 (Nat.le_refl _)
      go_roundw
      case rel => exact ⟨l + 1, A4, c4, by omega, by go_num, rfl, by rw [unhide HT]; simpa using o4, hb4⟩
      case measure => simp [intOf]; omega
    · obtain rfl : l = 5 := by omega
      have i1 : ¬ ((5 : Nat) : Int) < 5 := by omega
      go_wp2
      go_ret
      rw [unhide HN, prN_len]
      exact ⟨A', c', rfl, own_base hown hBs, bthen hB hbel⟩
def bIntS (n : Nat) (xs : List Int) (v : Value) (w : World) : Prop := ∃ A c, v = .slice A n c ∧ Rd w A (xs.map (.int .i64))
theorem sb_IntS (n : Nat) (xs : List Int) : StB (bIntS n xs) := fun _ _ _ hb ⟨A, c, h1, h2⟩ => ⟨A, c, h1, h2.new hb⟩
def bPtr (z : Value) (v : Value) (w : World) : Prop := ∃ g i, v = .pointer (some ⟨g, i, none⟩) ∧ w.cell? ⟨g, i, none⟩ = some z ∧ g < w.heap.size
theorem sb_Ptr (z : Value) : StB (bPtr z) := fun _ _ _ hb ⟨g, i, h1, h2, h3⟩ => ⟨g, i, h1, (hb.cell (p := ⟨g, i, none⟩) h3).trans h2, Nat.lt_of_lt_of_le h3 hb.size⟩
set_option maxRecDepth 100000 in
set_option maxHeartbeats 1000000 in
theorem proofOf_spec (A : Option Addr) (c : Nat) (s : List Ent) (key : Int) (w : World) (h : Rd w A (s.flatMap encE)) (hb : s.length ≤ 4611686018427387904) :
    Calls Tryz.prog 44 #[.slice A s.length c, .int .i64 key] w fun e w' => ∃ A' c', e = .returned (.slice A' (proofL s key).length c') ∧ w'.ownsRow w.heap.size 3 1 (.slice A' (proofL s key).length c') (proofL s key).length ((proofL s key).map (.int .i64)) ∧ Below w.heap.size w w' := by
  have om := own_made (base := w.heap.size) (e := 3) (size := 1) w #[] 0 (Nat.le_refl _) (by simp [maxLen]) rfl
  have hb0 : Below w.heap.size w (w.alloc (.cells #[] 3)) := (Below.refl _ _).alloc (Nat.le_refl _) _
  by_cases hsk : storeB s = true ∧ inB key 0 31 = true
  rotate_left
  · have HN := hide (show proofL s key = [] by unfold proofL; rw [if_neg hsk])
    cases hs : storeB s
    · clear hsk
      go_enter Tryz.func44, Tryz.ntmps44
      go_wp2
      go_loopw [5, 6] (fun o i wr => o = .slice (some ⟨w.heap.size, 0, none⟩) 0 0 ∧ i = .int .i64 0 ∧ wr = w.alloc (.cells #[] 3)) (fun _ _ _ => 0)
      case atStart => exact ⟨rfl, rfl, rfl⟩
      case round =>
        obtain ⟨rfl, rfl, rfl⟩ := hrel
        go_wp2_with fail
        refine (storeB_store_spec A c s _ (h.new hb0) hb).mono ?_
        rintro e w1 ⟨rfl, m1, rfl⟩
        rw [hs]
        go_wp2
        go_ret
        rw [unhide HN]
        exact ⟨_, _, rfl, own_drewN (by simpa using om) m1, below_drewN hb0 m1⟩
    · have hk : inB key 0 31 = false := by simpa [hs] using hsk
      clear hsk
      go_enter Tryz.func44, Tryz.ntmps44
      go_wp2
      go_loopw [5, 6] (fun o i wr => o = .slice (some ⟨w.heap.size, 0, none⟩) 0 0 ∧ i = .int .i64 0 ∧ wr = w.alloc (.cells #[] 3)) (fun _ _ _ => 0)
      case atStart => exact ⟨rfl, rfl, rfl⟩
      case round =>
        obtain ⟨rfl, rfl, rfl⟩ := hrel
        go_wp2_with fail
        refine (storeB_store_spec A c s _ (h.new hb0) hb).mono ?_
        rintro e w1 ⟨rfl, m1, rfl⟩
        rw [hs]
        go_wp2_with fail
        refine (l1In_any key 0 31 _).mono ?_
        rintro e w' ⟨rfl, rfl⟩
        rw [hk]
        go_wp2
        go_ret
        rw [unhide HN]
        exact ⟨_, _, rfl, own_drewN (by simpa using om) m1, below_drewN hb0 m1⟩
  obtain ⟨hs, hk⟩ := hsk
  have hkb := inB_true.1 hk
  obtain ⟨q, rfl⟩ := Int.eq_ofNat_of_zero_le hkb.1
  have HN := hide (show proofL s (q : Int) = prN (valsL s) q 5 by unfold proofL; rw [if_pos ⟨hs, hk⟩]; rfl)
  have HS := hide hs
  go_enter Tryz.func44, Tryz.ntmps44
  go_wp2
  go_loopw [5, 6] (fun o i wr => ∃ (l : Nat) (A' : Option Addr) (c' : Nat), l ≤ 5 ∧ i = .int .i64 l ∧ o = .slice A' l c' ∧ wr.ownsRow w.heap.size 3 1 (.slice A' l c') l ((prN (valsL s) q l).map (.int .i64)) ∧ Below w.heap.size w wr) (fun _ i _ => 5 - (intOf i).toNat)
  case atStart => exact ⟨0, _, _, by omega, rfl, rfl, by simpa [prN] using om, hb0⟩
  case round =>
    clear om hb0
    obtain ⟨l, A', c', hl, rfl, rfl, hown, hbel⟩ := hrel
    by_cases hlt : l < 5
    · have i1 : (l : Int) < 5 := by omega
      have i2 : (l : Int) < 64 := by omega
      go_wp2_with fail
      refine (storeB_store_spec A c s _ (h.new hbel) hb).mono ?_
      rintro e w1 ⟨rfl, m1, rfl⟩
      rw [hs]
      replace hbel := below_drewN hbel m1
      replace hown := own_drewN hown m1
      generalize wr.drewN m1 = w1 at *
      clear wr
      go_wp2_with fail
      refine (l1In_any (q : Int) 0 31 _).mono ?_
      rintro e w' ⟨rfl, rfl⟩
      rw [hk]
      have HK := hide hk
      have h1 := h.new hbel
      have hll := lvN_len (valsL s) l (by omega)
      have hsb := sib_lt q (by omega) l hlt
      have hba := key_xor q l (by omega)
      have HT := hide (show prN (valsL s) q (l + 1) = prN (valsL s) q l ++ [(lvN (valsL s) l).getD ((q / 2 ^ l) ^^^ 1) 0] from rfl)
      generalize (q / 2 ^ l) ^^^ 1 = p at *
      have HL := hide (fun (wx : World) (hx : Rd wx A (s.flatMap encE)) => l3Level_any A c s l wx hx hb (unhide HS) (by omega))
      generalize lvN (valsL s) l = xs at *
      generalize hz : xs.getD p 0 = z at *
      have HZ := hide hz
      generalize 2 ^ (5 - l) = n0 at *
      have HXL := hide (show p < xs.length by omega)
      have i3 : (p : Int) < (n0 : Int) := by omega
      clear hk hll hz hs
      go_wp2
      have hF : StBL [bV ((.slice A' l c')), bV (.slice A s.length c), bV (.int .i64 (l : Int)), bIntS n0 xs, bV (.int .i64 (q : Int)), bV (.int .i64 (l : Int)), bV (.int .i64 ((q : Int) / 2 ^ l)), bV (.int .i64 (p : Int)), bPtr (.int .i64 z), bV (.int .i64 z), bRowN w1.heap.size 1 [z]] :=
        ⟨sb_V _, sb_V _, sb_V _, sb_IntS _ _, sb_V _, sb_V _, sb_V _, sb_V _, sb_Ptr _, sb_V _, sb_RowN _ _ _, trivial⟩
      go_upto_region 5 with fail
      refine wp_region_loc (by kernel_rfl) [(0, some 20), (1, some 21), (2, some 22), (3, some 23), (4, some 24), (5, some 25), (6, some 26), (7, some 27), (8, some 28), (9, some 29), (10, some 30)] [[], [], [], [(1, some 21), (2, some 22)], [], [], [(4, some 24), (5, some 25)], [(6, some 26)], [(3, some 23), (7, some 27)], [(8, some 28)], [(9, some 29)]] (by kernel_rfl)
        (locB _) (fun a b => Below a.heap.size a b) noR [0, 0, 0, 0, 0, 0, 0, 0, 0, 0, 0] 0 (by kernel_rfl) (fun _ => Below.refl _ _) (fun _ _ _ => bthen) (locB_st hF _) trivial ?_ ?_
      · refine steps_cons ?s0 ( steps_cons ?s1 ( steps_cons ?s2 ( steps_cons ?s3 ( steps_cons ?s4 ( steps_cons ?s5 ( steps_cons ?s6 ( steps_cons ?s7 ( steps_cons ?s8 ( steps_cons ?s9 ( steps_cons ?s10 steps_nil))))))))))
        case s0 =>
          intro w' m' hE hR
          intro Q hQ
          go_wp2
          exact hQ _ _ _ rfl rfl (Below.refl _ _) trivial
        case s1 =>
          intro w' m' hE hR
          intro Q hQ
          go_wp2
          exact hQ _ _ _ rfl rfl (Below.refl _ _) trivial
        case s2 =>
          intro w' m' hE hR
          intro Q hQ
          go_wp2
          exact hQ _ _ _ rfl rfl (Below.refl _ _) trivial
        case s3 =>
          intro w' m' hE hR
          rintro _ rfl _ rfl Q hQ
          go_wp2_with fail
          refine (unhide HL w' (h1.new (below_undrew hE))).mono ?_
          rintro e w1 ⟨A3, c3, rfl, o3, b1⟩
          go_wp2
          exact hQ _ _ _ rfl ⟨A3, c3, rfl, own_rd o3⟩ b1 trivial
        case s4 =>
          intro w' m' hE hR
          intro Q hQ
          go_wp2
          exact hQ _ _ _ rfl rfl (Below.refl _ _) trivial
        case s5 =>
          intro w' m' hE hR
          intro Q hQ
          go_wp2
          exact hQ _ _ _ rfl rfl (Below.refl _ _) trivial
        case s6 =>
          intro w' m' hE hR
          rintro _ rfl _ rfl Q hQ
          go_wp2
          exact hQ _ _ _ rfl rfl (Below.refl _ _) trivial
        case s7 =>
          intro w' m' hE hR
          rintro _ rfl Q hQ
          go_wp2
          exact hQ _ _ _ rfl rfl (Below.refl _ _) trivial
        case s8 =>
          intro w' m' hE hR
          rintro _ ⟨A3, c3, rfl, r3⟩ _ rfl Q hQ
          obtain ⟨b3, off3, rfl, hb3, hd⟩ := row_at r3 (unhide HXL)
          rw [unhide HZ] at hd
          go_wp2
          exact hQ _ _ _ rfl ⟨b3, off3 + p, rfl, hd, hb3⟩ (Below.refl _ _) trivial
        case s9 =>
          intro w' m' hE hR
          rintro _ ⟨g, i, rfl, hd, hg⟩ Q hQ
          go_wp2
          exact hQ _ _ _ rfl rfl (Below.refl _ _) trivial
        case s10 =>
          intro w' m' hE hR
          rintro _ rfl Q hQ
          have hs := (below_undrew hE).size
          go_wp2
          exact hQ _ _ _ rfl ⟨_, rfl, hs, Blk.new _ _ _⟩ ((Below.refl _ _).alloc (Nat.le_refl _) _) trivial
      intro w9 hE _
      rintro v0 hv0 v1 - v2 - v3 - v4 - v5 - v6 - v7 - v8 - v9 - v10 ⟨g, rfl, hg, kg⟩
      obtain rfl : v0 = _ := hv0
      change wpList _ _ _ [_, _] _ _
      simp only [Act.put, List.setIfInBounds_toArray, List.set_cons_succ, List.set_cons_zero]
      have b9 := below_undrew hE
      have o9 := own_new hown b9
      have hbel9 := bthen hbel b9
      go_wp2_with (at_builtin; refine wpList_app rfl (.tmp 20) (.tmp 30) 25 rfl el_int rfl o9 rfl (blk_rd kg) rfl (one_ints [z]) (by simp only [maxLen]; omega) (by omega) (by have := hbel9.size; omega) ?_; intro A4 c4 w4 o4 ch4 _ _)
      have hb4 := app_below' hbel9 o9 ch4 (Nat.le_refl _)
      go_roundw
      case rel => exact ⟨l + 1, A4, c4, by omega, by go_num, rfl, by rw [unhide HT]; simpa using o4, hb4⟩
      case measure => simp [intOf]; omega
    · obtain rfl : l = 5 := by omega
      have i1 : ¬ ((5 : Nat) : Int) < 5 := by omega
      go_wp2
      go_ret
      rw [unhide HN, prN_len]
      exact ⟨A', c', rfl, hown, hbel⟩
set_option maxHeartbeats 1000000 in
theorem sumOf_spec (tag : Int) (A : Option Addr) (c : Nat) (xs : List Int) (w : World) (h : Rd w A (xs.map (.int .i64))) (hb : xs.length ≤ 4611686018427387904) :
    Calls Tryz.prog 131 #[.int .i64 tag, .slice A xs.length c] w fun e w' => e = .returned (.int .i64 (sumF tag xs)) ∧ w = w' := by
  go_enter Tryz.func131, Tryz.ntmps131
  go_wp2
  go_loopw [5] (fun i wr => ∃ k : Nat, k ≤ xs.length ∧ i = .int .i64 k ∧ wr = w ∧ Hid (∀ n ∈ xs.take k, 0 ≤ n ∧ n ≤ 2000000)) (fun i _ => xs.length - (intOf i).toNat)
  case atStart => exact ⟨0, Nat.zero_le _, rfl, rfl, hide (by simp)⟩
  case round =>
    obtain ⟨k, hk, rfl, rfl, HA⟩ := hrel
    by_cases hlt : k < xs.length
    · obtain ⟨b, off, rfl, hbb, d0⟩ := h.int hlt
      have i1 : (k : Int) < (xs.length : Int) := by omega
      have HT := hide (List.take_succ_eq_append_getElem hlt)
      cases hx : inB xs[k] 0 2000000
      · have HN := hide (sumF_no (tag := tag) (xs := xs) (.inr (by
          cases hs : summed xs
          · rfl
          · have := summed_get hs hlt
            rw [inB_true.2 this] at hx
            cases hx)))
        generalize xs[k] = y at *
        go_wp2_with fail
        refine (l1In_any y 0 2000000 _).mono ?_
        rintro e w' ⟨rfl, rfl⟩
        rw [hx]
        go_wp2
        go_ret
        exact ⟨reti (unhide HN).symm, rfl⟩
      · have HX := hide (inB_true.1 hx)
        generalize xs[k] = y at *
        go_wp2_with fail
        refine (l1In_any y 0 2000000 _).mono ?_
        rintro e w' ⟨rfl, rfl⟩
        rw [hx]
        go_wp2
        go_roundw
        case rel => exact ⟨k + 1, by omega, by go_num, by trivial, hide fun n hn => by
          rw [unhide HT] at hn
          rcases List.mem_append.1 hn with hn | hn
          · exact unhide HA n hn
          · obtain rfl : n = y := by simpa using hn
            exact unhide HX⟩
        case measure => simp [intOf]; omega
    · obtain rfl : k = xs.length := by omega
      rw [List.take_length] at HA
      have HSM := hide (summed_all (unhide HA))
      cases ht : inB tag 0 9
      · have HN := hide (sumF_no (tag := tag) (xs := xs) (.inl ht))
        go_wp2_with fail
        refine (l1In_any tag 0 9 _).mono ?_
        rintro e w' ⟨rfl, rfl⟩
        rw [ht]
        go_wp2
        go_ret
        exact ⟨reti (unhide HN).symm, rfl⟩
      · have HTG := hide ht
        go_wp2_with fail
        refine (l1In_any tag 0 9 _).mono ?_
        rintro e w' ⟨rfl, rfl⟩
        rw [ht]
        clear ht
        go_wp2_with fail
        refine (l1Sum_any tag A c xs _ h hb (unhide HTG) (unhide HSM)).mono ?_
        rintro e w' ⟨rfl, rfl⟩
        go_wp2
        go_ret
        exact ⟨rfl, rfl⟩
theorem effectsSum0_impl (w : World) :
    Calls Tryz.prog 88 #[.slice none 0 0] w fun e w' => e = .returned (.int .i64 21) ∧ Below w.heap.size w w' := by
  go_enter Tryz.func88, Tryz.ntmps88
  go_wp2
  go_loopw [3, 5, 11] (fun o _ i wr => o = .slice none 0 0 ∧ i = .int .i64 0 ∧ wr = w) (fun _ _ _ _ => 0)
  case atStart => exact ⟨rfl, rfl, rfl⟩
  case round =>
    obtain ⟨rfl, rfl, rfl⟩ := hrel
    go_wp2_with fail
    refine (sum_impl 4 none 0 [] _ (Rd.nil _ _) (by simp)).mono ?_
    rintro e w' ⟨rfl, rfl⟩
    go_wp2
    go_ret
    exact ⟨reti (by decide), Below.refl _ _⟩
theorem effectsSum0_spec (A : Option Addr) (c : Nat) (w : World) :
    Calls Tryz.prog 111 #[.slice A 0 c] w fun e w' => e = .returned (.int .i64 21) ∧ Below w.heap.size w w' := by
  go_enter Tryz.func111, Tryz.ntmps111
  go_wp2
  go_loopw [3, 4] (fun o i wr => o = .slice (some ⟨w.heap.size, 0, none⟩) 0 0 ∧ i = .int .i64 0 ∧ wr = w.alloc (.cells #[] 3)) (fun _ _ _ => 0)
  case atStart => exact ⟨rfl, rfl, rfl⟩
  case round =>
    obtain ⟨rfl, rfl, rfl⟩ := hrel
    go_wp2_with fail
    refine (sumOf_spec 4 _ 0 [] _ (Rd.nil _ _) (by simp)).mono ?_
    rintro e w' ⟨rfl, rfl⟩
    go_wp2
    go_ret
    exact ⟨reti (by decide), (Below.refl _ _).alloc (Nat.le_refl _) _⟩
/-- the first block over a store -/
def fstB (s : List Ent) : Bk := if storeB s = true then ⟨0, 0, 0, [], rootL s, 21⟩ else ⟨0, 0, 0, [], 0, 0⟩
theorem info_bkS : (Tryz.prog.info? 50).map (·.size) = some 6 := by kernel_rfl
set_option maxRecDepth 100000 in
set_option maxHeartbeats 1000000 in
theorem firstBlock_impl (A : Option Addr) (c : Nat) (s : List Ent) (w : World) (h : Rd w A (s.flatMap encE)) (hb : s.length ≤ 4611686018427387904) :
    Calls Tryz.prog 68 #[.slice A s.length c] w fun e w' => e = .returned (.agg #[.int .i64 (fstB s).before, .int .i64 (fstB s).height, .int .i64 (fstB s).view, .slice none (fstB s).list.length 0, .int .i64 (fstB s).root, .int .i64 (fstB s).eff]) ∧ Below w.heap.size w w' := by
  have hb0 : Below w.heap.size w (w.alloc (.cells #[.int .i64 0, .int .i64 0, .int .i64 0, .slice none 0 0, .int .i64 0, .int .i64 0] 50)) := (Below.refl _ _).alloc (Nat.le_refl _) _
  have k0 := Blk.new w 50 #[.int .i64 0, .int .i64 0, .int .i64 0, .slice none 0 0, .int .i64 0, .int .i64 0]
  have HF := hide (fun (w2 : World) (r f : Int) (k : Blk w2 w.heap.size 50 #[.int .i64 0, .int .i64 0, .int .i64 0, .slice none 0 0, .int .i64 0, .int .i64 0]) (hB : Below w.heap.size w w2) => show Blk ((((((w2.setCell ⟨w.heap.size, 0, none⟩ (.int .i64 0)).setCell ⟨w.heap.size, 0 + 1, none⟩ (.int .i64 0)).setCell ⟨w.heap.size, 0 + 2, none⟩ (.int .i64 0)).setCell ⟨w.heap.size, 0 + 3, none⟩ (.slice none 0 0)).setCell ⟨w.heap.size, 0 + 4, none⟩ (.int .i64 r)).setCell ⟨w.heap.size, 0 + 5, none⟩ (.int .i64 f)) w.heap.size 50 #[.int .i64 0, .int .i64 0, .int .i64 0, .slice none 0 0, .int .i64 r, .int .i64 f] ∧ Below w.heap.size w ((((((w2.setCell ⟨w.heap.size, 0, none⟩ (.int .i64 0)).setCell ⟨w.heap.size, 0 + 1, none⟩ (.int .i64 0)).setCell ⟨w.heap.size, 0 + 2, none⟩ (.int .i64 0)).setCell ⟨w.heap.size, 0 + 3, none⟩ (.slice none 0 0)).setCell ⟨w.heap.size, 0 + 4, none⟩ (.int .i64 r)).setCell ⟨w.heap.size, 0 + 5, none⟩ (.int .i64 f)) from
    ⟨((((((k.set_ 0 (.int .i64 0)).set_ 1 (.int .i64 0)).set_ 2 (.int .i64 0)).set_ 3 (.slice none 0 0)).set_ 4 (.int .i64 r)).set_ 5 (.int .i64 f)), hB.trans ((chg_set6 w2 w.heap.size 0 (.int .i64 0) (.int .i64 0) (.int .i64 0) (.slice none 0 0) (.int .i64 r) (.int .i64 f)).below (fun q hq e => by omega) hB.size)⟩)
  cases hs : storeB s
  · have HV := hide (show fstB s = ⟨0, 0, 0, [], 0, 0⟩ by unfold fstB; rw [if_neg (by simp [hs])])
    go_enter Tryz.func68, Tryz.ntmps68
    go_wp2_with fail
    first
      | (refine (storeB_impl A c s _ (h.new hb0) hb).mono ?_
         rintro e w1 ⟨rfl, b1⟩)
      | (refine (storeB_store_spec A c s _ (h.new hb0) hb).mono ?_
         rintro e w1 ⟨rfl, m1, rfl⟩
         have b1 : Below (w.alloc (.cells #[.int .i64 0, .int .i64 0, .int .i64 0, .slice none 0 0, .int .i64 0, .int .i64 0] 50)).heap.size (w.alloc (.cells #[.int .i64 0, .int .i64 0, .int .i64 0, .slice none 0 0, .int .i64 0, .int .i64 0] 50)) ((w.alloc (.cells #[.int .i64 0, .int .i64 0, .int .i64 0, .slice none 0 0, .int .i64 0, .int .i64 0] 50)).drewN m1) := below_drewN (Below.refl _ _) m1
         generalize (w.alloc (.cells #[.int .i64 0, .int .i64 0, .int .i64 0, .slice none 0 0, .int .i64 0, .int .i64 0] 50)).drewN m1 = w1 at *)
    rw [hs]
    have k1 := k0.new_ b1
    have hB := bthen hb0 b1
    have KB := hide (unhide HF w1 0 0 k1 hB)
    have hl := k1.lt
    have z0 : w1.cell? ⟨w.heap.size, 0, none⟩ = some _ := k1.cell 0
    have z1 : w1.cell? ⟨w.heap.size, 1, none⟩ = some _ := k1.cell 1
    have z2 : w1.cell? ⟨w.heap.size, 2, none⟩ = some _ := k1.cell 2
    have z3 : w1.cell? ⟨w.heap.size, 3, none⟩ = some _ := k1.cell 3
    have z4 : w1.cell? ⟨w.heap.size, 4, none⟩ = some _ := k1.cell 4
    have z5 : w1.cell? ⟨w.heap.size, 5, none⟩ = some _ := k1.cell 5
    have f0 : w1.frozen? ⟨w.heap.size, 0, none⟩ = false := k1.frozen 0
    have f1 : w1.frozen? ⟨w.heap.size, 1, none⟩ = false := k1.frozen 1
    have f2 : w1.frozen? ⟨w.heap.size, 2, none⟩ = false := k1.frozen 2
    have f3 : w1.frozen? ⟨w.heap.size, 3, none⟩ = false := k1.frozen 3
    have f4 : w1.frozen? ⟨w.heap.size, 4, none⟩ = false := k1.frozen 4
    have f5 : w1.frozen? ⟨w.heap.size, 5, none⟩ = false := k1.frozen 5
    go_wp2
    obtain ⟨kb, hBe⟩ := unhide KB
    refine bodyPost_ret (v := .agg #[.int .i64 0, .int .i64 0, .int .i64 0, .slice none 0 0, .int .i64 0, .int .i64 0]) (results_cell_row rfl _ _ w.heap.size 50 #[.int .i64 0, .int .i64 0, .int .i64 0, .slice none 0 0, .int .i64 0, .int .i64 0] (0, 0) _ rfl kb Tryz.underlying50 rfl info_bkS) rfl ?_
    rw [unhide HV]
    exact ⟨rfl, hBe⟩
  have HV := hide (show fstB s = ⟨0, 0, 0, [], rootL s, 21⟩ by unfold fstB; rw [if_pos hs])
  go_enter Tryz.func68, Tryz.ntmps68
  go_wp2_with fail
  first
    | (refine (storeB_impl A c s _ (h.new hb0) hb).mono ?_
       rintro e w1 ⟨rfl, b1⟩)
    | (refine (storeB_store_spec A c s _ (h.new hb0) hb).mono ?_
       rintro e w1 ⟨rfl, m1, rfl⟩
       have b1 : Below (w.alloc (.cells #[.int .i64 0, .int .i64 0, .int .i64 0, .slice none 0 0, .int .i64 0, .int .i64 0] 50)).heap.size (w.alloc (.cells #[.int .i64 0, .int .i64 0, .int .i64 0, .slice none 0 0, .int .i64 0, .int .i64 0] 50)) ((w.alloc (.cells #[.int .i64 0, .int .i64 0, .int .i64 0, .slice none 0 0, .int .i64 0, .int .i64 0] 50)).drewN m1) := below_drewN (Below.refl _ _) m1
       generalize (w.alloc (.cells #[.int .i64 0, .int .i64 0, .int .i64 0, .slice none 0 0, .int .i64 0, .int .i64 0] 50)).drewN m1 = w1 at *)
  rw [hs]
  replace k0 := k0.new_ b1
  have hB := bthen hb0 b1
  clear b1 hs
  go_wp2_with fail
  refine (rootOf_impl A c s w1 (h.new hB) hb).mono ?_
  rintro e w2 ⟨rfl, b2⟩
  replace k0 := k0.new_ b2
  replace hB := bthen hB b2
  generalize rootL s = rt at *
  clear b2
  go_wp2_with fail
  first
    | (refine (effectsSum0_impl w2).mono ?_
       rintro e w3 ⟨rfl, b3⟩)
    | (refine (effectsSum0_spec _ _ _).mono ?_
       rintro e w3 ⟨rfl, b3⟩
       replace b3 := bthen ((Below.refl w2.heap.size w2).alloc (Nat.le_refl _) _) b3)
  have k1 := k0.new_ b3
  replace hB := bthen hB b3
  have KB := hide (unhide HF w3 rt 21 k1 hB)
  have hl := k1.lt
  have z0 : w3.cell? ⟨w.heap.size, 0, none⟩ = some _ := k1.cell 0
  have z1 : w3.cell? ⟨w.heap.size, 1, none⟩ = some _ := k1.cell 1
  have z2 : w3.cell? ⟨w.heap.size, 2, none⟩ = some _ := k1.cell 2
  have z3 : w3.cell? ⟨w.heap.size, 3, none⟩ = some _ := k1.cell 3
  have z4 : w3.cell? ⟨w.heap.size, 4, none⟩ = some _ := k1.cell 4
  have z5 : w3.cell? ⟨w.heap.size, 5, none⟩ = some _ := k1.cell 5
  have f0 : w3.frozen? ⟨w.heap.size, 0, none⟩ = false := k1.frozen 0
  have f1 : w3.frozen? ⟨w.heap.size, 1, none⟩ = false := k1.frozen 1
  have f2 : w3.frozen? ⟨w.heap.size, 2, none⟩ = false := k1.frozen 2
  have f3 : w3.frozen? ⟨w.heap.size, 3, none⟩ = false := k1.frozen 3
  have f4 : w3.frozen? ⟨w.heap.size, 4, none⟩ = false := k1.frozen 4
  have f5 : w3.frozen? ⟨w.heap.size, 5, none⟩ = false := k1.frozen 5
  go_wp2
  obtain ⟨kb, hBe⟩ := unhide KB
  refine bodyPost_ret (v := .agg #[.int .i64 0, .int .i64 0, .int .i64 0, .slice none 0 0, .int .i64 rt, .int .i64 21]) (results_cell_row rfl _ _ w.heap.size 50 #[.int .i64 0, .int .i64 0, .int .i64 0, .slice none 0 0, .int .i64 rt, .int .i64 21] (0, 0) _ rfl kb Tryz.underlying50 rfl info_bkS) rfl ?_
  rw [unhide HV]
  exact ⟨rfl, hBe⟩
set_option maxRecDepth 100000 in
set_option maxHeartbeats 1000000 in
theorem firstBlock_spec (A : Option Addr) (c : Nat) (s : List Ent) (w : World) (h : Rd w A (s.flatMap encE)) (hb : s.length ≤ 4611686018427387904) :
    Calls Tryz.prog 76 #[.slice A s.length c] w fun e w' => e = .returned (.agg #[.int .i64 (fstB s).before, .int .i64 (fstB s).height, .int .i64 (fstB s).view, .slice none (fstB s).list.length 0, .int .i64 (fstB s).root, .int .i64 (fstB s).eff]) ∧ Below w.heap.size w w' := by
  have hb0 : Below w.heap.size w (w.alloc (.cells #[.int .i64 0, .int .i64 0, .int .i64 0, .slice none 0 0, .int .i64 0, .int .i64 0] 50)) := (Below.refl _ _).alloc (Nat.le_refl _) _
  have k0 := Blk.new w 50 #[.int .i64 0, .int .i64 0, .int .i64 0, .slice none 0 0, .int .i64 0, .int .i64 0]
  have HF := hide (fun (w2 : World) (r f : Int) (k : Blk w2 w.heap.size 50 #[.int .i64 0, .int .i64 0, .int .i64 0, .slice none 0 0, .int .i64 0, .int .i64 0]) (hB : Below w.heap.size w w2) => show Blk ((((((w2.setCell ⟨w.heap.size, 0, none⟩ (.int .i64 0)).setCell ⟨w.heap.size, 0 + 1, none⟩ (.int .i64 0)).setCell ⟨w.heap.size, 0 + 2, none⟩ (.int .i64 0)).setCell ⟨w.heap.size, 0 + 3, none⟩ (.slice none 0 0)).setCell ⟨w.heap.size, 0 + 4, none⟩ (.int .i64 r)).setCell ⟨w.heap.size, 0 + 5, none⟩ (.int .i64 f)) w.heap.size 50 #[.int .i64 0, .int .i64 0, .int .i64 0, .slice none 0 0, .int .i64 r, .int .i64 f] ∧ Below w.heap.size w ((((((w2.setCell ⟨w.heap.size, 0, none⟩ (.int .i64 0)).setCell ⟨w.heap.size, 0 + 1, none⟩ (.int .i64 0)).setCell ⟨w.heap.size, 0 + 2, none⟩ (.int .i64 0)).setCell ⟨w.heap.size, 0 + 3, none⟩ (.slice none 0 0)).setCell ⟨w.heap.size, 0 + 4, none⟩ (.int .i64 r)).setCell ⟨w.heap.size, 0 + 5, none⟩ (.int .i64 f)) from
    ⟨((((((k.set_ 0 (.int .i64 0)).set_ 1 (.int .i64 0)).set_ 2 (.int .i64 0)).set_ 3 (.slice none 0 0)).set_ 4 (.int .i64 r)).set_ 5 (.int .i64 f)), hB.trans ((chg_set6 w2 w.heap.size 0 (.int .i64 0) (.int .i64 0) (.int .i64 0) (.slice none 0 0) (.int .i64 r) (.int .i64 f)).below (fun q hq e => by omega) hB.size)⟩)
  cases hs : storeB s
  · have HV := hide (show fstB s = ⟨0, 0, 0, [], 0, 0⟩ by unfold fstB; rw [if_neg (by simp [hs])])
    go_enter Tryz.func76, Tryz.ntmps76
    go_wp2_with fail
    first
      | (refine (storeB_impl A c s _ (h.new hb0) hb).mono ?_
         rintro e w1 ⟨rfl, b1⟩)
      | (refine (storeB_store_spec A c s _ (h.new hb0) hb).mono ?_
         rintro e w1 ⟨rfl, m1, rfl⟩
         have b1 : Below (w.alloc (.cells #[.int .i64 0, .int .i64 0, .int .i64 0, .slice none 0 0, .int .i64 0, .int .i64 0] 50)).heap.size (w.alloc (.cells #[.int .i64 0, .int .i64 0, .int .i64 0, .slice none 0 0, .int .i64 0, .int .i64 0] 50)) ((w.alloc (.cells #[.int .i64 0, .int .i64 0, .int .i64 0, .slice none 0 0, .int .i64 0, .int .i64 0] 50)).drewN m1) := below_drewN (Below.refl _ _) m1
         generalize (w.alloc (.cells #[.int .i64 0, .int .i64 0, .int .i64 0, .slice none 0 0, .int .i64 0, .int .i64 0] 50)).drewN m1 = w1 at *)
    rw [hs]
    have k1 := k0.new_ b1
    have hB := bthen hb0 b1
    have KB := hide (unhide HF w1 0 0 k1 hB)
    have hl := k1.lt
    have z0 : w1.cell? ⟨w.heap.size, 0, none⟩ = some _ := k1.cell 0
    have z1 : w1.cell? ⟨w.heap.size, 1, none⟩ = some _ := k1.cell 1
    have z2 : w1.cell? ⟨w.heap.size, 2, none⟩ = some _ := k1.cell 2
    have z3 : w1.cell? ⟨w.heap.size, 3, none⟩ = some _ := k1.cell 3
    have z4 : w1.cell? ⟨w.heap.size, 4, none⟩ = some _ := k1.cell 4
    have z5 : w1.cell? ⟨w.heap.size, 5, none⟩ = some _ := k1.cell 5
    have f0 : w1.frozen? ⟨w.heap.size, 0, none⟩ = false := k1.frozen 0
    have f1 : w1.frozen? ⟨w.heap.size, 1, none⟩ = false := k1.frozen 1
    have f2 : w1.frozen? ⟨w.heap.size, 2, none⟩ = false := k1.frozen 2
    have f3 : w1.frozen? ⟨w.heap.size, 3, none⟩ = false := k1.frozen 3
    have f4 : w1.frozen? ⟨w.heap.size, 4, none⟩ = false := k1.frozen 4
    have f5 : w1.frozen? ⟨w.heap.size, 5, none⟩ = false := k1.frozen 5
    go_wp2
    obtain ⟨kb, hBe⟩ := unhide KB
    refine bodyPost_ret (v := .agg #[.int .i64 0, .int .i64 0, .int .i64 0, .slice none 0 0, .int .i64 0, .int .i64 0]) (results_cell_row rfl _ _ w.heap.size 50 #[.int .i64 0, .int .i64 0, .int .i64 0, .slice none 0 0, .int .i64 0, .int .i64 0] (0, 0) _ rfl kb Tryz.underlying50 rfl info_bkS) rfl ?_
    rw [unhide HV]
    exact ⟨rfl, hBe⟩
  have HV := hide (show fstB s = ⟨0, 0, 0, [], rootL s, 21⟩ by unfold fstB; rw [if_pos hs])
  go_enter Tryz.func76, Tryz.ntmps76
  go_wp2_with fail
  first
    | (refine (storeB_impl A c s _ (h.new hb0) hb).mono ?_
       rintro e w1 ⟨rfl, b1⟩)
    | (refine (storeB_store_spec A c s _ (h.new hb0) hb).mono ?_
       rintro e w1 ⟨rfl, m1, rfl⟩
       have b1 : Below (w.alloc (.cells #[.int .i64 0, .int .i64 0, .int .i64 0, .slice none 0 0, .int .i64 0, .int .i64 0] 50)).heap.size (w.alloc (.cells #[.int .i64 0, .int .i64 0, .int .i64 0, .slice none 0 0, .int .i64 0, .int .i64 0] 50)) ((w.alloc (.cells #[.int .i64 0, .int .i64 0, .int .i64 0, .slice none 0 0, .int .i64 0, .int .i64 0] 50)).drewN m1) := below_drewN (Below.refl _ _) m1
       generalize (w.alloc (.cells #[.int .i64 0, .int .i64 0, .int .i64 0, .slice none 0 0, .int .i64 0, .int .i64 0] 50)).drewN m1 = w1 at *)
  rw [hs]
  replace k0 := k0.new_ b1
  have hB := bthen hb0 b1
  clear b1 hs
  go_wp2_with fail
  refine (rootOf_spec A c s w1 (h.new hB) hb).mono ?_
  rintro e w2 ⟨rfl, b2⟩
  replace k0 := k0.new_ b2
  replace hB := bthen hB b2
  generalize rootL s = rt at *
  clear b2
  go_wp2_with fail
  first
    | (refine (effectsSum0_impl w2).mono ?_
       rintro e w3 ⟨rfl, b3⟩)
    | (refine (effectsSum0_spec _ _ _).mono ?_
       rintro e w3 ⟨rfl, b3⟩
       replace b3 := bthen ((Below.refl w2.heap.size w2).alloc (Nat.le_refl _) _) b3)
  have k1 := k0.new_ b3
  replace hB := bthen hB b3
  have KB := hide (unhide HF w3 rt 21 k1 hB)
  have hl := k1.lt
  have z0 : w3.cell? ⟨w.heap.size, 0, none⟩ = some _ := k1.cell 0
  have z1 : w3.cell? ⟨w.heap.size, 1, none⟩ = some _ := k1.cell 1
  have z2 : w3.cell? ⟨w.heap.size, 2, none⟩ = some _ := k1.cell 2
  have z3 : w3.cell? ⟨w.heap.size, 3, none⟩ = some _ := k1.cell 3
  have z4 : w3.cell? ⟨w.heap.size, 4, none⟩ = some _ := k1.cell 4
  have z5 : w3.cell? ⟨w.heap.size, 5, none⟩ = some _ := k1.cell 5
  have f0 : w3.frozen? ⟨w.heap.size, 0, none⟩ = false := k1.frozen 0
  have f1 : w3.frozen? ⟨w.heap.size, 1, none⟩ = false := k1.frozen 1
  have f2 : w3.frozen? ⟨w.heap.size, 2, none⟩ = false := k1.frozen 2
  have f3 : w3.frozen? ⟨w.heap.size, 3, none⟩ = false := k1.frozen 3
  have f4 : w3.frozen? ⟨w.heap.size, 4, none⟩ = false := k1.frozen 4
  have f5 : w3.frozen? ⟨w.heap.size, 5, none⟩ = false := k1.frozen 5
  go_wp2
  obtain ⟨kb, hBe⟩ := unhide KB
  refine bodyPost_ret (v := .agg #[.int .i64 0, .int .i64 0, .int .i64 0, .slice none 0 0, .int .i64 rt, .int .i64 21]) (results_cell_row rfl _ _ w.heap.size 50 #[.int .i64 0, .int .i64 0, .int .i64 0, .slice none 0 0, .int .i64 rt, .int .i64 21] (0, 0) _ rfl kb Tryz.underlying50 rfl info_bkS) rfl ?_
  rw [unhide HV]
  exact ⟨rfl, hBe⟩
end Go.Proofs.YtefdhlfljpppfaaGreat
