/- Spreads: SpreadOnce of impl and spec. -/
import Derived.Test.YtcpdocpapgpclaaSpread
namespace Go.Proofs.Ytcpdocpapgpclaa
open Go.RowKit
set_option linter.unusedVariables false
set_option linter.unusedSimpArgs false

def orI (a b : Int) : Int := ((a.toNat ||| b.toNat : Nat) : Int)
def hearsB (h : Int) (j : Nat) : Bool := decide (h / 2 ^ j % 2 = 1)
/-- what a member knows that knew n and hears h, behind the first j members -/
def spN (xs : List Int) (h n : Int) : Nat → Int
  | 0 => n
  | j + 1 => if hearsB h j then orI (spN xs h n j) (xs.getD j 0) else spN xs h n j
def spreadF (xs ys : List Int) : List Int := (List.range 4).map fun m => spN xs (ys.getD m 0) (xs.getD m 0) 4
def spreadL (xs ys : List Int) : List Int := if spreadB xs ys then spreadF xs ys else []
theorem spreadF_len (xs ys : List Int) : (spreadF xs ys).length = 4 := by simp [spreadF]
theorem orI_bd {a b : Int} (ha : 0 ≤ a ∧ a ≤ 255) (hb : 0 ≤ b ∧ b ≤ 255) : 0 ≤ orI a b ∧ orI a b ≤ 255 := by
  unfold orI
  have : a.toNat ||| b.toNat < 2 ^ 8 := Nat.or_lt_two_pow (by omega) (by omega)
  omega
theorem orI_bits {a b : Int} (ha : 0 ≤ a ∧ a ≤ 255) (hb : 0 ≤ b ∧ b ≤ 255) : bits .or .i64 a b = orI a b := by
  obtain ⟨A, rfl⟩ := Int.eq_ofNat_of_zero_le ha.1
  obtain ⟨B, rfl⟩ := Int.eq_ofNat_of_zero_le hb.1
  rw [i64_or_nat A B (by omega) (by omega)]
  simp [orI]
theorem getD_bd {xs : List Int} {lo hi : Int} (h : ∀ x ∈ xs, lo ≤ x ∧ x ≤ hi) (h0 : lo ≤ 0 ∧ 0 ≤ hi) (j : Nat) : lo ≤ xs.getD j 0 ∧ xs.getD j 0 ≤ hi := by
  rw [List.getD_eq_getElem?_getD]
  rcases hj : xs[j]? with _ | x
  · simpa using h0
  · exact h x (List.mem_of_getElem? hj)
theorem spN_bd {xs : List Int} {n h : Int} (hx : ∀ x ∈ xs, 0 ≤ x ∧ x ≤ 255) (hn : 0 ≤ n ∧ n ≤ 255) (j : Nat) : 0 ≤ spN xs h n j ∧ spN xs h n j ≤ 255 := by
  induction j with
  | zero => exact hn
  | succ j ih =>
    unfold spN
    split
    · exact orI_bd ih (getD_bd hx (by omega) j)
    · exact ih

theorem Rd.intD {w : World} {A : Option Addr} {zs : List Int} (h : Rd w A (zs.map (Value.int .i64))) {k : Nat} (hk : k < zs.length) :
    ∃ b off, A = some ⟨b, off, none⟩ ∧ b < w.heap.size ∧ ∀ k, k < zs.length → w.cell? ⟨b, off + k, none⟩ = some (.int .i64 (zs.getD k 0)) := by
  obtain ⟨b, off, rfl, hb, hc⟩ := h (by simp; omega)
  exact ⟨b, off, rfl, hb, fun k hk => hc k _ (by simp [hk])⟩

theorem hears_rem {u : Int} (h : 0 ≤ u) (j : Nat) : ((u / 2 ^ j).tmod 2 == 1) = hearsB u j := by
  have h1 : 0 ≤ u / 2 ^ j := Int.ediv_nonneg h (Int.le_of_lt (Int.pow_pos (by decide)))
  rw [Int.tmod_eq_emod_of_nonneg h1]
  rfl
theorem hears_and {u : Int} (h : 0 ≤ u) (h2 : u ≤ 15) (j : Nat) : (bits .and .i64 (u / 2 ^ j) 1 == 1) = hearsB u j := by
  obtain ⟨U, rfl⟩ := Int.eq_ofNat_of_zero_le h
  have e : ((U : Int) / 2 ^ j) = ((U / 2 ^ j : Nat) : Int) := by simp
  have hle : U / 2 ^ j ≤ U := Nat.div_le_self _ _
  unfold hearsB
  rw [e, show (1 : Int) = ((1 : Nat) : Int) from rfl, i64_and_nat _ 1 (by omega) (by omega), Nat.and_one_is_mod]
  generalize U / 2 ^ j = V
  rw [Bool.eq_iff_iff]
  simp
theorem spN_yes {xs : List Int} {u n : Int} {j : Nat} (h : hearsB u j = true) : spN xs u n (j + 1) = orI (spN xs u n j) (xs.getD j 0) := by rw [spN, if_pos h]
theorem spN_no {xs : List Int} {u n : Int} {j : Nat} (h : hearsB u j = false) : spN xs u n (j + 1) = spN xs u n j := by rw [spN, if_neg (by simp [h])]
theorem spreadF_take {xs ys : List Int} {k : Nat} (hk : k < 4) : (spreadF xs ys).take (k + 1) = (spreadF xs ys).take k ++ [spN xs (ys.getD k 0) (xs.getD k 0) 4] := by
  have h : k < (spreadF xs ys).length := by rw [spreadF_len]; exact hk
  rw [List.take_succ_eq_append_getElem h]
  simp [spreadF]

set_option maxRecDepth 100000 in
theorem spreadOnce_spec (A B : Option Addr) (c d : Nat) (xs ys : List Int) (w : World) (h : Rd w A (xs.map (.int .i64))) (h' : Rd w B (ys.map (.int .i64))) (hb : xs.length ≤ 1099511627776) (hb' : ys.length ≤ 4611686018427387904) :
    Calls Try.prog 9 #[.slice A xs.length c, .slice B ys.length d] w fun e w' => ∃ A' c', e = .returned (.slice A' (spreadL xs ys).length c') ∧ w'.ownsRow w.heap.size 3 1 (.slice A' (spreadL xs ys).length c') (spreadL xs ys).length ((spreadL xs ys).map (.int .i64)) ∧ Below w.heap.size w w' := by
  cases hx : l30B xs 255
  · have HX := hide hx
    have HC := hide (show spreadL xs ys = [] by simp [spreadL, spreadB, hx])
    clear hx
    rw [unhide HC]
    have o0 := own_made (base := w.heap.size) (e := 3) (size := 1) w #[] 0 (Nat.le_refl _) (by simp [maxLen]) rfl
    by_cases h0 : 0 < xs.length
    all_goals
      go_enter Try.func9, Try.ntmps9
      go_wp2
      go_loop [5, 6] (fun s i => i = .int .i64 0 ∧ s = .slice (some ⟨w.heap.size, 0, none⟩) 0 0) (fun i _ => 0)
      case atStart => exact ⟨rfl, rfl⟩
      case round =>
        obtain ⟨rfl, rfl⟩ := hrel
        go_wp2_with fail
        first | (refine (l30_spec A c xs 255 _ (h.alloc _) (by omega)).mono ?_; rintro e w' ⟨rfl, rfl⟩; rw [unhide HX]) | skip
        go_wp2
        go_ret
        exact ⟨_, _, rfl, o0, (Below.refl _ _).alloc (Nat.le_refl _) _⟩
  · obtain ⟨hl, hv⟩ := l30_yes hx
    have HX := hide hx
    have HV := hide hv
    have HL := hide hl
    clear hx hv
    have h0 : 0 < xs.length := by omega
    have h4 : xs.length ≤ 4 := by omega
    have h4' : 4 ≤ xs.length := by omega
    clear hl
    cases hy : l30B ys 15
    · have HY := hide hy
      have HC := hide (show spreadL xs ys = [] by simp [spreadL, spreadB, hy])
      clear hy
      rw [unhide HC]
      have o0 := own_made (base := w.heap.size) (e := 3) (size := 1) w #[] 0 (Nat.le_refl _) (by simp [maxLen]) rfl
      go_enter Try.func9, Try.ntmps9
      go_wp2
      go_loop [5, 6] (fun s i => i = .int .i64 0 ∧ s = .slice (some ⟨w.heap.size, 0, none⟩) 0 0) (fun i _ => 0)
      case atStart => exact ⟨rfl, rfl⟩
      case round =>
        obtain ⟨rfl, rfl⟩ := hrel
        go_wp2_with fail
        refine (l30_spec A c xs 255 _ (h.alloc _) (by omega)).mono ?_; rintro e w' ⟨rfl, rfl⟩; rw [unhide HX]
        go_wp2_with fail
        refine (l30_spec B d ys 15 _ (h'.alloc _) (by omega)).mono ?_; rintro e w' ⟨rfl, rfl⟩; rw [unhide HY]
        go_wp2
        go_ret
        exact ⟨_, _, rfl, o0, (Below.refl _ _).alloc (Nat.le_refl _) _⟩
    · obtain ⟨hl, hv⟩ := l30_yes hy
      have HY := hide hy
      have HW := hide hv
      have HM := hide hl
      clear hv
      have h5 : ys.length ≤ 4 := by omega
      have h5' : 4 ≤ ys.length := by omega
      have HC := hide (show spreadL xs ys = spreadF xs ys by simp [spreadL, spreadB, unhide HX, hy])
      clear hl hy
      rw [unhide HC, spreadF_len]
      have o0 := own_made (base := w.heap.size) (e := 3) (size := 1) w #[] 0 (Nat.le_refl _) (by simp [maxLen]) rfl
      have hB0 : Below w.heap.size w (w.alloc (.cells #[] 3)) := (Below.refl _ _).alloc (Nat.le_refl _) _
      go_enter Try.func9, Try.ntmps9
      go_wp2
      go_loopw [5, 6] (fun s i wr => ∃ (k : Nat) (A' : Option Addr) (c' : Nat), k ≤ 4 ∧ i = .int .i64 k ∧ s = .slice A' k c' ∧ wr.ownsRow w.heap.size 3 1 (.slice A' k c') k (((spreadF xs ys).take k).map (.int .i64)) ∧ Below w.heap.size w wr) (fun _ i _ => 4 - (intOf i).toNat)
      case atStart => exact ⟨0, _, _, by omega, rfl, rfl, o0, hB0⟩
      case round =>
        obtain ⟨k, A', c', hk, rfl, rfl, own, hB⟩ := hrel
        clear o0 hB0
        by_cases hlt : k < 4
        · have hk1 : k < xs.length := by omega
          have hk2 : k < ys.length := by omega
          have g1 := h.new hB
          have g2 := h'.new hB
          obtain ⟨b, off, hA, hbb, hc⟩ := g1.intD hk1
          obtain ⟨b', off', hA', hbb', hc'⟩ := g2.intD hk2
          subst hA hA'
          have ck := hc k hk1
          have ck' := hc' k hk2
          have HCC := hide hc
          clear hc hc'
          obtain ⟨n, hn⟩ : ∃ n, n = xs.getD k 0 := ⟨_, rfl⟩
          obtain ⟨u, hu⟩ : ∃ u, u = ys.getD k 0 := ⟨_, rfl⟩
          rw [← hn] at ck
          rw [← hu] at ck'
          obtain ⟨n0, n1⟩ : 0 ≤ n ∧ n ≤ 255 := hn ▸ getD_bd (unhide HV) (by omega) k
          obtain ⟨u0, u1⟩ : 0 ≤ u ∧ u ≤ 15 := hu ▸ getD_bd (unhide HW) (by omega) k
          have HN := hide hn
          have HU := hide hu
          clear hn hu
          have HF := hide (fun j => spN_bd (h := u) (unhide HV) ⟨n0, n1⟩ j)
          go_wp2_with fail
          refine (l30_spec (some ⟨b, off, none⟩) c xs 255 wr g1 (by omega)).mono ?_; rintro e w' ⟨rfl, rfl⟩; rw [unhide HX]
          go_wp2_with fail
          refine (l30_spec (some ⟨b', off', none⟩) d ys 15 wr g2 (by omega)).mono ?_; rintro e w' ⟨rfl, rfl⟩; rw [unhide HY]
          go_wp2
          go_loop [7, 8] (fun s i => ∃ j : Nat, j ≤ 4 ∧ i = .int .i64 j ∧ s = .int .i64 (spN xs u n j)) (fun _ i => 4 - (intOf i).toNat)
          case atStart => exact ⟨0, by omega, rfl, rfl⟩
          case round =>
            obtain ⟨j, hj, rfl, rfl⟩ := hrel
            by_cases hlj : j < 4
            · have cj := unhide HCC j (by omega)
              obtain ⟨s, hs⟩ : ∃ s, s = spN xs u n j := ⟨_, rfl⟩
              obtain ⟨z, hz⟩ : ∃ z, z = xs.getD j 0 := ⟨_, rfl⟩
              rw [← hz] at cj
              rw [← hs]
              obtain ⟨s0, s1⟩ : 0 ≤ s ∧ s ≤ 255 := hs ▸ unhide HF j
              obtain ⟨z0, z1⟩ : 0 ≤ z ∧ z ≤ 255 := hz ▸ getD_bd (unhide HV) (by omega) j
              have HS := hide hs
              have HZ := hide hz
              clear hs hz
              cases ht : hearsB u j
              · have HT := hide ht
                have ht' := (hears_rem u0 j).trans ht
                clear ht
                go_wp2
                go_round
                case rel => exact ⟨j + 1, by omega, by go_num, by rw [spN_no (unhide HT), unhide HS]⟩
                case measure => simp [intOf]; omega
              · have HT := hide ht
                have ht' := (hears_rem u0 j).trans ht
                clear ht
                go_wp2
                go_round
                case rel => exact ⟨j + 1, by omega, by go_num, by rw [spN_yes (unhide HT), ← unhide HS, ← unhide HZ, orI_bits ⟨s0, s1⟩ ⟨z0, z1⟩]⟩
                case measure => simp [intOf]; omega
            · obtain rfl : j = 4 := by omega
              obtain ⟨s, hs⟩ : ∃ s, s = spN xs u n 4 := ⟨_, rfl⟩
              rw [← hs]
              have HS := hide hs
              clear hs HF HCC
              have hBk := own_block own
              go_wp2_with (at_builtin; refine wpList_app rfl (.tmp 46) (.tmp 48) 22 rfl el_int rfl (own_alloc own _) rfl (rd_lit wr [.int .i64 s] _) rfl (by simp [Value.oneCell']) (by simp only [maxLen]; omega) (by omega) (by have := hB.size; simp; omega) ?_; intro A1 c1 w1 o1 ch1 _ _)
              go_roundw
              case rel =>
                refine ⟨k + 1, A1, c1, by omega, by go_num, rfl, ?_, app_below hB own ch1 (Nat.le_refl _)⟩
                rw [spreadF_take hlt, List.map_append, ← unhide HN, ← unhide HU, ← unhide HS]
                exact o1
              case measure => simp [intOf]; omega
        · obtain rfl : k = 4 := by omega
          have g1 := h.new hB
          have g2 := h'.new hB
          have HE := hide (show (spreadF xs ys).take 4 = spreadF xs ys from List.take_of_length_le (by rw [spreadF_len]; omega))
          rw [unhide HE] at own
          by_cases h6 : 4 < xs.length
          · omega
          go_wp2
          go_ret
          exact ⟨_, _, rfl, own, hB⟩
end Go.Proofs.Ytcpdocpapgpclaa
