/- Versions, of the reference: read, drop, put (printed by gen_in.py from xversp.in). -/
import Derived.Test.YtihlhejencninaaGreatVersI
import Derived.Test.YtihlhejencninaaGreatGval
import Derived.Test.YtihlhejencninaaGreatGloc
namespace Go.Proofs.YtihlhejencninaaGreat
open Go.RowKit
set_option linter.unusedVariables false
set_option linter.unusedSimpArgs false

theorem readV_take (s : List Ent) (vs : List Ver) (key n : Int) (k : Nat) (hk : k < vs.length) : readV s (vs.take (k + 1)) key n = rdStep key n (readV s (vs.take k) key n) vs[k] := by
  unfold readV
  rw [List.take_succ_eq_append_getElem hk, List.foldl_append]
  rfl
set_option maxRecDepth 100000 in
set_option maxHeartbeats 1000000 in
theorem read_spec (A : Option Addr) (ca : Nat) (s : List Ent) (B : Option Addr) (c : Nat) (vs : List Ver) (key n : Int) (w : World) (ha : Rd w A (s.flatMap encE)) (hla : s.length ≤ 4611686018427387904) (h : Rd w B (vs.flatMap encV)) (hb : vs.length ≤ 4611686018427387904) :
    Calls Tryz.prog 161 #[.slice A s.length ca, .slice B vs.length c, .int .i64 key, .int .i64 n] w fun e w' => e = .returned (.tuple #[.int .i64 (readV s vs key n).1, .int .i64 (readV s vs key n).2]) ∧ w = w' := by
  go_enter Tryz.func161, Tryz.ntmps161
  go_wp2_with fail
  refine (l2At_any A ca s key w ha hla).mono ?_
  rintro e w' ⟨rfl, rfl⟩
  go_wp2
  go_loop [10, 11, 12] (fun x y i => ∃ (k : Nat), k ≤ vs.length ∧ i = .int .i64 k ∧ x = .int .i64 (readV s (vs.take k) key n).1 ∧ y = .int .i64 (readV s (vs.take k) key n).2) (fun _ _ i => vs.length - (intOf i).toNat)
  case atStart => exact ⟨0, Nat.zero_le _, rfl, rfl, rfl⟩
  case round =>
    obtain ⟨k, hk, rfl, rfl, rfl⟩ := hrel
    by_cases hlt : k < vs.length
    · have i1 : (k : Int) < (vs.length : Int) := by omega
      obtain ⟨b, off, hA, hbb, d0, d1, d2⟩ := h.ver hlt
      have hst := readV_take s vs key n k hlt
      generalize readV s (vs.take k) key n = acc at *
      generalize vs[k] = x at *
      have HA := hide hA
      clear hA
      rw [unhide HA]
      unfold rdStep at hst
      by_cases he : x.k = key
      · have hk1 : (x.k == key) = true := by simp [he]
        by_cases hn : x.n < n
        · rw [if_pos ⟨he, hn⟩] at hst
          have HS := hide hst
          clear hst he
          go_wp2
          go_round
          case rel => exact ⟨k + 1, by omega, by go_num, by rw [unhide HS], by rw [unhide HS]⟩
          case measure => simp [intOf]; omega
        · rw [if_neg (fun g => hn g.2)] at hst
          have HS := hide hst
          clear hst he
          go_wp2
          go_round
          case rel => exact ⟨k + 1, by omega, by go_num, by rw [unhide HS], by rw [unhide HS]⟩
          case measure => simp [intOf]; omega
      · rw [if_neg (fun g => he g.1)] at hst
        have HS := hide hst
        have hk1 : (x.k == key) = false := by simp [he]
        clear hst he
        go_wp2
        go_round
        case rel => exact ⟨k + 1, by omega, by go_num, by rw [unhide HS], by rw [unhide HS]⟩
        case measure => simp [intOf]; omega
    · obtain rfl : k = vs.length := by omega
      rw [List.take_length]
      go_wp2
      go_ret2
      exact ⟨rfl, rfl⟩
set_option maxRecDepth 100000 in
set_option maxHeartbeats 1000000 in
theorem drop_spec (A : Option Addr) (c : Nat) (vs : List Ver) (n : Int) (w : World) (h : Rd w A (vs.flatMap encV)) (hb : vs.length ≤ 1000000) :
    Calls Tryz.prog 159 #[.slice A vs.length c, .int .i64 n] w fun e w' => ∃ g c', e = .returned (.slice (some ⟨g, 0, none⟩) (dropV vs n).length c') ∧ w'.ownsRow w.heap.size 166 3 (.slice (some ⟨g, 0, none⟩) (dropV vs n).length c') (dropV vs n).length ((dropV vs n).flatMap encV) ∧ Below w.heap.size w w' := by
  go_enter Tryz.func159, Tryz.ntmps159
  go_wp2
  go_loopw [5, 6] (fun r i wr => ∃ (k g c' : Nat), k ≤ vs.length ∧ i = .int .i64 k ∧ r = .slice (some ⟨g, 0, none⟩) (dropV (vs.take k) n).length c' ∧ wr.ownsRow w.heap.size 166 3 (.slice (some ⟨g, 0, none⟩) (dropV (vs.take k) n).length c') (dropV (vs.take k) n).length ((dropV (vs.take k) n).flatMap encV) ∧ Below w.heap.size w wr) (fun _ i _ => vs.length - (intOf i).toNat)
  case atStart => exact ⟨0, _, _, Nat.zero_le _, rfl, rfl, own_made w #[] 0 (Nat.le_refl _) (by simp [maxLen]) rfl, (Below.refl _ _).alloc (Nat.le_refl _) _⟩
  case round =>
    obtain ⟨k, g, c', hk, rfl, rfl, hown, hB⟩ := hrel
    have hsz := hB.size
    by_cases hlt : k < vs.length
    · have i1 : (k : Int) < (vs.length : Int) := by omega
      obtain ⟨b, off, hA, hbb, d0, d1, d2⟩ := (h.new hB).ver hlt
      have hst : dropV (vs.take (k + 1)) n = dropV (vs.take k) n ++ (if vs[k].n = n then [] else [vs[k]]) := by
        rw [List.take_succ_eq_append_getElem hlt]
        unfold dropV
        rw [List.filter_append]
        congr 1
        by_cases e : vs[k].n = n <;> simp [e]
      have hgl : (dropV (vs.take k) n).length ≤ k := Nat.le_trans (dropV_len _ _) (by rw [List.length_take]; omega)
      generalize dropV (vs.take k) n = gs at *
      generalize vs[k] = x at *
      have HA := hide hA
      clear hA
      rw [unhide HA]
      by_cases he : x.n = n
      · rw [if_pos he, List.append_nil] at hst
        have HS := hide hst
        have hn : (x.n != n) = false := by simp [he]
        clear hst he
        go_wp2
        go_roundw
        case rel => exact ⟨k + 1, g, c', by omega, by go_num, by rw [unhide HS], by rw [unhide HS]; exact hown, hB⟩
        case measure => simp [intOf]; omega
      · rw [if_neg he] at hst
        have HS := hide hst
        have hn : (x.n != n) = true := by simp [he]
        clear hst
        have HE := hide he
        clear he
        have hrg := own_rng hown
        go_wp2_with (at_builtin; refine wpList_app rfl (.tmp 21) (.tmp 26) 93 rfl el_ver rfl (own_alloc hown _) rfl (rd_lit wr [.int .i64 x.k, .int .i64 x.n, .int .i64 x.v] _) rfl (one_vers [x]) (by simp only [maxLen]; omega) (by omega) (by simp; omega) ?_; intro A3 c3 w3 o3 ch3 _ _)
        obtain ⟨g3, hg3, -, -⟩ := own_addr o3 (by simp)
        subst hg3
        have hb3 : Below w.heap.size w w3 := (hB.alloc hsz _).trans (ch3.below (fun q hq e => by have := hrg q e; omega) (by simp; omega))
        go_roundw
        case rel => exact ⟨k + 1, g3, c3, by omega, by go_num, by rw [unhide HS]; simp, by rw [unhide HS]; simpa [encV] using o3, hb3⟩
        case measure => simp [intOf]; omega
    · obtain rfl : k = vs.length := by omega
      rw [List.take_length] at hown ⊢
      go_wp2
      go_ret
      exact ⟨g, c', rfl, hown, hB⟩
end Go.Proofs.YtihlhejencninaaGreat
