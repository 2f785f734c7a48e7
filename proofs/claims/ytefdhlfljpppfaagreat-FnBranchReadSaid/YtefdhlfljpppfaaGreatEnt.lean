/- Entries: what they are, the laws' helpers over them, and when they are valid. -/
import Derived.Test.YtefdhlfljpppfaaGreatIntS
namespace Go.Proofs.YtefdhlfljpppfaaGreat
open Go.RowKit
set_option linter.unusedVariables false
set_option linter.unusedSimpArgs false

structure Ent where
  k : Int
  v : Int
deriving DecidableEq
def encE (e : Ent) : List Value := [.int .i64 e.k, .int .i64 e.v]
theorem encE_len (e : Ent) : (encE e).length = 2 := rfl
theorem Rd.ent {w : World} {A : Option Addr} {es : List Ent} (h : Rd w A (es.flatMap encE)) {k : Nat} (hk : k < es.length) :
    ∃ b off, A = some ⟨b, off, none⟩ ∧ b < w.heap.size ∧ w.cell? ⟨b, off + k * 2, none⟩ = some (.int .i64 es[k].k) ∧ w.cell? ⟨b, off + k * 2 + 1, none⟩ = some (.int .i64 es[k].v) := by
  obtain ⟨b, off, e, hb, hc⟩ := h.flat encE 2 (fun _ => rfl) (by omega) hk
  exact ⟨b, off, e, hb, hc 0 _ rfl, hc 1 _ rfl⟩
theorem own_ent {w : World} {base : Nat} {e : TypeId} {g c n : Nat} {es : List Ent} (h : w.ownsRow base e 2 (.slice (some ⟨g, 0, none⟩) n c) n (es.flatMap encE)) {k : Nat} (hk : k < es.length) :
    (∃ u, w.cell? ⟨g, k * 2, none⟩ = some u) ∧ (∃ u, w.cell? ⟨g, k * 2 + 1, none⟩ = some u) := by
  have hl : (es.flatMap encE).length = es.length * 2 := length_flat encE 2 encE_len es
  exact ⟨⟨_, own_cell h (k * 2) (by omega)⟩, ⟨_, own_cell h (k * 2 + 1) (by omega)⟩⟩
theorem own_ent_set {w : World} {base : Nat} {e : TypeId} {g c n : Nat} {es : List Ent} (h : w.ownsRow base e 2 (.slice (some ⟨g, 0, none⟩) n c) n (es.flatMap encE)) {k : Nat} (hk : k < es.length) (x : Ent) :
    ((w.setCell ⟨g, k * 2, none⟩ (.int .i64 x.k)).setCell ⟨g, k * 2 + 1, none⟩ (.int .i64 x.v)).ownsRow base e 2 (.slice (some ⟨g, 0, none⟩) n c) n ((es.set k x).flatMap encE) := by
  have := own_set (own_set h (k * 2) (.int .i64 x.k)) (k * 2 + 1) (.int .i64 x.v)
  rw [← setAt_flat encE 2 encE_len es k hk x]
  exact this
theorem rd_ents_nil (w : World) (A : Option Addr) : Rd w A (([] : List Ent).flatMap encE) := Rd.nil w A

/-- Are entries valid behind a key: keys ascend up to 31, values are at least 'least'. -/
def evOk (least : Int) : Int → List Ent → Bool
  | _, [] => true
  | last, e :: es => inB e.k (last + 1) 31 && inB e.v least 1000000 && evOk least e.k es
def storeB (es : List Ent) : Bool := evOk 1 (-1) es
def diffB (es : List Ent) : Bool := evOk 0 (-1) es

theorem entriesValid_any (A : Option Addr) (c : Nat) (es : List Ent) (least : Int) (w : World) (h : Rd w A (es.flatMap encE)) (hb : es.length ≤ 4611686018427387904) :
    Calls Tryz.prog 93 #[.slice A es.length c, .int .i64 least] w fun e w' => e = .returned (.bool (evOk least (-1) es)) ∧ Below w.heap.size w w' := by
  go_enter Tryz.func93, Tryz.ntmps93
  go_wp2
  go_loopw [5, 10] (fun last i wr => ∃ (k : Nat) (z : Int), k ≤ es.length ∧ i = .int .i64 k ∧ last = .int .i64 z ∧ -1 ≤ z ∧ z ≤ 31 ∧ evOk least (-1) es = evOk least z (es.drop k) ∧ Below w.heap.size w wr) (fun _ i _ => es.length - (intOf i).toNat)
  case atStart => exact ⟨0, -1, Nat.zero_le _, rfl, rfl, by omega, by omega, rfl, Below.refl _ _⟩
  case round =>
    obtain ⟨k, z, hk, rfl, rfl, hz1, hz2, hev, hbel⟩ := hrel
    by_cases hlt : k < es.length
    · obtain ⟨b, off, rfl, hbb, hc1, hc2⟩ := (h.below hbel (Nat.le_refl _)).ent hlt
      rw [drop_get es k hlt] at hev
      generalize hek : es[k] = ek at *
      clear hek
      have HE := hide hev
      clear hev
      cases h1 : inB ek.k (z + 1) 31
      · go_wp2_with (go_at_call 66; refine (in_any _ _ _ _).mono ?_; rintro e w' ⟨rfl, rfl⟩)
        go_ret
        exact ⟨retb (by rw [unhide HE, evOk, h1]; rfl), hbel.alloc hbel.size _⟩
      · have hz := inB_true.1 h1
        cases h2 : inB ek.v least 1000000
        · go_wp2_with (go_at_call 66; refine (in_any _ _ _ _).mono ?_; rintro e w' ⟨rfl, rfl⟩)
          go_ret
          exact ⟨retb (by rw [unhide HE, evOk, h1, h2]; rfl), hbel.alloc hbel.size _⟩
        · go_wp2_with (go_at_call 66; refine (in_any _ _ _ _).mono ?_; rintro e w' ⟨rfl, rfl⟩)
          go_roundw
          case rel => exact ⟨k + 1, ek.k, by omega, by go_num, rfl, by omega, by omega, by rw [unhide HE, evOk, h1, h2]; rfl, hbel.alloc hbel.size _⟩
          case measure => simp [intOf]; omega
    · have hev' : evOk least (-1) es = true := by rw [hev, List.drop_of_length_le (by omega)]; rfl
      clear hev
      have HE := hide hev'
      clear hev'
      go_wp2
      go_ret
      exact ⟨retb (unhide HE).symm, hbel⟩
theorem storeB_impl (A : Option Addr) (c : Nat) (es : List Ent) (w : World) (h : Rd w A (es.flatMap encE)) (hb : es.length ≤ 4611686018427387904) :
    Calls Tryz.prog 55 #[.slice A es.length c] w fun e w' => e = .returned (.bool (storeB es)) ∧ Below w.heap.size w w' := by
  go_enter Tryz.func55, Tryz.ntmps55
  go_wp2_with fail
  refine (entriesValid_any A c es _ w h hb).mono ?_
  rintro e w' ⟨rfl, hb'⟩
  go_wp2
  go_ret
  exact ⟨rfl, hb'⟩
theorem inB_last {a z : Int} (h : -1 ≤ z) : inB a (z + 1) 31 = (inB a 0 31 && !decide (a ≤ z)) := by
  simp only [inB]
  by_cases h1 : z + 1 ≤ a <;> by_cases h2 : a ≤ 31 <;> simp [h1, h2] <;> omega
theorem storeB_store_spec (A : Option Addr) (c : Nat) (es : List Ent) (w : World) (h : Rd w A (es.flatMap encE)) (hb : es.length ≤ 4611686018427387904) :
    Calls Tryz.prog 71 #[.slice A es.length c] w fun e w' => e = .returned (.bool (storeB es)) ∧ ∃ m, w.drewN m = w' := by
  have HD := hide (show storeB es = evOk 1 (-1) es from rfl)
  go_enter Tryz.func71, Tryz.ntmps71
  go_wp2
  go_loopw [3] (fun i wr => ∃ (k : Nat) (z : Int), k ≤ es.length ∧ i = .int .i64 k ∧ -1 ≤ z ∧ z ≤ 31 ∧ (k = 0 → z = -1) ∧ (∀ (j : Nat) (hj : j < es.length), k = j + 1 → es[j].k = z) ∧ evOk 1 (-1) es = evOk 1 z (es.drop k) ∧ ∃ m, w.drewN m = wr) (fun i _ => es.length - (intOf i).toNat)
  case atStart => exact ⟨0, -1, Nat.zero_le _, rfl, by omega, by omega, fun _ => rfl, fun j hj h => absurd h (by omega), rfl, 0, rfl⟩
  case round =>
    obtain ⟨k, z, hk, rfl, hz1, hz2, hz3, hz4, hev, m, rfl⟩ := hrel
    by_cases hlt : k < es.length
    · have hz5 : ∀ b off, A = some ⟨b, off, none⟩ → 0 < k → w.cell? ⟨b, off + (k - 1) * 2, none⟩ = some (.int .i64 z) := by
        intro b off hA hk0
        obtain ⟨b', off', hA', _, hc, _⟩ := h.ent (show k - 1 < es.length by omega)
        rw [hA] at hA'
        injection hA' with hA'
        injection hA' with h1 h2
        subst h1
        subst h2
        rw [hc, hz4 (k - 1) (by omega) (by omega)]
      obtain ⟨b, off, rfl, hbb, hc1, hc2⟩ := h.ent hlt
      have hz6 := hz5 b off rfl
      clear hz5
      rw [drop_get es k hlt] at hev
      generalize hek : es[k] = ek at *
      have HK := hide hek
      clear hek hz4
      have HE := hide hev
      have HZ := hide hz3
      clear hev hz3
      have c1 : (w.drewN m).cell? ⟨b, off + k * 2, none⟩ = some (.int .i64 ek.k) := hc1
      have c2 : (w.drewN m).cell? ⟨b, off + k * 2 + 1, none⟩ = some (.int .i64 ek.v) := hc2
      have i1 : (k : Int) < (es.length : Int) := by omega
      cases h1 : inB ek.k 0 31
      · go_wp2
        go_quiet ((go_at_call 41; first | exact quiet_left (l1In_any _ _ _ _) | exact quiet_add_left (l1In_any _ _ _ _)))
        go_wp2
        go_ret
        exact ⟨retb (by rw [unhide HD, unhide HE, evOk, inB_last hz1, h1]; rfl), _, by rw [World.drewN_drewN]⟩
      · have hz := inB_true.1 h1
        cases h2 : inB ek.v 1 1000000
        · go_wp2
          go_quiet ((go_at_call 41; first | exact quiet_left (l1In_any _ _ _ _) | exact quiet_add_left (l1In_any _ _ _ _)))
          go_wp2
          go_ret
          exact ⟨retb (by rw [unhide HD, unhide HE, evOk, h2]; simp), _, by rw [World.drewN_drewN]⟩
        · by_cases hk0 : 0 < k
          · obtain ⟨j, rfl⟩ : ∃ j, k = j + 1 := ⟨k - 1, by omega⟩
            have hc3 := hz6 hk0
            rw [Nat.add_sub_cancel] at hc3
            have c3 : (w.drewN m).cell? ⟨b, off + j * 2, none⟩ = some (.int .i64 z) := hc3
            clear hz6
            by_cases h3 : ek.k ≤ z
            · have g3 : decide (ek.k ≤ z) = true := by simpa using h3
              go_wp2
              go_quiet ((go_at_call 41; first | exact quiet_left (l1In_any _ _ _ _) | exact quiet_add_left (l1In_any _ _ _ _)))
              go_wp2
              go_ret
              exact ⟨retb (by rw [unhide HD, unhide HE, evOk, inB_last hz1]; simp [h3]), _, by rw [World.drewN_drewN]⟩
            · have g3 : decide (ek.k ≤ z) = false := by simpa using h3
              go_wp2
              go_quiet ((go_at_call 41; first | exact quiet_left (l1In_any _ _ _ _) | exact quiet_add_left (l1In_any _ _ _ _)))
              go_wp2
              go_roundw
              case rel =>
                refine ⟨j + 1 + 1, ek.k, by omega, by go_num, by omega, by omega, fun h => absurd h (by omega), fun i hi h => ?_, ?_, _, rfl⟩
                · obtain rfl : i = j + 1 := by omega
                  rw [unhide HK]
                · rw [unhide HE, evOk, inB_last hz1, h1, h2, g3]; rfl
              case measure => simp [intOf]; omega
          · have hz0 := hide (unhide HZ (show k = 0 by omega))
            have g0 : decide (0 < k) = false := by rw [decide_eq_false_iff_not]; omega
            have HK0 := hide (show k = 0 by omega)
            clear hz6 hk0
            go_wp2
            go_quiet ((go_at_call 41; first | exact quiet_left (l1In_any _ _ _ _) | exact quiet_add_left (l1In_any _ _ _ _)))
            go_wp2
            go_roundw
            case rel =>
              refine ⟨k + 1, ek.k, by omega, by go_num, by omega, by omega, fun h => absurd h (by omega), fun i hi h => ?_, ?_, _, rfl⟩
              · obtain rfl : i = k := by omega
                rw [unhide HK]
              · rw [unhide HE, evOk, inB_last hz1, h1, h2]
                have hz0' := unhide hz0
                have : ¬ ek.k ≤ z := by omega
                simp [this]
            case measure => simp [intOf]; omega
    · have hev' : evOk 1 (-1) es = true := by rw [hev, List.drop_of_length_le (by omega)]; rfl
      clear hev hz3 hz4
      have HE := hide hev'
      clear hev'
      go_wp2
      go_ret
      exact ⟨retb ((unhide HD).trans (unhide HE)).symm, _, rfl⟩
theorem diffB_writes_spec (A : Option Addr) (c : Nat) (es : List Ent) (w : World) (h : Rd w A (es.flatMap encE)) (hb : es.length ≤ 4611686018427387904) :
    Calls Tryz.prog 133 #[.slice A es.length c] w fun e w' => e = .returned (.bool (diffB es)) ∧ ∃ m, w.drewN m = w' := by
  have HD := hide (show diffB es = evOk 0 (-1) es from rfl)
  go_enter Tryz.func133, Tryz.ntmps133
  go_wp2
  go_loopw [3] (fun i wr => ∃ (k : Nat) (z : Int), k ≤ es.length ∧ i = .int .i64 k ∧ -1 ≤ z ∧ z ≤ 31 ∧ (k = 0 → z = -1) ∧ (∀ (j : Nat) (hj : j < es.length), k = j + 1 → es[j].k = z) ∧ evOk 0 (-1) es = evOk 0 z (es.drop k) ∧ ∃ m, w.drewN m = wr) (fun i _ => es.length - (intOf i).toNat)
  case atStart => exact ⟨0, -1, Nat.zero_le _, rfl, by omega, by omega, fun _ => rfl, fun j hj h => absurd h (by omega), rfl, 0, rfl⟩
  case round =>
    obtain ⟨k, z, hk, rfl, hz1, hz2, hz3, hz4, hev, m, rfl⟩ := hrel
    by_cases hlt : k < es.length
    · have hz5 : ∀ b off, A = some ⟨b, off, none⟩ → 0 < k → w.cell? ⟨b, off + (k - 1) * 2, none⟩ = some (.int .i64 z) := by
        intro b off hA hk0
        obtain ⟨b', off', hA', _, hc, _⟩ := h.ent (show k - 1 < es.length by omega)
        rw [hA] at hA'
        injection hA' with hA'
        injection hA' with h1 h2
        subst h1
        subst h2
        rw [hc, hz4 (k - 1) (by omega) (by omega)]
      obtain ⟨b, off, rfl, hbb, hc1, hc2⟩ := h.ent hlt
      have hz6 := hz5 b off rfl
      clear hz5
      rw [drop_get es k hlt] at hev
      generalize hek : es[k] = ek at *
      have HK := hide hek
      clear hek hz4
      have HE := hide hev
      have HZ := hide hz3
      clear hev hz3
      have c1 : (w.drewN m).cell? ⟨b, off + k * 2, none⟩ = some (.int .i64 ek.k) := hc1
      have c2 : (w.drewN m).cell? ⟨b, off + k * 2 + 1, none⟩ = some (.int .i64 ek.v) := hc2
      have i1 : (k : Int) < (es.length : Int) := by omega
      cases h1 : inB ek.k 0 31
      · go_wp2
        go_quiet ((go_at_call 41; first | exact quiet_left (l1In_any _ _ _ _) | exact quiet_add_left (l1In_any _ _ _ _)))
        go_wp2
        go_ret
        exact ⟨retb (by rw [unhide HD, unhide HE, evOk, inB_last hz1, h1]; rfl), _, by rw [World.drewN_drewN]⟩
      · have hz := inB_true.1 h1
        cases h2 : inB ek.v 0 1000000
        · go_wp2
          go_quiet ((go_at_call 41; first | exact quiet_left (l1In_any _ _ _ _) | exact quiet_add_left (l1In_any _ _ _ _)))
          go_wp2
          go_ret
          exact ⟨retb (by rw [unhide HD, unhide HE, evOk, h2]; simp), _, by rw [World.drewN_drewN]⟩
        · by_cases hk0 : 0 < k
          · obtain ⟨j, rfl⟩ : ∃ j, k = j + 1 := ⟨k - 1, by omega⟩
            have hc3 := hz6 hk0
            rw [Nat.add_sub_cancel] at hc3
            have c3 : (w.drewN m).cell? ⟨b, off + j * 2, none⟩ = some (.int .i64 z) := hc3
            clear hz6
            by_cases h3 : ek.k ≤ z
            · have g3 : decide (ek.k ≤ z) = true := by simpa using h3
              go_wp2
              go_quiet ((go_at_call 41; first | exact quiet_left (l1In_any _ _ _ _) | exact quiet_add_left (l1In_any _ _ _ _)))
              go_wp2
              go_ret
              exact ⟨retb (by rw [unhide HD, unhide HE, evOk, inB_last hz1]; simp [h3]), _, by rw [World.drewN_drewN]⟩
            · have g3 : decide (ek.k ≤ z) = false := by simpa using h3
              go_wp2
              go_quiet ((go_at_call 41; first | exact quiet_left (l1In_any _ _ _ _) | exact quiet_add_left (l1In_any _ _ _ _)))
              go_wp2
              go_roundw
              case rel =>
                refine ⟨j + 1 + 1, ek.k, by omega, by go_num, by omega, by omega, fun h => absurd h (by omega), fun i hi h => ?_, ?_, _, rfl⟩
                · obtain rfl : i = j + 1 := by omega
                  rw [unhide HK]
                · rw [unhide HE, evOk, inB_last hz1, h1, h2, g3]; rfl
              case measure => simp [intOf]; omega
          · have hz0 := hide (unhide HZ (show k = 0 by omega))
            have g0 : decide (0 < k) = false := by rw [decide_eq_false_iff_not]; omega
            have HK0 := hide (show k = 0 by omega)
            clear hz6 hk0
            go_wp2
            go_quiet ((go_at_call 41; first | exact quiet_left (l1In_any _ _ _ _) | exact quiet_add_left (l1In_any _ _ _ _)))
            go_wp2
            go_roundw
            case rel =>
              refine ⟨k + 1, ek.k, by omega, by go_num, by omega, by omega, fun h => absurd h (by omega), fun i hi h => ?_, ?_, _, rfl⟩
              · obtain rfl : i = k := by omega
                rw [unhide HK]
              · rw [unhide HE, evOk, inB_last hz1, h1, h2]
                have hz0' := unhide hz0
                have : ¬ ek.k ≤ z := by omega
                simp [this]
            case measure => simp [intOf]; omega
    · have hev' : evOk 0 (-1) es = true := by rw [hev, List.drop_of_length_le (by omega)]; rfl
      clear hev hz3 hz4
      have HE := hide hev'
      clear hev'
      go_wp2
      go_ret
      exact ⟨retb ((unhide HD).trans (unhide HE)).symm, _, rfl⟩
end Go.Proofs.YtefdhlfljpppfaaGreat
