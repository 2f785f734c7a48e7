/- Versions put, of the reference (printed by gen_in.py from xputv.in). -/
import Derived.Test.YtihlhejencninaaGreatVersP
import Derived.Test.YtihlhejencninaaGreatCopyE
namespace Go.Proofs.YtihlhejencninaaGreat
open Go.RowKit
set_option linter.unusedVariables false
set_option linter.unusedSimpArgs false

theorem insV_at {x : Ver} : ∀ {vs : List Ver} {at_ : Nat}, at_ ≤ vs.length → (∀ j (hj : j < vs.length), j < at_ → ltV vs[j] x) → (∀ h : at_ < vs.length, ¬ ltV vs[at_] x) → insV x vs = vs.take at_ ++ x :: vs.drop at_
  | [], at_, h, _, _ => by
    have : at_ = 0 := by simpa using h
    subst this
    rfl
  | y :: ys, 0, _, _, h2 => by
    have h3 : ¬ ltV y x := h2 (by simp)
    rw [insV, if_neg h3]
    rfl
  | y :: ys, at_ + 1, h, h1, h2 => by
    have h0 : ltV y x := h1 0 (by simp) (by omega)
    rw [insV, if_pos h0, insV_at (at_ := at_) (by simpa using h) (fun j hj hja => h1 (j + 1) (by simpa using hj) (by omega)) (fun hh => h2 (by simpa using hh))]
    rfl
theorem own_take {w : World} {base : Nat} {e : TypeId} {size n c : Nat} {A : Option Addr} {xs : List Value} (h : w.ownsRow base e size (.slice A n c) n xs) (m : Nat) (hm : m ≤ n) : w.ownsRow base e size (.slice A m c) m (xs.take (m * size)) := by
  refine ⟨by rw [List.length_take, h.1]; exact Nat.min_eq_left (Nat.mul_le_mul_right _ hm), ?_⟩
  rcases h.2 with ⟨hv, h2⟩ | ⟨g, cap, cur, hv, hg, hh, hn, hml, hsz, htk⟩
  · injection hv with e1 e2 e3
    have : m = 0 := by omega
    subst this
    subst e1
    subst e3
    exact .inl ⟨rfl, by simp⟩
  · injection hv with e1 e2 e3
    exact .inr ⟨g, cap, cur, by rw [e1, e3], hg, hh, by omega, hml, hsz, by rw [← htk, List.take_take]; congr 1; exact (Nat.min_eq_left (Nat.mul_le_mul_right _ hm)).symm⟩
theorem drop_flatV (us : List Ver) (j : Nat) : (us.flatMap encV).drop (j * 3) = (us.drop j).flatMap encV := by
  have h1 := take_flat encV 3 (fun _ => rfl) us j
  have h2 : us.flatMap encV = (us.take j).flatMap encV ++ (us.drop j).flatMap encV := by rw [← List.flatMap_append, List.take_append_drop]
  have h3 : (us.flatMap encV).take (j * 3) ++ (us.flatMap encV).drop (j * 3) = (us.take j).flatMap encV ++ (us.drop j).flatMap encV := by rw [List.take_append_drop]; exact h2
  rw [h1] at h3
  exact List.append_cancel_left h3
theorem rd_dropV {w : World} {g : Nat} {us : List Ver} (h : Rd w (some ⟨g, 0, none⟩) (us.flatMap encV)) (j : Nat) : Rd w (some ⟨g, j * 3, none⟩) ((us.drop j).flatMap encV) := by
  have := (RdP.of_rd (P := fun _ => True) h fun _ _ _ => trivial).drop (j * 3)
  rw [drop_flatV, Nat.zero_add] at this
  exact this.rd
theorem below_undrew' {B : Nat} {a b : World} (h : Below B a.drew b) : Below B a b := ⟨h.os, h.tape, h.output, h.size, h.block⟩
theorem chg_undrew' {S : Nat → Prop} {a b : World} (h : Chg S a.drew b) : Chg S a b := ⟨h.os, h.tape, h.output, h.size, h.block⟩
/-- the front of a row, before and behind one append -/
def RP (base j : Nat) (A' : Option Addr) (c' : Nat) (xs ys : List Value) (b : Bool) (vs : Nat → Value) (w : World) : Prop := (b = false → w.ownsRow base 166 3 (.slice A' j c') j xs) ∧ (b = true → ∃ A5 c5, vs 5 = .slice A5 (j + 1) c5 ∧ w.ownsRow base 166 3 (.slice A5 (j + 1) c5) (j + 1) ys)
theorem RP.other {base j : Nat} {A' : Option Addr} {c' : Nat} {xs ys : List Value} {b : Bool} {vs : Nat → Value} {w : World} (h : RP base j A' c' xs ys b vs w) (i : Nat) (v : Value) (h5 : i ≠ 5) : RP base j A' c' xs ys (i == 5 || b) (fun j => if j = i then v else vs j) w := by
  have : (i == 5) = false := by simp [h5]
  rw [this, Bool.false_or]
  refine ⟨h.1, fun hb => ?_⟩
  obtain ⟨A5, c5, e1, e2⟩ := h.2 hb
  exact ⟨A5, c5, by simp only [if_neg (fun e : 5 = i => h5 e.symm)]; exact e1, e2⟩
theorem RP.lay {base j : Nat} {A' : Option Addr} {c' : Nat} {xs ys : List Value} {vs : Nat → Value} {w : World} (h : RP base j A' c' xs ys false vs w) (o : Obj) (i : Nat) (vs' : Nat → Value) (h5 : i ≠ 5) : RP base j A' c' xs ys (i == 5 || false) vs' (w.alloc o) := by
  have : (i == 5) = false := by simp [h5]
  rw [this]
  exact ⟨fun _ => own_alloc (h.1 rfl) o, fun hb => by cases hb⟩
/-- a row of one, outside the block of another row -/
def LR (A' : Option Addr) (cs : List Value) (v : Value) (w : World) : Prop := ∃ q, v = .slice (some ⟨q, 0, none⟩) 1 1 ∧ RdP (fun k => A' ≠ some ⟨k, 0, none⟩) w (some ⟨q, 0, none⟩) cs
theorem gne {g g' : Nat} (h : g' < g) : ¬ (some (⟨g', 0, none⟩ : Addr) = some ⟨g, 0, none⟩) := fun e => by
  injection e with e
  injection e with e
  omega
theorem info_ver3 : (Tryz.prog.info? 166).map (·.size) = some 3 := by kernel_rfl
theorem ver3_one (a b c : Int) : (#[Value.int .i64 a, .int .i64 b, .int .i64 c]).all (·.oneCell') = true := by
  rw [Array.all_eq_true_iff_forall_mem]
  intro x hx
  simp at hx
  rcases hx with rfl | rfl | rfl <;> rfl
set_option maxRecDepth 100000 in
set_option maxHeartbeats 4000000 in
theorem put1_spec (A : Option Addr) (c : Nat) (vs : List Ver) (n : Int) (B : Option Addr) (cb : Nat) (ws : List Ent) (w : World) (h : Rd w A (vs.flatMap encV)) (hb : vs.length ≤ 100000) (hw : Rd w B (ws.flatMap encE)) (hbw : ws.length ≤ 100000) :
    Calls Tryz.prog 156 #[.slice A vs.length c, .int .i64 n, .slice B ws.length cb] w fun e w' => ∃ A' c', e = .returned (.slice A' (putW vs n ws).length c') ∧ w'.ownsRow w.heap.size 166 3 (.slice A' (putW vs n ws).length c') (putW vs n ws).length ((putW vs n ws).flatMap encV) ∧ Below w.heap.size w w' := by
  have HP := hide (show putW vs n ws = insAll n (dropV vs n) ws from rfl)
  have hdl := dropV_len vs n
  go_enter Tryz.func156, Tryz.ntmps156
  go_wp2_with fail
  refine (drop_spec A c vs n w h (by omega)).mono ?_
  rintro e w1 ⟨g1, c1, rfl, o1, b1⟩
  have hw1 := b1.size
  generalize dropV vs n = ds at *
  go_wp2
  go_loopw [7, 8, 9, 10, 11] (fun r i _ _ _ wr => ∃ (k g' c' : Nat), k ≤ ws.length ∧ i = .int .i64 k ∧ r = .slice (some ⟨g', 0, none⟩) (insAll n ds (ws.take k)).length c' ∧ wr.ownsRow w.heap.size 166 3 (.slice (some ⟨g', 0, none⟩) (insAll n ds (ws.take k)).length c') (insAll n ds (ws.take k)).length ((insAll n ds (ws.take k)).flatMap encV) ∧ Below w.heap.size w wr) (fun _ i _ _ _ _ => ws.length - (intOf i).toNat)
  case atStart => exact ⟨0, g1, c1, Nat.zero_le _, rfl, rfl, o1, b1⟩
  case round =>
    clear o1 b1
    obtain ⟨k, g', c', hk, rfl, rfl, hown, hB⟩ := hrel
    have hsz := hB.size
    by_cases hlt : k < ws.length
    · have i1 : (k : Int) < (ws.length : Int) := by omega
      obtain ⟨bw, ow, hBw, hbw', e0, e1⟩ := (hw.new hB).ent hlt
      have HT := hide (show insAll n ds (ws.take (k + 1)) = insV ⟨ws[k].k, n, ws[k].v⟩ (insAll n ds (ws.take k)) by rw [List.take_succ_eq_append_getElem hlt, insAll_snoc])
      have hul : (insAll n ds (ws.take k)).length ≤ ds.length + k := by rw [insAll_len, List.length_take]; omega
      generalize insAll n ds (ws.take k) = us at *
      generalize ws[k] = x at *
      have HBW := hide hBw
      clear hBw
      rw [unhide HBW]
      obtain ⟨wo, hwo⟩ : ∃ wo, wo = wr := ⟨_, rfl⟩
      rw [← hwo] at hown hB hsz e0 e1 hbw' ⊢
      clear hwo
      have hF : StBL [bV (.slice (some ⟨bw, ow, none⟩) ws.length cb), bV (.int .i64 (k : Int)), bV (.pointer (some ⟨bw, ow + k * 2, none⟩)), bV (.pointer (some ⟨bw, ow + k * 2, none⟩)), bV (.int .i64 x.k), bV (.int .i64 n), bV (.slice (some ⟨bw, ow, none⟩) ws.length cb), bV (.int .i64 (k : Int)), bV (.pointer (some ⟨bw, ow + k * 2, none⟩)), bV (.pointer (some ⟨bw, ow + k * 2 + 1, none⟩)), bV (.int .i64 x.v), bV (.agg #[.int .i64 x.k, .int .i64 n, .int .i64 x.v]), newBox wo.heap.size 166 #[.int .i64 0, .int .i64 0, .int .i64 0]] :=
        ⟨sb_V _, sb_V _, sb_V _, sb_V _, sb_V _, sb_V _, sb_V _, sb_V _, sb_V _, sb_V _, sb_V _, sb_V _, sb_newBox _ _ _, trivial⟩
      go_upto_region 5 with fail
      refine wp_region_loc (by kernel_rfl) [(0, some 21), (1, some 22), (2, some 23), (3, some 24), (4, some 25), (5, some 26), (6, some 27), (7, some 28), (8, some 29), (9, some 30), (10, some 31), (11, some 32), (12, some 9)] [[], [], [(0, some 21), (1, some 22)], [(2, some 23)], [(3, some 24)], [], [], [], [(6, some 27), (7, some 28)], [(8, some 29)], [(9, some 30)], [(4, some 25), (5, some 26), (10, some 31)], []] (by kernel_rfl)
        (locB _) (fun a b => Below a.heap.size a b) noR [0, 0, 0, 0, 0, 0, 0, 0, 0, 0, 0, 0, 0] 0 (by kernel_rfl) (fun _ => Below.refl _ _) (fun _ _ _ => bthen) (locB_st hF _) trivial ?_ ?_
      · refine steps_cons ?s0 ( steps_cons ?s1 ( steps_cons ?s2 ( steps_cons ?s3 ( steps_cons ?s4 ( steps_cons ?s5 ( steps_cons ?s6 ( steps_cons ?s7 ( steps_cons ?s8 ( steps_cons ?s9 ( steps_cons ?s10 ( steps_cons ?s11 ( steps_cons ?s12 steps_nil))))))))))))
        case s0 =>
          intro w' m' hE hR
          intro Q hQ
          go_wp2
          exact hQ _ _ _ rfl rfl (Below.refl _ _) trivial
        case s1 =>
          intro w' m' hE hR
          intro Q hQ
          go_wp2
          exact hQ _ _ _ rfl rfl (Below.refl _ _) trivial
        case s2 =>
          intro w' m' hE hR
          rintro _ rfl _ rfl Q hQ
          go_wp2
          exact hQ _ _ _ rfl rfl (Below.refl _ _) trivial
        case s3 =>
          intro w' m' hE hR
          rintro _ rfl Q hQ
          go_wp2
          exact hQ _ _ _ rfl rfl (Below.refl _ _) trivial
        case s4 =>
          intro w' m' hE hR
          rintro _ rfl Q hQ
          have bb := below_undrew hE
          have t0 := (bb.cell (p := ⟨bw, ow + k * 2, none⟩) hbw').trans e0
          have t1 := (bb.cell (p := ⟨bw, ow + k * 2 + 1, none⟩) hbw').trans e1
          go_wp2
          exact hQ _ _ _ rfl rfl (Below.refl _ _) trivial
        case s5 =>
          intro w' m' hE hR
          intro Q hQ
          go_wp2
          exact hQ _ _ _ rfl rfl (Below.refl _ _) trivial
        case s6 =>
          intro w' m' hE hR
          intro Q hQ
          go_wp2
          exact hQ _ _ _ rfl rfl (Below.refl _ _) trivial
        case s7 =>
          intro w' m' hE hR
          intro Q hQ
          go_wp2
          exact hQ _ _ _ rfl rfl (Below.refl _ _) trivial
        case s8 =>
          intro w' m' hE hR
          rintro _ rfl _ rfl Q hQ
          go_wp2
          exact hQ _ _ _ rfl rfl (Below.refl _ _) trivial
        case s9 =>
          intro w' m' hE hR
          rintro _ rfl Q hQ
          go_wp2
          exact hQ _ _ _ rfl rfl (Below.refl _ _) trivial
        case s10 =>
          intro w' m' hE hR
          rintro _ rfl Q hQ
          have bb := below_undrew hE
          have t0 := (bb.cell (p := ⟨bw, ow + k * 2, none⟩) hbw').trans e0
          have t1 := (bb.cell (p := ⟨bw, ow + k * 2 + 1, none⟩) hbw').trans e1
          go_wp2
          exact hQ _ _ _ rfl rfl (Below.refl _ _) trivial
        case s11 =>
          intro w' m' hE hR
          rintro _ rfl _ rfl _ rfl Q hQ
          go_wp2
          exact hQ _ _ _ rfl rfl (Below.refl _ _) trivial
        case s12 =>
          intro w' m' hE hR
          intro Q hQ
          have hsz := hE.size
          go_wp2
          exact hQ _ _ _ rfl ⟨w'.heap.size, rfl, hsz, Blk.new _ _ _⟩ ((Below.refl _ _).alloc (Nat.le_refl _) _) trivial
      intro w9 hE _
      rintro v0 - v1 - v2 - v3 - v4 - v5 - v6 - v7 - v8 - v9 - v10 - v11 hv11 v12 ⟨g, rfl, hg, kg⟩
      obtain rfl : v11 = _ := hv11
      change wpList _ _ _ [_] _ _
      simp only [Act.put, List.setIfInBounds_toArray, List.set_cons_succ, List.set_cons_zero]
      have b9 := below_undrew hE
      clear hE hF
      have hgl := kg.lt
      go_wp2_with (refine wpList_store_row rfl 166 (.tmp 9) (.tmp 32) rfl g #[.int .i64 x.k, .int .i64 n, .int .i64 x.v] rfl rfl 166 #[.int .i64 0, .int .i64 0, .int .i64 0] kg info_ver3 rfl (ver3_one _ _ _) ?_; refine at_world (C := fun W => wpList _ _ _ _ _ W) (F := fun W2 => Blk W2 g 166 #[.int .i64 x.k, .int .i64 n, .int .i64 x.v] ∧ Below wo.heap.size wo W2) ⟨blk_setRow kg, below_setRow b9 hg _⟩ ?_; clear kg b9 hgl; rintro W2 ⟨kg, b9⟩; have hgl := kg.lt)
      have hown2 := own_new hown b9
      have hrd2 := own_rd hown2
      have hgg : g' < g := by have := (own_rng hown g' rfl).2; omega
      have hcap := own_cap hown2
      have y0 : W2.cell? ⟨g, 0, none⟩ = some (.int .i64 x.k) := kg.cell 0
      have y1 : W2.cell? ⟨g, 1, none⟩ = some (.int .i64 n) := kg.cell 1
      have y2 : W2.cell? ⟨g, 2, none⟩ = some (.int .i64 x.v) := kg.cell 2
      clear e0 e1
      go_loopw [10] (fun i wr => ∃ (j m : Nat), j ≤ us.length ∧ i = .int .i64 j ∧ Hid (∀ i (hi : i < us.length), i < j → ltV us[i] ⟨x.k, n, x.v⟩) ∧ wr = W2.drewN m) (fun i _ => us.length - (intOf i).toNat)
      case atStart => exact ⟨0, 0, Nat.zero_le _, rfl, hide (fun i _ h => absurd h (by omega)), rfl⟩
      case round =>
        obtain ⟨j, m, hj, rfl, HL, rfl⟩ := hrel
        by_cases hjt : j < us.length
        · have j1 : (j : Int) < (us.length : Int) := by omega
          obtain ⟨b, off, hA, hbb, d0, d1, d2⟩ := hrd2.ver hjt
          have HLT := hide (show ltV us[j] ⟨x.k, n, x.v⟩ ↔ (us[j].k < x.k ∨ us[j].k = x.k ∧ us[j].n < n) from Iff.rfl)
          have HLX := hide (fun (h : ltV us[j] ⟨x.k, n, x.v⟩) => show ∀ i (hi : i < us.length), i < j + 1 → ltV us[i] ⟨x.k, n, x.v⟩ from fun i hi hij => by
            by_cases e : i = j
            · subst e; exact h
            · exact unhide HL i hi (by omega))
          have HINS := hide (fun (h : ¬ ltV us[j] ⟨x.k, n, x.v⟩) => insV_at (x := ⟨x.k, n, x.v⟩) hj (unhide HL) (fun _ => h))
          generalize us[j] = y at *
          injection hA with hA
          injection hA with hA3 hA4
          subst hA3
          subst hA4
          rw [Nat.zero_add] at d0 d1 d2
          by_cases h1 : y.k < x.k
          · have t1 : decide (y.k < x.k) = true := by simp [h1]
            have HT1 := hide ((unhide HLT).2 (.inl h1))
            clear h1
            go_wp2
            go_quiet (fail)
            go_wp2
            go_roundw
            case rel => exact ⟨j + 1, _, by omega, by go_num, hide (unhide HLX (unhide HT1)), rfl⟩
            case measure => simp [intOf]; omega
          · have t1 : decide (y.k < x.k) = false := by simp [h1]
            by_cases h2 : y.k = x.k
            · have t2 : (y.k == x.k) = true := by simp [h2]
              by_cases h3 : y.n < n
              · have t3 : decide (y.n < n) = true := by simp [h3]
                have HT1 := hide ((unhide HLT).2 (.inr ⟨h2, h3⟩))
                clear h1 h2 h3
                go_wp2
                go_quiet (fail)
                go_wp2
                go_roundw
                case rel => exact ⟨j + 1, _, by omega, by go_num, hide (unhide HLX (unhide HT1)), rfl⟩
                case measure => simp [intOf]; omega
              · have t3 : decide (y.n < n) = false := by simp [h3]
                have HI := hide (unhide HINS (fun h => by rcases (unhide HLT).1 h with h | h <;> omega))
                have hc : ¬ c' = j := by omega
                clear h1 h2 h3 HINS
                have HINS := HI
                go_wp2
                go_quiet (fail)
                refine at_world (C := fun W => Exit.then _ _ Exit.normal _ W) (F := fun V => Blk V g 166 #[.int .i64 x.k, .int .i64 n, .int .i64 x.v] ∧ V.ownsRow w.heap.size 166 3 (.slice (some ⟨g', 0, none⟩) us.length c') us.length (us.flatMap encV) ∧ Below wo.heap.size wo V) ⟨kg, hown2, below_drewN (below_drewN b9 _) _⟩ ?_
                clear kg hown2 b9 hrd2 y0 y1 y2 hown
                rintro V ⟨kV, oV, bVV⟩
                have rV := own_rd oV
                go_wp2_with (at_builtin; refine wpList_app rfl (.tmp 68) (.tmp 71) 93 rfl el_ver rfl (own_made (base := V.heap.size) V #[] 0 (Nat.le_refl _) (by simp [maxLen]) rfl) rfl ((rd_dropV rV j).alloc _) (by simp [length_flat encV 3 (fun _ => rfl)]) (one_vers (us.drop j)) (by simp only [maxLen]; omega) (by omega) (by simp) ?_; intro T1 ct wT oT chT _ _)
                have oT2 : wT.ownsRow V.heap.size 166 3 (.slice T1 (us.length - j) ct) (us.length - j) ((us.drop j).flatMap encV) := by simpa using oT
                have bT : Below V.heap.size V wT := ((Below.refl _ _).alloc (Nat.le_refl _) _).trans (chT.below (fun q hq e => by injection e with e; injection e with e; omega) (by simp))
                have oV2 := own_new oV bT
                have kT := kV.new_ bT
                have hrg := own_rng oV g' rfl
                have oF := own_take oV2 j (by omega)
                have hwT := bT.size
                have y0 : wT.cell? ⟨g, 0, none⟩ = some (.int .i64 x.k) := kT.cell 0
                have y1 : wT.cell? ⟨g, 1, none⟩ = some (.int .i64 n) := kT.cell 1
                have y2 : wT.cell? ⟨g, 2, none⟩ = some (.int .i64 x.v) := kT.cell 2
                have HY := hide (fun (w' : World) (hE : Chg (fun q => (some ⟨g', 0, none⟩) = some (⟨q, 0, none⟩ : Addr)) wT.drew w') => show w'.cell? ⟨g, 0, none⟩ = some (.int .i64 x.k) ∧ w'.cell? ⟨g, 1, none⟩ = some (.int .i64 n) ∧ w'.cell? ⟨g, 2, none⟩ = some (.int .i64 x.v) from ⟨hE.cell y0 (gne hgg), hE.cell y1 (gne hgg), hE.cell y2 (gne hgg)⟩)
                rw [take_flat encV 3 (fun _ => rfl) us j] at oF
                have hgT : g < wT.heap.size := kT.lt
                clear oV2 kT y0 y1 y2 oT chT rV
                have hF : StEL (Chg fun q => (some ⟨g', 0, none⟩) = some (⟨q, 0, none⟩ : Addr)) [bV (.slice (some ⟨g', 0, none⟩) us.length c'), bV (.int .i64 ((j : Nat) : Int)), bV (.slice (some ⟨g', 0, none⟩) j c'), bV (.agg #[.int .i64 x.k, .int .i64 n, .int .i64 x.v]), LR (some ⟨g', 0, none⟩) [.int .i64 x.k, .int .i64 n, .int .i64 x.v], pV (fun _ => True), bV (.slice T1 (us.length - j) ct)] := ⟨fun _ _ _ _ h => h, fun _ _ _ _ h => h, fun _ _ _ _ h => h, fun _ _ _ _ h => h, fun _ _ _ hE ⟨q, h1, h2⟩ => ⟨q, h1, h2.keep (Kp.chg hE fun k hk => hk)⟩, fun _ _ _ _ h => h, fun _ _ _ _ h => h, trivial⟩
                go_upto_region 10 with fail
                refine wp_region_vals (by kernel_rfl) [(0, some 73), (1, some 74), (2, some 75), (3, some 76), (4, some 77), (5, some 78), (6, some 79)] [[], [], [(0, some 73), (1, some 74)], [], [(3, some 76)], [(2, some 75), (4, some 77)], []] (by kernel_rfl) 5 [0, 1, 2, 3, 4] (by kernel_rfl)
                  (locB [bV (.slice (some ⟨g', 0, none⟩) us.length c'), bV (.int .i64 ((j : Nat) : Int)), bV (.slice (some ⟨g', 0, none⟩) j c'), bV (.agg #[.int .i64 x.k, .int .i64 n, .int .i64 x.v]), LR (some ⟨g', 0, none⟩) [.int .i64 x.k, .int .i64 n, .int .i64 x.v], pV (fun _ => True), bV (.slice T1 (us.length - j) ct)]) (Chg fun q => (some ⟨g', 0, none⟩) = some (⟨q, 0, none⟩ : Addr)) (RP w.heap.size j (some ⟨g', 0, none⟩) c' ((us.take j).flatMap encV) ((us.take j).flatMap encV ++ [.int .i64 x.k, .int .i64 n, .int .i64 x.v])) (fun _ => Chg.refl _ _) (fun _ _ _ => Chg.trans) (locE_st hF _) ⟨fun _ => oF, fun h => by cases h⟩ ?_ ?_
                · refine steps_cons ?s0 ( steps_cons ?s1 ( steps_cons ?s2 ( steps_cons ?s3 ( steps_cons ?s4 ( steps_cons ?s5 ( steps_cons ?s6 steps_nil))))))
                  case s0 =>
                    intro w' b vs hE hbx hR
                    obtain rfl := hbx (by simp)
                    intro Q hQ
                    go_wp2
                    exact hQ _ _ _ rfl rfl (Chg.refl _ _) (hR.other 0 _ (by omega))
                  case s1 =>
                    intro w' b vs hE hbx hR
                    obtain rfl := hbx (by simp)
                    intro Q hQ
                    go_wp2
                    exact hQ _ _ _ rfl rfl (Chg.refl _ _) (hR.other 1 _ (by omega))
                  case s2 =>
                    intro w' b vs hE hbx hR
                    obtain rfl := hbx (by simp)
                    rintro _ ⟨rfl, -⟩ _ ⟨rfl, -⟩ Q hQ
                    go_wp2
                    exact hQ _ _ _ rfl rfl (Chg.refl _ _) (hR.other 2 _ (by omega))
                  case s3 =>
                    intro w' b vs hE hbx hR
                    obtain rfl := hbx (by simp)
                    intro Q hQ
                    obtain ⟨t0, t1, t2⟩ := unhide HY w' hE
                    go_wp2
                    exact hQ _ _ _ rfl rfl (Chg.refl _ _) (hR.other 3 _ (by omega))
                  case s4 =>
                    intro w' b vs hE hbx hR
                    obtain rfl := hbx (by simp)
                    rintro _ ⟨rfl, -⟩ Q hQ
                    have hlt' := own_rng (hR.1 rfl)
                    have hR4 := hR.lay (.cells #[.int .i64 x.k, .int .i64 n, .int .i64 x.v] 166) 4
                    go_wp2
                    exact hQ _ _ _ rfl ⟨w'.heap.size, rfl, RdP.of_rd (rd_lit w' [.int .i64 x.k, .int .i64 n, .int .i64 x.v] _) (fun b o he ha => by injection he with he; injection he with h8 _; have := hlt' b ha; omega)⟩ ((Chg.refl _ _).alloc _) (hR4 _ (by omega))
                  case s5 =>
                    intro w' b vs hE hbx hR
                    obtain rfl := hbx (by simp)
                    rintro _ ⟨rfl, -⟩ _ ⟨⟨q, rfl, hq⟩, -⟩ Q hQ
                    refine wpList_app rfl (.tmp 75) (.tmp 77) 93 rfl el_ver rfl (hR.1 rfl) rfl hq.rd rfl (one_vers [⟨x.k, n, x.v⟩]) (by simp only [maxLen]; omega) (by omega) (by have := hE.size; simp at this; omega) ?_
                    intro A5 c5 w5 o5 ch5 _ _
                    go_wp2
                    exact hQ _ _ _ rfl trivial ch5 ⟨fun h => (by cases h), fun _ => ⟨A5, c5, rfl, o5⟩⟩
                  case s6 =>
                    intro w' b vs hE hbx hR
                    clear hbx
                    intro Q hQ
                    go_wp2
                    exact hQ _ _ _ rfl rfl (Chg.refl _ _) (hR.other 6 _ (by omega))
                intro w9 us' hE hR
                rintro v0 - v1 - v2 - v3 - v4 - v5 ⟨-, hv5⟩ v6 ⟨hv6, -⟩
                obtain rfl : v6 = _ := hv6
                obtain ⟨A5, c5, e5, o5⟩ := hR.2 rfl
                obtain rfl := hv5.trans e5
                clear hv5 hR hF e5
                change wpList _ _ _ [_, _] _ _
                simp only [Act.put, List.setIfInBounds_toArray, List.set_cons_succ, List.set_cons_zero]
                replace hE := chg_undrew' hE
                have oT9 := own_chg (w' := w9) oT2 hE (fun q hq e => by have := own_rng oT2 q hq; injection e with e; injection e with e; omega)
                have h9 := hE.size
                have rT9 := own_rd oT9
                have hT5 := own_rng o5
                go_wp2_with (at_builtin; refine wpList_app rfl (.tmp 78) (.tmp 79) 93 rfl el_ver rfl o5 rfl rT9 (by simp [length_flat encV 3 (fun _ => rfl)]) (one_vers (us.drop j)) (by simp only [maxLen]; omega) (by omega) (by omega) ?_; intro A8 c8 w8 o8 ch8 _ _)
                have hlen : (insV ⟨x.k, n, x.v⟩ us).length = us.length + 1 := insV_len _ _
                have b8 : Below w.heap.size w w8 := (((hB.trans (bVV.mono hsz)).trans (bT.mono (by have := bVV.size; omega))).trans (hE.below (fun q hq e => by injection e with e; injection e with e; omega) (by have := bVV.size; omega))).trans (ch8.below (fun q hq e => by have := hT5 q e; omega) (by have := bVV.size; omega))
                have hcs : (us.take j).flatMap encV ++ [Value.int .i64 x.k, .int .i64 n, .int .i64 x.v] ++ (us.drop j).flatMap encV = (insV ⟨x.k, n, x.v⟩ us).flatMap encV := by rw [unhide HINS, List.flatMap_append, List.flatMap_cons, List.append_assoc]; rfl
                rw [hcs] at o8
                have hln : j + 1 + (us.length - j) = (insV ⟨x.k, n, x.v⟩ us).length := by omega
                obtain ⟨g8, hg8, -, -⟩ := own_addr o8 (by omega)
                subst hg8
                rw [hln] at o8
                have HO8 := hide o8
                have HLN := hide hln
                clear o8 hln hcs o5 oT2 oT9 rT9 oF oV kV hlen
                go_wp2
                go_roundw
                case rel => exact ⟨k + 1, g8, c8, by omega, by go_num, by rw [unhide HT, ← unhide HLN], by rw [unhide HT]; exact unhide HO8, b8⟩
                case measure => simp [intOf]; omega
            · have t2 : (y.k == x.k) = false := by simp [h2]
              have HI := hide (unhide HINS (fun h => by rcases (unhide HLT).1 h with h | h <;> omega))
              have hc : ¬ c' = j := by omega
              clear h1 h2 HINS
              have HINS := HI
              go_wp2
              go_quiet (fail)
              refine at_world (C := fun W => Exit.then _ _ Exit.normal _ W) (F := fun V => Blk V g 166 #[.int .i64 x.k, .int .i64 n, .int .i64 x.v] ∧ V.ownsRow w.heap.size 166 3 (.slice (some ⟨g', 0, none⟩) us.length c') us.length (us.flatMap encV) ∧ Below wo.heap.size wo V) ⟨kg, hown2, below_drewN (below_drewN b9 _) _⟩ ?_
              clear kg hown2 b9 hrd2 y0 y1 y2 hown
              rintro V ⟨kV, oV, bVV⟩
              have rV := own_rd oV
              go_wp2_with (at_builtin; refine wpList_app rfl (.tmp 68) (.tmp 71) 93 rfl el_ver rfl (own_made (base := V.heap.size) V #[] 0 (Nat.le_refl _) (by simp [maxLen]) rfl) rfl ((rd_dropV rV j).alloc _) (by simp [length_flat encV 3 (fun _ => rfl)]) (one_vers (us.drop j)) (by simp only [maxLen]; omega) (by omega) (by simp) ?_; intro T1 ct wT oT chT _ _)
              have oT2 : wT.ownsRow V.heap.size 166 3 (.slice T1 (us.length - j) ct) (us.length - j) ((us.drop j).flatMap encV) := by simpa using oT
              have bT : Below V.heap.size V wT := ((Below.refl _ _).alloc (Nat.le_refl _) _).trans (chT.below (fun q hq e => by injection e with e; injection e with e; omega) (by simp))
              have oV2 := own_new oV bT
              have kT := kV.new_ bT
              have hrg := own_rng oV g' rfl
              have oF := own_take oV2 j (by omega)
              have hwT := bT.size
              have y0 : wT.cell? ⟨g, 0, none⟩ = some (.int .i64 x.k) := kT.cell 0
              have y1 : wT.cell? ⟨g, 1, none⟩ = some (.int .i64 n) := kT.cell 1
              have y2 : wT.cell? ⟨g, 2, none⟩ = some (.int .i64 x.v) := kT.cell 2
              have HY := hide (fun (w' : World) (hE : Chg (fun q => (some ⟨g', 0, none⟩) = some (⟨q, 0, none⟩ : Addr)) wT.drew w') => show w'.cell? ⟨g, 0, none⟩ = some (.int .i64 x.k) ∧ w'.cell? ⟨g, 1, none⟩ = some (.int .i64 n) ∧ w'.cell? ⟨g, 2, none⟩ = some (.int .i64 x.v) from ⟨hE.cell y0 (gne hgg), hE.cell y1 (gne hgg), hE.cell y2 (gne hgg)⟩)
              rw [take_flat encV 3 (fun _ => rfl) us j] at oF
              have hgT : g < wT.heap.size := kT.lt
              clear oV2 kT y0 y1 y2 oT chT rV
              have hF : StEL (Chg fun q => (some ⟨g', 0, none⟩) = some (⟨q, 0, none⟩ : Addr)) [bV (.slice (some ⟨g', 0, none⟩) us.length c'), bV (.int .i64 ((j : Nat) : Int)), bV (.slice (some ⟨g', 0, none⟩) j c'), bV (.agg #[.int .i64 x.k, .int .i64 n, .int .i64 x.v]), LR (some ⟨g', 0, none⟩) [.int .i64 x.k, .int .i64 n, .int .i64 x.v], pV (fun _ => True), bV (.slice T1 (us.length - j) ct)] := ⟨fun _ _ _ _ h => h, fun _ _ _ _ h => h, fun _ _ _ _ h => h, fun _ _ _ _ h => h, fun _ _ _ hE ⟨q, h1, h2⟩ => ⟨q, h1, h2.keep (Kp.chg hE fun k hk => hk)⟩, fun _ _ _ _ h => h, fun _ _ _ _ h => h, trivial⟩
              go_upto_region 10 with fail
              refine wp_region_vals (by kernel_rfl) [(0, some 73), (1, some 74), (2, some 75), (3, some 76), (4, some 77), (5, some 78), (6, some 79)] [[], [], [(0, some 73), (1, some 74)], [], [(3, some 76)], [(2, some 75), (4, some 77)], []] (by kernel_rfl) 5 [0, 1, 2, 3, 4] (by kernel_rfl)
                (locB [bV (.slice (some ⟨g', 0, none⟩) us.length c'), bV (.int .i64 ((j : Nat) : Int)), bV (.slice (some ⟨g', 0, none⟩) j c'), bV (.agg #[.int .i64 x.k, .int .i64 n, .int .i64 x.v]), LR (some ⟨g', 0, none⟩) [.int .i64 x.k, .int .i64 n, .int .i64 x.v], pV (fun _ => True), bV (.slice T1 (us.length - j) ct)]) (Chg fun q => (some ⟨g', 0, none⟩) = some (⟨q, 0, none⟩ : Addr)) (RP w.heap.size j (some ⟨g', 0, none⟩) c' ((us.take j).flatMap encV) ((us.take j).flatMap encV ++ [.int .i64 x.k, .int .i64 n, .int .i64 x.v])) (fun _ => Chg.refl _ _) (fun _ _ _ => Chg.trans) (locE_st hF _) ⟨fun _ => oF, fun h => by cases h⟩ ?_ ?_
              · refine steps_cons ?s0 ( steps_cons ?s1 ( steps_cons ?s2 ( steps_cons ?s3 ( steps_cons ?s4 ( steps_cons ?s5 ( steps_cons ?s6 steps_nil))))))
                case s0 =>
                  intro w' b vs hE hbx hR
                  obtain rfl := hbx (by simp)
                  intro Q hQ
                  go_wp2
                  exact hQ _ _ _ rfl rfl (Chg.refl _ _) (hR.other 0 _ (by omega))
                case s1 =>
                  intro w' b vs hE hbx hR
                  obtain rfl := hbx (by simp)
                  intro Q hQ
                  go_wp2
                  exact hQ _ _ _ rfl rfl (Chg.refl _ _) (hR.other 1 _ (by omega))
                case s2 =>
                  intro w' b vs hE hbx hR
                  obtain rfl := hbx (by simp)
                  rintro _ ⟨rfl, -⟩ _ ⟨rfl, -⟩ Q hQ
                  go_wp2
                  exact hQ _ _ _ rfl rfl (Chg.refl _ _) (hR.other 2 _ (by omega))
                case s3 =>
                  intro w' b vs hE hbx hR
                  obtain rfl := hbx (by simp)
                  intro Q hQ
                  obtain ⟨t0, t1, t2⟩ := unhide HY w' hE
                  go_wp2
                  exact hQ _ _ _ rfl rfl (Chg.refl _ _) (hR.other 3 _ (by omega))
                case s4 =>
                  intro w' b vs hE hbx hR
                  obtain rfl := hbx (by simp)
                  rintro _ ⟨rfl, -⟩ Q hQ
                  have hlt' := own_rng (hR.1 rfl)
                  have hR4 := hR.lay (.cells #[.int .i64 x.k, .int .i64 n, .int .i64 x.v] 166) 4
                  go_wp2
                  exact hQ _ _ _ rfl ⟨w'.heap.size, rfl, RdP.of_rd (rd_lit w' [.int .i64 x.k, .int .i64 n, .int .i64 x.v] _) (fun b o he ha => by injection he with he; injection he with h8 _; have := hlt' b ha; omega)⟩ ((Chg.refl _ _).alloc _) (hR4 _ (by omega))
                case s5 =>
                  intro w' b vs hE hbx hR
                  obtain rfl := hbx (by simp)
                  rintro _ ⟨rfl, -⟩ _ ⟨⟨q, rfl, hq⟩, -⟩ Q hQ
                  refine wpList_app rfl (.tmp 75) (.tmp 77) 93 rfl el_ver rfl (hR.1 rfl) rfl hq.rd rfl (one_vers [⟨x.k, n, x.v⟩]) (by simp only [maxLen]; omega) (by omega) (by have := hE.size; simp at this; omega) ?_
                  intro A5 c5 w5 o5 ch5 _ _
                  go_wp2
                  exact hQ _ _ _ rfl trivial ch5 ⟨fun h => (by cases h), fun _ => ⟨A5, c5, rfl, o5⟩⟩
                case s6 =>
                  intro w' b vs hE hbx hR
                  clear hbx
                  intro Q hQ
                  go_wp2
                  exact hQ _ _ _ rfl rfl (Chg.refl _ _) (hR.other 6 _ (by omega))
              intro w9 us' hE hR
              rintro v0 - v1 - v2 - v3 - v4 - v5 ⟨-, hv5⟩ v6 ⟨hv6, -⟩
              obtain rfl : v6 = _ := hv6
              obtain ⟨A5, c5, e5, o5⟩ := hR.2 rfl
              obtain rfl := hv5.trans e5
              clear hv5 hR hF e5
              change wpList _ _ _ [_, _] _ _
              simp only [Act.put, List.setIfInBounds_toArray, List.set_cons_succ, List.set_cons_zero]
              replace hE := chg_undrew' hE
              have oT9 := own_chg (w' := w9) oT2 hE (fun q hq e => by have := own_rng oT2 q hq; injection e with e; injection e with e; omega)
              have h9 := hE.size
              have rT9 := own_rd oT9
              have hT5 := own_rng o5
              go_wp2_with (at_builtin; refine wpList_app rfl (.tmp 78) (.tmp 79) 93 rfl el_ver rfl o5 rfl rT9 (by simp [length_flat encV 3 (fun _ => rfl)]) (one_vers (us.drop j)) (by simp only [maxLen]; omega) (by omega) (by omega) ?_; intro A8 c8 w8 o8 ch8 _ _)
              have hlen : (insV ⟨x.k, n, x.v⟩ us).length = us.length + 1 := insV_len _ _
              have b8 : Below w.heap.size w w8 := (((hB.trans (bVV.mono hsz)).trans (bT.mono (by have := bVV.size; omega))).trans (hE.below (fun q hq e => by injection e with e; injection e with e; omega) (by have := bVV.size; omega))).trans (ch8.below (fun q hq e => by have := hT5 q e; omega) (by have := bVV.size; omega))
              have hcs : (us.take j).flatMap encV ++ [Value.int .i64 x.k, .int .i64 n, .int .i64 x.v] ++ (us.drop j).flatMap encV = (insV ⟨x.k, n, x.v⟩ us).flatMap encV := by rw [unhide HINS, List.flatMap_append, List.flatMap_cons, List.append_assoc]; rfl
              rw [hcs] at o8
              have hln : j + 1 + (us.length - j) = (insV ⟨x.k, n, x.v⟩ us).length := by omega
              obtain ⟨g8, hg8, -, -⟩ := own_addr o8 (by omega)
              subst hg8
              rw [hln] at o8
              have HO8 := hide o8
              have HLN := hide hln
              clear o8 hln hcs o5 oT2 oT9 rT9 oF oV kV hlen
              go_wp2
              go_roundw
              case rel => exact ⟨k + 1, g8, c8, by omega, by go_num, by rw [unhide HT, ← unhide HLN], by rw [unhide HT]; exact unhide HO8, b8⟩
              case measure => simp [intOf]; omega
        · obtain rfl : j = us.length := by omega
          have HINS := hide (insV_at (x := ⟨x.k, n, x.v⟩) hj (unhide HL) (fun h => absurd h (by omega)))
          clear hjt
          by_cases hc : c' = us.length
          · subst hc
            go_wp2
            go_quiet (fail)
            refine at_world (C := fun W => Exit.then _ _ Exit.normal _ W) (F := fun V => Blk V g 166 #[.int .i64 x.k, .int .i64 n, .int .i64 x.v] ∧ V.ownsRow w.heap.size 166 3 (.slice (some ⟨g', 0, none⟩) us.length us.length) us.length (us.flatMap encV) ∧ Below wo.heap.size wo V) ⟨kg, hown2, below_drewN (below_drewN b9 _) _⟩ ?_
            clear kg hown2 b9 hrd2 y0 y1 y2 hown
            rintro V ⟨kV, oV, bVV⟩
            have rV := own_rd oV
            go_wp2_with (at_builtin; refine wpList_app rfl (.tmp 68) (.tmp 71) 93 rfl el_ver rfl (own_made (base := V.heap.size) V #[] 0 (Nat.le_refl _) (by simp [maxLen]) rfl) rfl (by rw [List.drop_length]; exact Rd.nil _ _) (by simp [length_flat encV 3 (fun _ => rfl)]) (one_vers (us.drop us.length)) (by simp only [maxLen]; omega) (by omega) (by simp) ?_; intro T1 ct wT oT chT _ _)
            have oT2 : wT.ownsRow V.heap.size 166 3 (.slice T1 0 ct) 0 ((us.drop us.length).flatMap encV) := by simpa using oT
            have bT : Below V.heap.size V wT := ((Below.refl _ _).alloc (Nat.le_refl _) _).trans (chT.below (fun q hq e => by injection e with e; injection e with e; omega) (by simp))
            have oV2 := own_new oV bT
            have kT := kV.new_ bT
            have hrg := own_rng oV g' rfl
            have oF := own_take oV2 us.length (by omega)
            have hwT := bT.size
            have y0 : wT.cell? ⟨g, 0, none⟩ = some (.int .i64 x.k) := kT.cell 0
            have y1 : wT.cell? ⟨g, 1, none⟩ = some (.int .i64 n) := kT.cell 1
            have y2 : wT.cell? ⟨g, 2, none⟩ = some (.int .i64 x.v) := kT.cell 2
            have HY := hide (fun (w' : World) (hE : Chg (fun q => (some ⟨g', 0, none⟩) = some (⟨q, 0, none⟩ : Addr)) wT.drew w') => show w'.cell? ⟨g, 0, none⟩ = some (.int .i64 x.k) ∧ w'.cell? ⟨g, 1, none⟩ = some (.int .i64 n) ∧ w'.cell? ⟨g, 2, none⟩ = some (.int .i64 x.v) from ⟨hE.cell y0 (gne hgg), hE.cell y1 (gne hgg), hE.cell y2 (gne hgg)⟩)
            rw [take_flat encV 3 (fun _ => rfl) us us.length] at oF
            have hgT : g < wT.heap.size := kT.lt
            clear oV2 kT y0 y1 y2 oT chT rV
            have hF : StEL (Chg fun q => (some ⟨g', 0, none⟩) = some (⟨q, 0, none⟩ : Addr)) [bV (.slice (some ⟨g', 0, none⟩) us.length us.length), bV (.int .i64 ((us.length : Nat) : Int)), bV (.slice (some ⟨g', 0, none⟩) us.length us.length), bV (.agg #[.int .i64 x.k, .int .i64 n, .int .i64 x.v]), LR (some ⟨g', 0, none⟩) [.int .i64 x.k, .int .i64 n, .int .i64 x.v], pV (fun _ => True), bV (.slice T1 0 ct)] := ⟨fun _ _ _ _ h => h, fun _ _ _ _ h => h, fun _ _ _ _ h => h, fun _ _ _ _ h => h, fun _ _ _ hE ⟨q, h1, h2⟩ => ⟨q, h1, h2.keep (Kp.chg hE fun k hk => hk)⟩, fun _ _ _ _ h => h, fun _ _ _ _ h => h, trivial⟩
            go_upto_region 10 with fail
            refine wp_region_vals (by kernel_rfl) [(0, some 73), (1, some 74), (2, some 75), (3, some 76), (4, some 77), (5, some 78), (6, some 79)] [[], [], [(0, some 73), (1, some 74)], [], [(3, some 76)], [(2, some 75), (4, some 77)], []] (by kernel_rfl) 5 [0, 1, 2, 3, 4] (by kernel_rfl)
              (locB [bV (.slice (some ⟨g', 0, none⟩) us.length us.length), bV (.int .i64 ((us.length : Nat) : Int)), bV (.slice (some ⟨g', 0, none⟩) us.length us.length), bV (.agg #[.int .i64 x.k, .int .i64 n, .int .i64 x.v]), LR (some ⟨g', 0, none⟩) [.int .i64 x.k, .int .i64 n, .int .i64 x.v], pV (fun _ => True), bV (.slice T1 0 ct)]) (Chg fun q => (some ⟨g', 0, none⟩) = some (⟨q, 0, none⟩ : Addr)) (RP w.heap.size us.length (some ⟨g', 0, none⟩) us.length ((us.take us.length).flatMap encV) ((us.take us.length).flatMap encV ++ [.int .i64 x.k, .int .i64 n, .int .i64 x.v])) (fun _ => Chg.refl _ _) (fun _ _ _ => Chg.trans) (locE_st hF _) ⟨fun _ => oF, fun h => by cases h⟩ ?_ ?_
            · refine steps_cons ?s0 ( steps_cons ?s1 ( steps_cons ?s2 ( steps_cons ?s3 ( steps_cons ?s4 ( steps_cons ?s5 ( steps_cons ?s6 steps_nil))))))
              case s0 =>
                intro w' b vs hE hbx hR
                obtain rfl := hbx (by simp)
                intro Q hQ
                go_wp2
                exact hQ _ _ _ rfl rfl (Chg.refl _ _) (hR.other 0 _ (by omega))
              case s1 =>
                intro w' b vs hE hbx hR
                obtain rfl := hbx (by simp)
                intro Q hQ
                go_wp2
                exact hQ _ _ _ rfl rfl (Chg.refl _ _) (hR.other 1 _ (by omega))
              case s2 =>
                intro w' b vs hE hbx hR
                obtain rfl := hbx (by simp)
                rintro _ ⟨rfl, -⟩ _ ⟨rfl, -⟩ Q hQ
                go_wp2
                exact hQ _ _ _ rfl rfl (Chg.refl _ _) (hR.other 2 _ (by omega))
              case s3 =>
                intro w' b vs hE hbx hR
                obtain rfl := hbx (by simp)
                intro Q hQ
                obtain ⟨t0, t1, t2⟩ := unhide HY w' hE
                go_wp2
                exact hQ _ _ _ rfl rfl (Chg.refl _ _) (hR.other 3 _ (by omega))
              case s4 =>
                intro w' b vs hE hbx hR
                obtain rfl := hbx (by simp)
                rintro _ ⟨rfl, -⟩ Q hQ
                have hlt' := own_rng (hR.1 rfl)
                have hR4 := hR.lay (.cells #[.int .i64 x.k, .int .i64 n, .int .i64 x.v] 166) 4
                go_wp2
                exact hQ _ _ _ rfl ⟨w'.heap.size, rfl, RdP.of_rd (rd_lit w' [.int .i64 x.k, .int .i64 n, .int .i64 x.v] _) (fun b o he ha => by injection he with he; injection he with h8 _; have := hlt' b ha; omega)⟩ ((Chg.refl _ _).alloc _) (hR4 _ (by omega))
              case s5 =>
                intro w' b vs hE hbx hR
                obtain rfl := hbx (by simp)
                rintro _ ⟨rfl, -⟩ _ ⟨⟨q, rfl, hq⟩, -⟩ Q hQ
                refine wpList_app rfl (.tmp 75) (.tmp 77) 93 rfl el_ver rfl (hR.1 rfl) rfl hq.rd rfl (one_vers [⟨x.k, n, x.v⟩]) (by simp only [maxLen]; omega) (by omega) (by have := hE.size; simp at this; omega) ?_
                intro A5 c5 w5 o5 ch5 _ _
                go_wp2
                exact hQ _ _ _ rfl trivial ch5 ⟨fun h => (by cases h), fun _ => ⟨A5, c5, rfl, o5⟩⟩
              case s6 =>
                intro w' b vs hE hbx hR
                clear hbx
                intro Q hQ
                go_wp2
                exact hQ _ _ _ rfl rfl (Chg.refl _ _) (hR.other 6 _ (by omega))
            intro w9 us' hE hR
            rintro v0 - v1 - v2 - v3 - v4 - v5 ⟨-, hv5⟩ v6 ⟨hv6, -⟩
            obtain rfl : v6 = _ := hv6
            obtain ⟨A5, c5, e5, o5⟩ := hR.2 rfl
            obtain rfl := hv5.trans e5
            clear hv5 hR hF e5
            change wpList _ _ _ [_, _] _ _
            simp only [Act.put, List.setIfInBounds_toArray, List.set_cons_succ, List.set_cons_zero]
            replace hE := chg_undrew' hE
            have oT9 := own_chg (w' := w9) oT2 hE (fun q hq e => by have := own_rng oT2 q hq; injection e with e; injection e with e; omega)
            have h9 := hE.size
            have rT9 := own_rd oT9
            have hT5 := own_rng o5
            go_wp2_with (at_builtin; refine wpList_app rfl (.tmp 78) (.tmp 79) 93 rfl el_ver rfl o5 rfl rT9 (by simp [length_flat encV 3 (fun _ => rfl)]) (one_vers (us.drop us.length)) (by simp only [maxLen]; omega) (by omega) (by omega) ?_; intro A8 c8 w8 o8 ch8 _ _)
            have hlen : (insV ⟨x.k, n, x.v⟩ us).length = us.length + 1 := insV_len _ _
            have b8 : Below w.heap.size w w8 := (((hB.trans (bVV.mono hsz)).trans (bT.mono (by have := bVV.size; omega))).trans (hE.below (fun q hq e => by injection e with e; injection e with e; omega) (by have := bVV.size; omega))).trans (ch8.below (fun q hq e => by have := hT5 q e; omega) (by have := bVV.size; omega))
            have hcs : (us.take us.length).flatMap encV ++ [Value.int .i64 x.k, .int .i64 n, .int .i64 x.v] ++ (us.drop us.length).flatMap encV = (insV ⟨x.k, n, x.v⟩ us).flatMap encV := by rw [unhide HINS, List.flatMap_append, List.flatMap_cons, List.append_assoc]; rfl
            rw [hcs] at o8
            have hln : us.length + 1 + 0 = (insV ⟨x.k, n, x.v⟩ us).length := by omega
            obtain ⟨g8, hg8, -, -⟩ := own_addr o8 (by omega)
            subst hg8
            rw [hln] at o8
            have HO8 := hide o8
            have HLN := hide hln
            clear o8 hln hcs o5 oT2 oT9 rT9 oF oV kV hlen
            go_wp2
            go_roundw
            case rel => exact ⟨k + 1, g8, c8, by omega, by go_num, by rw [unhide HT, ← unhide HLN], by rw [unhide HT]; exact unhide HO8, b8⟩
            case measure => simp [intOf]; omega
          · go_wp2
            go_quiet (fail)
            refine at_world (C := fun W => Exit.then _ _ Exit.normal _ W) (F := fun V => Blk V g 166 #[.int .i64 x.k, .int .i64 n, .int .i64 x.v] ∧ V.ownsRow w.heap.size 166 3 (.slice (some ⟨g', 0, none⟩) us.length c') us.length (us.flatMap encV) ∧ Below wo.heap.size wo V) ⟨kg, hown2, below_drewN (below_drewN b9 _) _⟩ ?_
            clear kg hown2 b9 hrd2 y0 y1 y2 hown
            rintro V ⟨kV, oV, bVV⟩
            have rV := own_rd oV
            go_wp2_with (at_builtin; refine wpList_app rfl (.tmp 68) (.tmp 71) 93 rfl el_ver rfl (own_made (base := V.heap.size) V #[] 0 (Nat.le_refl _) (by simp [maxLen]) rfl) rfl (by rw [List.drop_length]; exact Rd.nil _ _) (by simp [length_flat encV 3 (fun _ => rfl)]) (one_vers (us.drop us.length)) (by simp only [maxLen]; omega) (by omega) (by simp) ?_; intro T1 ct wT oT chT _ _)
            have oT2 : wT.ownsRow V.heap.size 166 3 (.slice T1 0 ct) 0 ((us.drop us.length).flatMap encV) := by simpa using oT
            have bT : Below V.heap.size V wT := ((Below.refl _ _).alloc (Nat.le_refl _) _).trans (chT.below (fun q hq e => by injection e with e; injection e with e; omega) (by simp))
            have oV2 := own_new oV bT
            have kT := kV.new_ bT
            have hrg := own_rng oV g' rfl
            have oF := own_take oV2 us.length (by omega)
            have hwT := bT.size
            have y0 : wT.cell? ⟨g, 0, none⟩ = some (.int .i64 x.k) := kT.cell 0
            have y1 : wT.cell? ⟨g, 1, none⟩ = some (.int .i64 n) := kT.cell 1
            have y2 : wT.cell? ⟨g, 2, none⟩ = some (.int .i64 x.v) := kT.cell 2
            have HY := hide (fun (w' : World) (hE : Chg (fun q => (some ⟨g', 0, none⟩) = some (⟨q, 0, none⟩ : Addr)) wT.drew w') => show w'.cell? ⟨g, 0, none⟩ = some (.int .i64 x.k) ∧ w'.cell? ⟨g, 1, none⟩ = some (.int .i64 n) ∧ w'.cell? ⟨g, 2, none⟩ = some (.int .i64 x.v) from ⟨hE.cell y0 (gne hgg), hE.cell y1 (gne hgg), hE.cell y2 (gne hgg)⟩)
            rw [take_flat encV 3 (fun _ => rfl) us us.length] at oF
            have hgT : g < wT.heap.size := kT.lt
            clear oV2 kT y0 y1 y2 oT chT rV
            have hF : StEL (Chg fun q => (some ⟨g', 0, none⟩) = some (⟨q, 0, none⟩ : Addr)) [bV (.slice (some ⟨g', 0, none⟩) us.length c'), bV (.int .i64 ((us.length : Nat) : Int)), bV (.slice (some ⟨g', 0, none⟩) us.length c'), bV (.agg #[.int .i64 x.k, .int .i64 n, .int .i64 x.v]), LR (some ⟨g', 0, none⟩) [.int .i64 x.k, .int .i64 n, .int .i64 x.v], pV (fun _ => True), bV (.slice T1 0 ct)] := ⟨fun _ _ _ _ h => h, fun _ _ _ _ h => h, fun _ _ _ _ h => h, fun _ _ _ _ h => h, fun _ _ _ hE ⟨q, h1, h2⟩ => ⟨q, h1, h2.keep (Kp.chg hE fun k hk => hk)⟩, fun _ _ _ _ h => h, fun _ _ _ _ h => h, trivial⟩
            go_upto_region 10 with fail
            refine wp_region_vals (by kernel_rfl) [(0, some 73), (1, some 74), (2, some 75), (3, some 76), (4, some 77), (5, some 78), (6, some 79)] [[], [], [(0, some 73), (1, some 74)], [], [(3, some 76)], [(2, some 75), (4, some 77)], []] (by kernel_rfl) 5 [0, 1, 2, 3, 4] (by kernel_rfl)
              (locB [bV (.slice (some ⟨g', 0, none⟩) us.length c'), bV (.int .i64 ((us.length : Nat) : Int)), bV (.slice (some ⟨g', 0, none⟩) us.length c'), bV (.agg #[.int .i64 x.k, .int .i64 n, .int .i64 x.v]), LR (some ⟨g', 0, none⟩) [.int .i64 x.k, .int .i64 n, .int .i64 x.v], pV (fun _ => True), bV (.slice T1 0 ct)]) (Chg fun q => (some ⟨g', 0, none⟩) = some (⟨q, 0, none⟩ : Addr)) (RP w.heap.size us.length (some ⟨g', 0, none⟩) c' ((us.take us.length).flatMap encV) ((us.take us.length).flatMap encV ++ [.int .i64 x.k, .int .i64 n, .int .i64 x.v])) (fun _ => Chg.refl _ _) (fun _ _ _ => Chg.trans) (locE_st hF _) ⟨fun _ => oF, fun h => by cases h⟩ ?_ ?_
            · refine steps_cons ?s0 ( steps_cons ?s1 ( steps_cons ?s2 ( steps_cons ?s3 ( steps_cons ?s4 ( steps_cons ?s5 ( steps_cons ?s6 steps_nil))))))
              case s0 =>
                intro w' b vs hE hbx hR
                obtain rfl := hbx (by simp)
                intro Q hQ
                go_wp2
                exact hQ _ _ _ rfl rfl (Chg.refl _ _) (hR.other 0 _ (by omega))
              case s1 =>
                intro w' b vs hE hbx hR
                obtain rfl := hbx (by simp)
                intro Q hQ
                go_wp2
                exact hQ _ _ _ rfl rfl (Chg.refl _ _) (hR.other 1 _ (by omega))
              case s2 =>
                intro w' b vs hE hbx hR
                obtain rfl := hbx (by simp)
                rintro _ ⟨rfl, -⟩ _ ⟨rfl, -⟩ Q hQ
                go_wp2
                exact hQ _ _ _ rfl rfl (Chg.refl _ _) (hR.other 2 _ (by omega))
              case s3 =>
                intro w' b vs hE hbx hR
                obtain rfl := hbx (by simp)
                intro Q hQ
                obtain ⟨t0, t1, t2⟩ := unhide HY w' hE
                go_wp2
                exact hQ _ _ _ rfl rfl (Chg.refl _ _) (hR.other 3 _ (by omega))
              case s4 =>
                intro w' b vs hE hbx hR
                obtain rfl := hbx (by simp)
                rintro _ ⟨rfl, -⟩ Q hQ
                have hlt' := own_rng (hR.1 rfl)
                have hR4 := hR.lay (.cells #[.int .i64 x.k, .int .i64 n, .int .i64 x.v] 166) 4
                go_wp2
                exact hQ _ _ _ rfl ⟨w'.heap.size, rfl, RdP.of_rd (rd_lit w' [.int .i64 x.k, .int .i64 n, .int .i64 x.v] _) (fun b o he ha => by injection he with he; injection he with h8 _; have := hlt' b ha; omega)⟩ ((Chg.refl _ _).alloc _) (hR4 _ (by omega))
              case s5 =>
                intro w' b vs hE hbx hR
                obtain rfl := hbx (by simp)
                rintro _ ⟨rfl, -⟩ _ ⟨⟨q, rfl, hq⟩, -⟩ Q hQ
                refine wpList_app rfl (.tmp 75) (.tmp 77) 93 rfl el_ver rfl (hR.1 rfl) rfl hq.rd rfl (one_vers [⟨x.k, n, x.v⟩]) (by simp only [maxLen]; omega) (by omega) (by have := hE.size; simp at this; omega) ?_
                intro A5 c5 w5 o5 ch5 _ _
                go_wp2
                exact hQ _ _ _ rfl trivial ch5 ⟨fun h => (by cases h), fun _ => ⟨A5, c5, rfl, o5⟩⟩
              case s6 =>
                intro w' b vs hE hbx hR
                clear hbx
                intro Q hQ
                go_wp2
                exact hQ _ _ _ rfl rfl (Chg.refl _ _) (hR.other 6 _ (by omega))
            intro w9 us' hE hR
            rintro v0 - v1 - v2 - v3 - v4 - v5 ⟨-, hv5⟩ v6 ⟨hv6, -⟩
            obtain rfl : v6 = _ := hv6
            obtain ⟨A5, c5, e5, o5⟩ := hR.2 rfl
            obtain rfl := hv5.trans e5
            clear hv5 hR hF e5
            change wpList _ _ _ [_, _] _ _
            simp only [Act.put, List.setIfInBounds_toArray, List.set_cons_succ, List.set_cons_zero]
            replace hE := chg_undrew' hE
            have oT9 := own_chg (w' := w9) oT2 hE (fun q hq e => by have := own_rng oT2 q hq; injection e with e; injection e with e; omega)
            have h9 := hE.size
            have rT9 := own_rd oT9
            have hT5 := own_rng o5
            go_wp2_with (at_builtin; refine wpList_app rfl (.tmp 78) (.tmp 79) 93 rfl el_ver rfl o5 rfl rT9 (by simp [length_flat encV 3 (fun _ => rfl)]) (one_vers (us.drop us.length)) (by simp only [maxLen]; omega) (by omega) (by omega) ?_; intro A8 c8 w8 o8 ch8 _ _)
            have hlen : (insV ⟨x.k, n, x.v⟩ us).length = us.length + 1 := insV_len _ _
            have b8 : Below w.heap.size w w8 := (((hB.trans (bVV.mono hsz)).trans (bT.mono (by have := bVV.size; omega))).trans (hE.below (fun q hq e => by injection e with e; injection e with e; omega) (by have := bVV.size; omega))).trans (ch8.below (fun q hq e => by have := hT5 q e; omega) (by have := bVV.size; omega))
            have hcs : (us.take us.length).flatMap encV ++ [Value.int .i64 x.k, .int .i64 n, .int .i64 x.v] ++ (us.drop us.length).flatMap encV = (insV ⟨x.k, n, x.v⟩ us).flatMap encV := by rw [unhide HINS, List.flatMap_append, List.flatMap_cons, List.append_assoc]; rfl
            rw [hcs] at o8
            have hln : us.length + 1 + 0 = (insV ⟨x.k, n, x.v⟩ us).length := by omega
            obtain ⟨g8, hg8, -, -⟩ := own_addr o8 (by omega)
            subst hg8
            rw [hln] at o8
            have HO8 := hide o8
            have HLN := hide hln
            clear o8 hln hcs o5 oT2 oT9 rT9 oF oV kV hlen
            go_wp2
            go_roundw
            case rel => exact ⟨k + 1, g8, c8, by omega, by go_num, by rw [unhide HT, ← unhide HLN], by rw [unhide HT]; exact unhide HO8, b8⟩
            case measure => simp [intOf]; omega
    · obtain rfl : k = ws.length := by omega
      rw [List.take_length] at hown ⊢
      go_wp2
      go_ret
      rw [unhide HP]
      exact ⟨_, c', rfl, hown, hB⟩
end Go.Proofs.YtihlhejencninaaGreat
