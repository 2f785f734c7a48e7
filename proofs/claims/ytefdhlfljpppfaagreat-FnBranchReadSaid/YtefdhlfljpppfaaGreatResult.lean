/- What an action writes: (impl.Action).result. Printed by gen_result.py. -/
import Derived.Test.YtefdhlfljpppfaaGreatRun
namespace Go.Proofs.YtefdhlfljpppfaaGreat
open Go.RowKit
set_option linter.unusedVariables false
set_option linter.unusedSimpArgs false
attribute [local go_sem ↓] Go.wp_at_zero Go.wp_at_succ

/-- facts that are kept in a region with one map literal -/
def StM (f : Int → Int) (base : Nat) (g : Value → World → Prop) : Prop := ∀ v a b, EM f base a b → g v a → g v b
def mV (u : Value) (v : Value) (_ : World) : Prop := v = u
def mMap (f : Int → Int) (base : Nat) (l : List Int) (v : Value) (w : World) : Prop := v = .map (some base) ∧ MapAt f w base l
def mHas (f : Int → Int) (base : Nat) (l : List Int) (_ : Value) (w : World) : Prop := MapAt f w base l
def mAny (_ : Value) (_ : World) : Prop := True
theorem sm_V (f : Int → Int) (base : Nat) (u : Value) : StM f base (mV u) := fun _ _ _ _ h => h
theorem sm_Map (f : Int → Int) (base : Nat) (l : List Int) : StM f base (mMap f base l) := fun _ _ _ he ⟨h1, h2⟩ => ⟨h1, he.2 l h2⟩
theorem sm_Has (f : Int → Int) (base : Nat) (l : List Int) : StM f base (mHas f base l) := fun _ _ _ he h => he.2 l h
theorem sm_Any (f : Int → Int) (base : Nat) : StM f base mAny := fun _ _ _ _ _ => trivial
def StML (f : Int → Int) (base : Nat) : List (Value → World → Prop) → Prop
  | [] => True
  | g :: l => StM f base g ∧ StML f base l
theorem stml_get {f : Int → Int} {base : Nat} : ∀ {l : List (Value → World → Prop)}, StML f base l → ∀ i, StM f base (l.getD i fun _ _ => True)
  | [], _, i => fun _ _ _ _ _ => trivial
  | g :: l, h, 0 => h.1
  | g :: l, h, i + 1 => by simpa using stml_get h.2 i
def locM (fs : List (Value → World → Prop)) (i : Nat) (v : Value) (w : World) : Prop := (fs.getD i fun _ _ => True) v w
theorem locM_st {f : Int → Int} {base : Nat} {fs : List (Value → World → Prop)} (h : StML f base fs) (n : Nat) (i : Nat) (v : Value) (a b : World) (_ : i < n) (hf : locM fs i v a) (hc : EM f base a b) : locM fs i v b := stml_get h i v a b hc hf
theorem MapAt.sub {f : Int → Int} {w : World} {b : Nat} {ks l : List Int} (h : MapAt f w b ks) (hl : ∀ k ∈ l, k ∈ ks) : MapAt f w b l := by
  obtain ⟨n, D, h0, h1, h2, h3⟩ := h
  exact ⟨n, D, h0, h1, h2, fun k hk => h3 k (hl k hk)⟩
theorem MapAt.both {f : Int → Int} {w : World} {b : Nat} {ks l : List Int} (h : MapAt f w b ks) (g : MapAt f w b l) : MapAt f w b (ks ++ l) := by
  obtain ⟨n, D, h0, h1, h2, h3⟩ := h
  obtain ⟨n2, D2, g0, g1, g2, g3⟩ := g
  have hDD : D2 = D := by
    obtain ⟨es, c, hb, _, _, q3⟩ := g0
    obtain ⟨es', c', hb', _, _, q3'⟩ := h0
    rw [hb] at hb'
    injection hb' with hb'
    injection hb' with e1 e2
    subst e1
    rw [q3, q3']
  subst hDD
  exact ⟨n, D2, h0, h1, h2, fun k hk => by
    rcases List.mem_append.1 hk with hk | hk
    · exact h3 k hk
    · exact g3 k hk⟩
theorem em_insert {f : Int → Int} {base : Nat} {w w' : World} (hb : base ≤ w.heap.size) (hg : w.grownBy w' (some base)) (hl : ∀ l, MapAt f w base l → MapAt f w' base l) : EM f base w w' :=
  ⟨⟨hg.os, hg.tape, hg.output, hg.size, fun k hk => hg.block k (by omega) (fun e => by injection e; omega)⟩, hl⟩
theorem em_made {f : Int → Int} {base : Nat} {w : World} (hb : w.heap.size = base) : EM f base w (w.alloc (.map #[] 0)) :=
  ⟨(Below.refl _ _).alloc (by omega) _, fun l h => absurd h.lt (by omega)⟩
theorem rm_made {base m : Nat} {w : World} (h : RM base (m + 4) w) : w.heap.size = base ∧ RM base m (w.alloc (.map #[] 0)) := by
  obtain ⟨h1, h2⟩ := h
  have hs : w.heap.size = base := by omega
  refine ⟨hs, by simp; omega, ?_⟩
  have hc : mapCnt (w.alloc (.map #[] 0)) base = 0 := by
    unfold mapCnt
    rw [← hs, heap_alloc_new w (.map #[] 0)]
    rfl
  rw [hc]
  simp
  omega
theorem rm_insert {base m : Nat} {w w' : World} (h : RM base (m + 1) w) (hs : w'.heap.size = w.heap.size) (hc : mapCnt w' base ≤ mapCnt w base + 1) : mapCnt w base ≤ 1000 ∧ RM base m w' := by
  obtain ⟨h1, h2⟩ := h
  exact ⟨by omega, by omega, by omega⟩
theorem cnt_made (w : World) : mapCnt (w.alloc (.map #[] 0)) w.heap.size = 0 := by
  unfold mapCnt
  rw [heap_alloc_new w (.map #[] 0)]
  rfl
theorem rm_cnt {base m : Nat} {w : World} (h : RM base m w) : mapCnt w base ≤ 1000 := by
  obtain ⟨h1, h2⟩ := h
  omega
theorem rm_new (w : World) : RM w.heap.size 6 w := by
  refine ⟨Nat.le_refl _, ?_⟩
  have : mapCnt w w.heap.size = 0 := by
    unfold mapCnt
    have : w.heap[w.heap.size]? = none := by simp
    rw [this]
  omega

set_option maxRecDepth 100000 in
set_option maxHeartbeats 4000000 in
theorem result_core (kd : Int) (p q : Nat) (am : Int) (v : List Int) (x y : Int) (f : Int → Int) (dn : Bool) (ks : List Int) (w : World) (hp : p < 32) (hq : q < 32) (hv : v.length = 32) (hx : v.getD p 0 = x) (hy : v.getD q 0 = y) (hx1 : 0 ≤ x ∧ x ≤ 1000000) (hy1 : 0 ≤ y ∧ y ≤ 1000000) (ham : 0 ≤ am ∧ am ≤ 1000000)
    (hk : kd = 1 ∨ kd = 6 ∨ kd = 3 ∨ kd = 4 ∨ kd = 5 ∨ kd = 2) (hks : ∀ k ∈ ks, k = (p : Int) ∨ k = (q : Int))
    (h1 : kd = 1 → f p = am ∧ dn = true ∧ ks = [(p : Int)]) (h6 : kd = 6 → f p = max 0 (x - am) ∧ dn = true ∧ ks = [(p : Int)]) (h3 : kd = 3 → f q = x ∧ dn = true ∧ ks = [(q : Int)])
    (h4 : kd = 4 → f p = y ∧ f q = x ∧ dn = true) (h5 : kd = 5 → f q = x + y ∧ dn = decide (x + y ≤ 1000000) ∧ ks = [(q : Int)])
    (h2 : kd = 2 → (p = q → f p = x ∧ dn = decide (am ≤ x)) ∧ (p ≠ q → f p = x - am ∧ f q = y + am ∧ dn = (decide (am ≤ x) && decide (y + am ≤ 1000000)))) :
    Calls Tryz.prog 118 #[.agg #[.int .i64 kd, .int .i64 (p : Int), .int .i64 (q : Int), .int .i64 am], .agg (vA v)] w fun e w' => ∃ b, e = .returned (.tuple #[.map (some b), .bool dn]) ∧ MapAt f w' b ks ∧ w.heap.size ≤ b ∧ Below w.heap.size w w' := by
  have hmm := @run_makeMap Tryz.prog
  have hb0 : Below w.heap.size w ((w.alloc (.cells #[.int .i64 kd, .int .i64 (p : Int), .int .i64 (q : Int), .int .i64 am] 101)).alloc (.cells (vA v) 76)) := ((Below.refl _ _).alloc (Nat.le_refl _) _).alloc (by simp) _
  have k0 := (Blk.new w 101 #[.int .i64 kd, .int .i64 (p : Int), .int .i64 (q : Int), .int .i64 am]).alloc (.cells (vA v) 76)
  have k1 : Blk ((w.alloc (.cells #[.int .i64 kd, .int .i64 (p : Int), .int .i64 (q : Int), .int .i64 am] 101)).alloc (.cells (vA v) 76)) (w.heap.size + 1) 76 (vA v) := by
    have := Blk.new (w.alloc (.cells #[.int .i64 kd, .int .i64 (p : Int), .int .i64 (q : Int), .int .i64 am] 101)) 76 (vA v)
    simpa using this
  have hsz : ((w.alloc (.cells #[.int .i64 kd, .int .i64 (p : Int), .int .i64 (q : Int), .int .i64 am] 101)).alloc (.cells (vA v) 76)).heap.size = w.heap.size + 1 + 1 := by simp
  have H1 := hide h1
  have H2 := hide h2
  have H3 := hide h3
  have H4 := hide h4
  have H5 := hide h5
  have H6 := hide h6
  have HKS := hide hks
  have HXV := hide hx
  have HYV := hide hy
  clear h1 h2 h3 h4 h5 h6 hks hx hy
  go_enter Tryz.func118, Tryz.ntmps118
  go_wp2
  refine at_world (C := fun w => Code.wp _ _ _ _ w) (F := fun W => Blk W w.heap.size 101 #[.int .i64 kd, .int .i64 (p : Int), .int .i64 (q : Int), .int .i64 am] ∧ Blk W (w.heap.size + 1) 76 (vA v) ∧ Below w.heap.size w W ∧ W.heap.size = w.heap.size + 1 + 1) ⟨k0, k1, hb0, hsz⟩ ?_
  clear k0 k1 hb0 hsz
  rintro W ⟨k0, k1, hb0, hsz⟩
  have c1 : W.cell? ⟨w.heap.size, 1, none⟩ = some (.int .i64 (p : Int)) := k0.cell 1
  have c2 : W.cell? ⟨w.heap.size, 2, none⟩ = some (.int .i64 (q : Int)) := k0.cell 2
  have cp := vA_get k1 (show p < v.length by omega)
  have cq := vA_get k1 (show q < v.length by omega)
  rw [unhide HXV] at cp
  rw [unhide HYV] at cq
  have ip : (p : Int) < 32 := by omega
  have iq : (q : Int) < 32 := by omega
  go_quiet (fail)
  replace k0 := k0.drewN nq
  replace k1 := k1.drewN nq
  replace hb0 := below_drewN hb0 nq
  replace hsz : (W.drewN nq).heap.size = w.heap.size + 1 + 1 := hsz
  clear c1 c2 cp cq
  generalize W.drewN nq = W2 at *
  have c0 : W2.cell? ⟨w.heap.size, 0, none⟩ = some (.int .i64 kd) := k0.cell 0
  have c1 : W2.cell? ⟨w.heap.size, 1, none⟩ = some (.int .i64 (p : Int)) := k0.cell 1
  have c2 : W2.cell? ⟨w.heap.size, 2, none⟩ = some (.int .i64 (q : Int)) := k0.cell 2
  have c3 : W2.cell? ⟨w.heap.size, 3, none⟩ = some (.int .i64 am) := k0.cell 3
  have HSZ := hide hsz
  have hslt : w.heap.size < W2.heap.size := by omega
  clear hsz
  have wp_ : wfi (p : Int) := ⟨by omega, by omega⟩
  have wq_ : wfi (q : Int) := ⟨by omega, by omega⟩
  have fin : ∀ (w1 w2 : World), True := fun _ _ => trivial
  rcases hk with rfl | rfl | rfl | rfl | rfl | rfl
  · obtain ⟨hf, hdn, hkk⟩ := unhide H1 rfl
    have HF := hide hf
    have HDN := hide hdn
    have HKK := hide hkk
    clear hf hdn hkk
    go_wp2_with (refine wpList_insert (f := f) rfl (.tmp 20) (.tmp 22) (.tmp 24) rfl p rfl rfl (congrArg (Value.int .i64) (unhide HF).symm) (MapAt.made f W2) wp_ (by rw [unhide HF]; unfold wfi; omega) (by rw [cnt_made]; omega) ?_; intro w2 hm2 _ hg2 hs2 _)
    go_ret2
    have hb2 : Below w.heap.size w w2 := hb0.trans ⟨hg2.os, hg2.tape, hg2.output, by have := hg2.size; simp at this; omega, fun g hg => (hg2.block g (by simp; omega) (fun e => by injection e; omega)).trans (Below.heap_alloc W2 _ g (by omega))⟩
    exact ⟨W2.heap.size, by (rw [unhide HDN]; try rfl), by rw [unhide HKK]; exact hm2.sub (by simp), by omega, hb2⟩
  · obtain ⟨hf, hdn, hkk⟩ := unhide H6 rfl
    have HF := hide hf
    have HDN := hide hdn
    have HKK := hide hkk
    clear hf hdn hkk
    have hcs : x - am ≤ 0 ∨ 0 < x - am := by omega
    rcases hcs with hcs | hcs
    · have hcs2 : ¬ 0 < x - am := by omega
      have HF2 := hide (show f (p : Int) = _ from (unhide HF).trans (Int.max_eq_left (by omega)))
      go_wp2_with (refine wpList_insert (f := f) rfl (.tmp 28) (.tmp 30) (.tmp 35) rfl p rfl rfl (congrArg (Value.int .i64) (unhide HF2).symm) (MapAt.made f W2) wp_ (by rw [unhide HF2]; unfold wfi; omega) (by rw [cnt_made]; omega) ?_; intro w2 hm2 _ hg2 hs2 _)
      go_ret2
      have hb2 : Below w.heap.size w w2 := hb0.trans ⟨hg2.os, hg2.tape, hg2.output, by have := hg2.size; simp at this; omega, fun g hg => (hg2.block g (by simp; omega) (fun e => by injection e; omega)).trans (Below.heap_alloc W2 _ g (by omega))⟩
      exact ⟨W2.heap.size, by (rw [unhide HDN]; try rfl), by rw [unhide HKK]; exact hm2.sub (by simp), by omega, hb2⟩
    · have hcs2 : ¬ x - am < 0 := by omega
      have HF2 := hide (show f (p : Int) = _ from (unhide HF).trans (Int.max_eq_right (by omega)))
      go_wp2_with (refine wpList_insert (f := f) rfl (.tmp 28) (.tmp 30) (.tmp 35) rfl p rfl rfl (congrArg (Value.int .i64) (unhide HF2).symm) (MapAt.made f W2) wp_ (by rw [unhide HF2]; unfold wfi; omega) (by rw [cnt_made]; omega) ?_; intro w2 hm2 _ hg2 hs2 _)
      go_ret2
      have hb2 : Below w.heap.size w w2 := hb0.trans ⟨hg2.os, hg2.tape, hg2.output, by have := hg2.size; simp at this; omega, fun g hg => (hg2.block g (by simp; omega) (fun e => by injection e; omega)).trans (Below.heap_alloc W2 _ g (by omega))⟩
      exact ⟨W2.heap.size, by (rw [unhide HDN]; try rfl), by rw [unhide HKK]; exact hm2.sub (by simp), by omega, hb2⟩
  · obtain ⟨hf, hdn, hkk⟩ := unhide H3 rfl
    have HF := hide hf
    have HDN := hide hdn
    have HKK := hide hkk
    clear hf hdn hkk
    go_wp2_with (refine wpList_insert (f := f) rfl (.tmp 39) (.tmp 41) (.tmp 42) rfl q rfl rfl (congrArg (Value.int .i64) (unhide HF).symm) (MapAt.made f W2) wq_ (by rw [unhide HF]; unfold wfi; omega) (by rw [cnt_made]; omega) ?_; intro w2 hm2 _ hg2 hs2 _)
    go_ret2
    have hb2 : Below w.heap.size w w2 := hb0.trans ⟨hg2.os, hg2.tape, hg2.output, by have := hg2.size; simp at this; omega, fun g hg => (hg2.block g (by simp; omega) (fun e => by injection e; omega)).trans (Below.heap_alloc W2 _ g (by omega))⟩
    exact ⟨W2.heap.size, by (rw [unhide HDN]; try rfl), by rw [unhide HKK]; exact hm2.sub (by simp), by omega, hb2⟩
  · obtain ⟨hfp, hfq, hdn⟩ := unhide H4 rfl
    have HFP := hide hfp
    have HFQ := hide hfq
    have HDN := hide hdn
    clear hfp hfq hdn
    have hR0 : RM W2.heap.size 6 W2.drew := rm_new W2
    go_wp2
    have hF : StML f W2.heap.size [mMap f W2.heap.size [], mV (.pointer (some ⟨w.heap.size, 1, none⟩)), mV (.int .i64 (p : Int)), mV (.int .i64 y), mHas f W2.heap.size [(p : Int)], mV (.pointer (some ⟨w.heap.size, 2, none⟩)), mV (.int .i64 (q : Int)), mV (.int .i64 x), mHas f W2.heap.size [(q : Int)]] := ⟨sm_Map f _ _, sm_V f _ _, sm_V f _ _, sm_V f _ _, sm_Has f _ _, sm_V f _ _, sm_V f _ _, sm_V f _ _, sm_Has f _ _, trivial⟩
    refine wp_region_loc (by kernel_rfl) [(0, some 46), (1, some 47), (2, some 48), (3, some 49), (4, none), (5, some 50), (6, some 51), (7, some 52), (8, none)] [[], [], [(1, some 47)], [], [(0, some 46), (2, some 48), (3, some 49)], [], [(5, some 50)], [], [(0, some 46), (6, some 51), (7, some 52)]] (by kernel_rfl)
      (locM [mMap f W2.heap.size [], mV (.pointer (some ⟨w.heap.size, 1, none⟩)), mV (.int .i64 (p : Int)), mV (.int .i64 y), mHas f W2.heap.size [(p : Int)], mV (.pointer (some ⟨w.heap.size, 2, none⟩)), mV (.int .i64 (q : Int)), mV (.int .i64 x), mHas f W2.heap.size [(q : Int)]]) (EM f W2.heap.size) (RM W2.heap.size) [4, 0, 0, 0, 1, 0, 0, 0, 1] 6 (by kernel_rfl) (EM.refl f _) EM.trans (locM_st hF _) hR0 ?_ ?_
    · refine steps_cons ?s10_0 (steps_cons ?s10_1 (steps_cons ?s10_2 (steps_cons ?s10_3 (steps_cons ?s10_4 (steps_cons ?s10_5 (steps_cons ?s10_6 (steps_cons ?s10_7 (steps_cons ?s10_8 (steps_nil)))))))))
      case s10_0 =>
        intro w' m hE hR
        intro Q hQ
        obtain ⟨hs, hR2⟩ := rm_made hR
        go_wp2
        exact hQ _ _ _ rfl ⟨by first | rfl | rw [hs], by rw [← hs]; exact MapAt.made f w'⟩ (em_made hs) hR2
      case s10_1 =>
        intro w' m hE hR
        intro Q hQ
        go_wp2
        exact hQ _ _ _ rfl rfl (EM.refl _ _ _) hR
      case s10_2 =>
        intro w' m hE hR
        intro v1 h1 Q hQ
        obtain rfl : v1 = _ := h1
        have z : w'.cell? ⟨w.heap.size, 1, none⟩ = some _ := (hE.1.cell (p := ⟨w.heap.size, 1, none⟩) hslt).trans c1
        go_wp2
        exact hQ _ _ _ rfl rfl (EM.refl _ _ _) hR
      case s10_3 =>
        intro w' m hE hR
        intro Q hQ
        go_wp2
        exact hQ _ _ _ rfl rfl (EM.refl _ _ _) hR
      case s10_4 =>
        intro w' m hE hR
        intro v0 h0 v2 h2 v3 h3 Q hQ
        obtain ⟨rfl, h0⟩ := h0
        obtain rfl : v2 = _ := h2
        obtain rfl : v3 = _ := h3
        refine wpList_insert (f := f) rfl (.tmp 46) (.tmp 48) (.tmp 49) rfl p rfl rfl (congrArg (Value.int .i64) (unhide HFP).symm) h0 wp_ (by rw [unhide HFP]; unfold wfi; omega) (rm_cnt hR) ?_
        intro w2 i1 i2 i3 i4 i5
        go_wp2
        exact hQ undef _ _ rfl (i1.sub (by simp)) (em_insert hR.1 i3 i5) (rm_insert hR i4 i2).2
      case s10_5 =>
        intro w' m hE hR
        intro Q hQ
        go_wp2
        exact hQ _ _ _ rfl rfl (EM.refl _ _ _) hR
      case s10_6 =>
        intro w' m hE hR
        intro v5 h5 Q hQ
        obtain rfl : v5 = _ := h5
        have z : w'.cell? ⟨w.heap.size, 2, none⟩ = some _ := (hE.1.cell (p := ⟨w.heap.size, 2, none⟩) hslt).trans c2
        go_wp2
        exact hQ _ _ _ rfl rfl (EM.refl _ _ _) hR
      case s10_7 =>
        intro w' m hE hR
        intro Q hQ
        go_wp2
        exact hQ _ _ _ rfl rfl (EM.refl _ _ _) hR
      case s10_8 =>
        intro w' m hE hR
        intro v0 h0 v6 h6 v7 h7 Q hQ
        obtain ⟨rfl, h0⟩ := h0
        obtain rfl : v6 = _ := h6
        obtain rfl : v7 = _ := h7
        refine wpList_insert (f := f) rfl (.tmp 46) (.tmp 51) (.tmp 52) rfl q rfl rfl (congrArg (Value.int .i64) (unhide HFQ).symm) h0 wq_ (by rw [unhide HFQ]; unfold wfi; omega) (rm_cnt hR) ?_
        intro w2 i1 i2 i3 i4 i5
        go_wp2
        exact hQ undef _ _ rfl (i1.sub (by simp)) (em_insert hR.1 i3 i5) (rm_insert hR i4 i2).2
    intro w3 hE hR
    rintro v0 ⟨rfl, m0⟩ v1 - v2 - v3 - v4 m4 v5 - v6 - v7 - v8 m8
    change wpList _ _ _ [_, _, _] _ _
    simp only [Go.Act.put, List.setIfInBounds_toArray, List.set_cons_succ, List.set_cons_zero]
    go_wp2
    go_ret2
    have hb3 : Below w.heap.size w w3 := hb0.trans ⟨hE.1.os, hE.1.tape, hE.1.output, hE.1.size, fun k hk => hE.1.block k (by omega)⟩
    exact ⟨W2.heap.size, by (rw [unhide HDN]; try rfl), ((MapAt.both m4 m8).sub (fun k hk => by rcases unhide HKS k hk with h | h <;> simp [h])), by omega, hb3⟩
  · obtain ⟨hf, hdn, hkk⟩ := unhide H5 rfl
    have HF := hide hf
    have HDN := hide hdn
    have HKK := hide hkk
    clear hf hdn hkk
    go_wp2_with (refine wpList_insert (f := f) rfl (.tmp 56) (.tmp 58) (.tmp 61) rfl q rfl rfl (congrArg (Value.int .i64) (unhide HF).symm) (MapAt.made f W2) wq_ (by rw [unhide HF]; unfold wfi; omega) (by rw [cnt_made]; omega) ?_; intro w2 hm2 _ hg2 hs2 _)
    go_ret2
    have hb2 : Below w.heap.size w w2 := hb0.trans ⟨hg2.os, hg2.tape, hg2.output, by have := hg2.size; simp at this; omega, fun g hg => (hg2.block g (by simp; omega) (fun e => by injection e; omega)).trans (Below.heap_alloc W2 _ g (by omega))⟩
    exact ⟨W2.heap.size, by (rw [unhide HDN]; try rfl), by rw [unhide HKK]; exact hm2.sub (by simp), by omega, hb2⟩
  · by_cases hpq : p = q
    · subst hpq
      obtain ⟨hfp, hdn⟩ := (unhide H2 rfl).1 rfl
      have HFP := hide hfp
      have HDN := hide hdn
      clear hfp hdn
      have hR0 : RM W2.heap.size 6 W2.drew := rm_new W2
      go_wp2
      have hF : StML f W2.heap.size [mMap f W2.heap.size [], mV (.pointer (some ⟨w.heap.size, 1, none⟩)), mV (.int .i64 (p : Int)), mV (.int .i64 x), mHas f W2.heap.size [(p : Int)], mV (.map (some W2.heap.size)), mV (.int .i64 x), mV (.pointer (some ⟨w.heap.size, 3, none⟩)), mV (.int .i64 am), mV (.bool (decide (am ≤ x))), mV (.map (some W2.heap.size))] := ⟨sm_Map f _ _, sm_V f _ _, sm_V f _ _, sm_V f _ _, sm_Has f _ _, sm_V f _ _, sm_V f _ _, sm_V f _ _, sm_V f _ _, sm_V f _ _, sm_V f _ _, trivial⟩
      refine wp_region_loc (by kernel_rfl) [(0, some 72), (1, some 73), (2, some 74), (3, some 75), (4, none), (5, some 76), (6, some 77), (7, some 78), (8, some 79), (9, some 80), (10, some 4)] [[], [], [(1, some 73)], [], [(0, some 72), (2, some 74), (3, some 75)], [(0, some 72)], [], [], [(7, some 78)], [(6, some 77), (8, some 79)], [(5, some 76)]] (by kernel_rfl)
        (locM [mMap f W2.heap.size [], mV (.pointer (some ⟨w.heap.size, 1, none⟩)), mV (.int .i64 (p : Int)), mV (.int .i64 x), mHas f W2.heap.size [(p : Int)], mV (.map (some W2.heap.size)), mV (.int .i64 x), mV (.pointer (some ⟨w.heap.size, 3, none⟩)), mV (.int .i64 am), mV (.bool (decide (am ≤ x))), mV (.map (some W2.heap.size))]) (EM f W2.heap.size) (RM W2.heap.size) [4, 0, 0, 0, 1, 0, 0, 0, 0, 0, 0] 5 (by kernel_rfl) (EM.refl f _) EM.trans (locM_st hF _) (show RM W2.heap.size 5 W2.drew from ⟨hR0.1, by have := hR0.2; omega⟩) ?_ ?_
      · refine steps_cons ?s14_0 (steps_cons ?s14_1 (steps_cons ?s14_2 (steps_cons ?s14_3 (steps_cons ?s14_4 (steps_cons ?s14_5 (steps_cons ?s14_6 (steps_cons ?s14_7 (steps_cons ?s14_8 (steps_cons ?s14_9 (steps_cons ?s14_10 (steps_nil)))))))))))
        case s14_0 =>
          intro w' m hE hR
          intro Q hQ
          obtain ⟨hs, hR2⟩ := rm_made hR
          go_wp2
          exact hQ _ _ _ rfl ⟨by first | rfl | rw [hs], by rw [← hs]; exact MapAt.made f w'⟩ (em_made hs) hR2
        case s14_1 =>
          intro w' m hE hR
          intro Q hQ
          go_wp2
          exact hQ _ _ _ rfl rfl (EM.refl _ _ _) hR
        case s14_2 =>
          intro w' m hE hR
          intro v1 h1 Q hQ
          obtain rfl : v1 = _ := h1
          have z : w'.cell? ⟨w.heap.size, 1, none⟩ = some _ := (hE.1.cell (p := ⟨w.heap.size, 1, none⟩) hslt).trans c1
          go_wp2
          exact hQ _ _ _ rfl rfl (EM.refl _ _ _) hR
        case s14_3 =>
          intro w' m hE hR
          intro Q hQ
          go_wp2
          exact hQ _ _ _ rfl rfl (EM.refl _ _ _) hR
        case s14_4 =>
          intro w' m hE hR
          intro v0 h0 v2 h2 v3 h3 Q hQ
          obtain ⟨rfl, h0⟩ := h0
          obtain rfl : v2 = _ := h2
          obtain rfl : v3 = _ := h3
          refine wpList_insert (f := f) rfl (.tmp 72) (.tmp 74) (.tmp 75) rfl p rfl rfl (congrArg (Value.int .i64) (unhide HFP).symm) h0 wp_ (by rw [unhide HFP]; unfold wfi; omega) (rm_cnt hR) ?_
          intro w2 i1 i2 i3 i4 i5
          go_wp2
          exact hQ undef _ _ rfl (i1.sub (by simp)) (em_insert hR.1 i3 i5) (rm_insert hR i4 i2).2
        case s14_5 =>
          intro w' m hE hR
          intro v0 h0 Q hQ
          obtain ⟨rfl, h0⟩ := h0
          go_wp2
          exact hQ _ _ _ rfl rfl (EM.refl _ _ _) hR
        case s14_6 =>
          intro w' m hE hR
          intro Q hQ
          go_wp2
          exact hQ _ _ _ rfl rfl (EM.refl _ _ _) hR
        case s14_7 =>
          intro w' m hE hR
          intro Q hQ
          go_wp2
          exact hQ _ _ _ rfl rfl (EM.refl _ _ _) hR
        case s14_8 =>
          intro w' m hE hR
          intro v7 h7 Q hQ
          obtain rfl : v7 = _ := h7
          have z : w'.cell? ⟨w.heap.size, 3, none⟩ = some _ := (hE.1.cell (p := ⟨w.heap.size, 3, none⟩) hslt).trans c3
          go_wp2
          exact hQ _ _ _ rfl rfl (EM.refl _ _ _) hR
        case s14_9 =>
          intro w' m hE hR
          intro v6 h6 v8 h8 Q hQ
          obtain rfl : v6 = _ := h6
          obtain rfl : v8 = _ := h8
          go_wp2
          exact hQ _ _ _ rfl rfl (EM.refl _ _ _) hR
        case s14_10 =>
          intro w' m hE hR
          intro v5 h5 Q hQ
          obtain rfl : v5 = _ := h5
          go_wp2
          exact hQ _ _ _ rfl rfl (EM.refl _ _ _) hR
      intro w3 hE hR
      rintro v0 ⟨rfl, m0⟩ v1 - v2 - v3 - v4 m4 v5 - v6 - v7 - v8 - v9 h9 v10 h10
      obtain rfl : v9 = _ := h9
      obtain rfl : v10 = _ := h10
      change wpList _ _ _ [_] _ _
      simp only [Go.Act.put, List.setIfInBounds_toArray, List.set_cons_succ, List.set_cons_zero]
      go_wp2
      go_ret2
      have hb3 : Below w.heap.size w w3 := hb0.trans ⟨hE.1.os, hE.1.tape, hE.1.output, hE.1.size, fun k hk => hE.1.block k (by omega)⟩
      exact ⟨W2.heap.size, by (rw [unhide HDN]; try rfl), (MapAt.sub m4 (fun k hk => by rcases unhide HKS k hk with h | h <;> simp [h])), by omega, hb3⟩
    · obtain ⟨hfp, hfq, hdn⟩ := (unhide H2 rfl).2 hpq
      have HFP := hide hfp
      have HFQ := hide hfq
      have HDN := hide hdn
      clear hfp hfq hdn
      have hR0 : RM W2.heap.size 6 W2.drew := rm_new W2
      have hne : ((p : Int) == (q : Int)) = false := by rw [beq_eq_false_iff_ne]; omega
      cases hge : decide (am ≤ x)
      · rw [hge] at HDN
        go_wp2
        have hF : StML f W2.heap.size [mMap f W2.heap.size [], mV (.pointer (some ⟨w.heap.size, 1, none⟩)), mV (.int .i64 (p : Int)), mV (.int .i64 x), mV (.pointer (some ⟨w.heap.size, 3, none⟩)), mV (.int .i64 am), mV (.int .i64 (x - am)), mHas f W2.heap.size [(p : Int)], mV (.pointer (some ⟨w.heap.size, 2, none⟩)), mV (.int .i64 (q : Int)), mV (.int .i64 y), mV (.pointer (some ⟨w.heap.size, 3, none⟩)), mV (.int .i64 am), mV (.int .i64 (y + am)), mHas f W2.heap.size [(q : Int)], mV (.map (some W2.heap.size)), mV (.int .i64 x), mV (.pointer (some ⟨w.heap.size, 3, none⟩)), mV (.int .i64 am), mV (.bool false), mV (.bool false), mAny, mAny, mAny, mAny, mAny, mV (.bool false), mV (.map (some W2.heap.size))] := ⟨sm_Map f _ _, sm_V f _ _, sm_V f _ _, sm_V f _ _, sm_V f _ _, sm_V f _ _, sm_V f _ _, sm_Has f _ _, sm_V f _ _, sm_V f _ _, sm_V f _ _, sm_V f _ _, sm_V f _ _, sm_V f _ _, sm_Has f _ _, sm_V f _ _, sm_V f _ _, sm_V f _ _, sm_V f _ _, sm_V f _ _, sm_V f _ _, sm_Any f _, sm_Any f _, sm_Any f _, sm_Any f _, sm_Any f _, sm_V f _ _, sm_V f _ _, trivial⟩
        refine wp_region_loc (by kernel_rfl) [(0, some 81), (1, some 82), (2, some 83), (3, some 84), (4, some 85), (5, some 86), (6, some 87), (7, none), (8, some 88), (9, some 89), (10, some 90), (11, some 91), (12, some 92), (13, some 93), (14, none), (15, some 94), (16, some 95), (17, some 96), (18, some 97), (19, some 98), (20, some 99), (21, some 100), (22, some 101), (23, some 102), (24, some 103), (25, some 104), (26, some 105), (27, some 4)] [[], [], [(1, some 82)], [], [], [(4, some 85)], [(3, some 84), (5, some 86)], [(0, some 81), (2, some 83), (6, some 87)], [], [(8, some 88)], [], [], [(11, some 91)], [(10, some 90), (12, some 92)], [(0, some 81), (9, some 89), (13, some 93)], [(0, some 81)], [], [], [(17, some 96)], [(16, some 95), (18, some 97)], [(19, some 98)], [(20, some 99)], [(20, some 99)], [(20, some 99), (22, some 101)], [(20, some 99), (21, some 100), (23, some 102)], [(20, some 99), (24, some 103)], [(20, some 99), (25, some 104)], [(15, some 94)]] (by kernel_rfl)
          (locM [mMap f W2.heap.size [], mV (.pointer (some ⟨w.heap.size, 1, none⟩)), mV (.int .i64 (p : Int)), mV (.int .i64 x), mV (.pointer (some ⟨w.heap.size, 3, none⟩)), mV (.int .i64 am), mV (.int .i64 (x - am)), mHas f W2.heap.size [(p : Int)], mV (.pointer (some ⟨w.heap.size, 2, none⟩)), mV (.int .i64 (q : Int)), mV (.int .i64 y), mV (.pointer (some ⟨w.heap.size, 3, none⟩)), mV (.int .i64 am), mV (.int .i64 (y + am)), mHas f W2.heap.size [(q : Int)], mV (.map (some W2.heap.size)), mV (.int .i64 x), mV (.pointer (some ⟨w.heap.size, 3, none⟩)), mV (.int .i64 am), mV (.bool false), mV (.bool false), mAny, mAny, mAny, mAny, mAny, mV (.bool false), mV (.map (some W2.heap.size))]) (EM f W2.heap.size) (RM W2.heap.size) [4, 0, 0, 0, 0, 0, 0, 1, 0, 0, 0, 0, 0, 0, 1, 0, 0, 0, 0, 0, 0, 0, 0, 0, 0, 0, 0, 0] 6 (by kernel_rfl) (EM.refl f _) EM.trans (locM_st hF _) hR0 ?_ ?_
        · refine steps_cons ?s15_0 (steps_cons ?s15_1 (steps_cons ?s15_2 (steps_cons ?s15_3 (steps_cons ?s15_4 (steps_cons ?s15_5 (steps_cons ?s15_6 (steps_cons ?s15_7 (steps_cons ?s15_8 (steps_cons ?s15_9 (steps_cons ?s15_10 (steps_cons ?s15_11 (steps_cons ?s15_12 (steps_cons ?s15_13 (steps_cons ?s15_14 (steps_cons ?s15_15 (steps_cons ?s15_16 (steps_cons ?s15_17 (steps_cons ?s15_18 (steps_cons ?s15_19 (steps_cons ?s15_20 (steps_cons ?s15_21 (steps_cons ?s15_22 (steps_cons ?s15_23 (steps_cons ?s15_24 (steps_cons ?s15_25 (steps_cons ?s15_26 (steps_cons ?s15_27 (steps_nil))))))))))))))))))))))))))))
          case s15_0 =>
            intro w' m hE hR
            intro Q hQ
            obtain ⟨hs, hR2⟩ := rm_made hR
            go_wp2
            exact hQ _ _ _ rfl ⟨by first | rfl | rw [hs], by rw [← hs]; exact MapAt.made f w'⟩ (em_made hs) hR2
          case s15_1 =>
            intro w' m hE hR
            intro Q hQ
            go_wp2
            exact hQ _ _ _ rfl rfl (EM.refl _ _ _) hR
          case s15_2 =>
            intro w' m hE hR
            intro v1 h1 Q hQ
            obtain rfl : v1 = _ := h1
            have z : w'.cell? ⟨w.heap.size, 1, none⟩ = some _ := (hE.1.cell (p := ⟨w.heap.size, 1, none⟩) hslt).trans c1
            go_wp2
            exact hQ _ _ _ rfl rfl (EM.refl _ _ _) hR
          case s15_3 =>
            intro w' m hE hR
            intro Q hQ
            go_wp2
            exact hQ _ _ _ rfl rfl (EM.refl _ _ _) hR
          case s15_4 =>
            intro w' m hE hR
            intro Q hQ
            go_wp2
            exact hQ _ _ _ rfl rfl (EM.refl _ _ _) hR
          case s15_5 =>
            intro w' m hE hR
            intro v4 h4 Q hQ
            obtain rfl : v4 = _ := h4
            have z : w'.cell? ⟨w.heap.size, 3, none⟩ = some _ := (hE.1.cell (p := ⟨w.heap.size, 3, none⟩) hslt).trans c3
            go_wp2
            exact hQ _ _ _ rfl rfl (EM.refl _ _ _) hR
          case s15_6 =>
            intro w' m hE hR
            intro v3 h3 v5 h5 Q hQ
            obtain rfl : v3 = _ := h3
            obtain rfl : v5 = _ := h5
            go_wp2
            exact hQ _ _ _ rfl rfl (EM.refl _ _ _) hR
          case s15_7 =>
            intro w' m hE hR
            intro v0 h0 v2 h2 v6 h6 Q hQ
            obtain ⟨rfl, h0⟩ := h0
            obtain rfl : v2 = _ := h2
            obtain rfl : v6 = _ := h6
            refine wpList_insert (f := f) rfl (.tmp 81) (.tmp 83) (.tmp 87) rfl p rfl rfl (congrArg (Value.int .i64) (unhide HFP).symm) h0 wp_ (by rw [unhide HFP]; unfold wfi; omega) (rm_cnt hR) ?_
            intro w2 i1 i2 i3 i4 i5
            go_wp2
            exact hQ undef _ _ rfl (i1.sub (by simp)) (em_insert hR.1 i3 i5) (rm_insert hR i4 i2).2
          case s15_8 =>
            intro w' m hE hR
            intro Q hQ
            go_wp2
            exact hQ _ _ _ rfl rfl (EM.refl _ _ _) hR
          case s15_9 =>
            intro w' m hE hR
            intro v8 h8 Q hQ
            obtain rfl : v8 = _ := h8
            have z : w'.cell? ⟨w.heap.size, 2, none⟩ = some _ := (hE.1.cell (p := ⟨w.heap.size, 2, none⟩) hslt).trans c2
            go_wp2
            exact hQ _ _ _ rfl rfl (EM.refl _ _ _) hR
          case s15_10 =>
            intro w' m hE hR
            intro Q hQ
            go_wp2
            exact hQ _ _ _ rfl rfl (EM.refl _ _ _) hR
          case s15_11 =>
            intro w' m hE hR
            intro Q hQ
            go_wp2
            exact hQ _ _ _ rfl rfl (EM.refl _ _ _) hR
          case s15_12 =>
            intro w' m hE hR
            intro v11 h11 Q hQ
            obtain rfl : v11 = _ := h11
            have z : w'.cell? ⟨w.heap.size, 3, none⟩ = some _ := (hE.1.cell (p := ⟨w.heap.size, 3, none⟩) hslt).trans c3
            go_wp2
            exact hQ _ _ _ rfl rfl (EM.refl _ _ _) hR
          case s15_13 =>
            intro w' m hE hR
            intro v10 h10 v12 h12 Q hQ
            obtain rfl : v10 = _ := h10
            obtain rfl : v12 = _ := h12
            go_wp2
            exact hQ _ _ _ rfl rfl (EM.refl _ _ _) hR
          case s15_14 =>
            intro w' m hE hR
            intro v0 h0 v9 h9 v13 h13 Q hQ
            obtain ⟨rfl, h0⟩ := h0
            obtain rfl : v9 = _ := h9
            obtain rfl : v13 = _ := h13
            refine wpList_insert (f := f) rfl (.tmp 81) (.tmp 89) (.tmp 93) rfl q rfl rfl (congrArg (Value.int .i64) (unhide HFQ).symm) h0 wq_ (by rw [unhide HFQ]; unfold wfi; omega) (rm_cnt hR) ?_
            intro w2 i1 i2 i3 i4 i5
            go_wp2
            exact hQ undef _ _ rfl (i1.sub (by simp)) (em_insert hR.1 i3 i5) (rm_insert hR i4 i2).2
          case s15_15 =>
            intro w' m hE hR
            intro v0 h0 Q hQ
            obtain ⟨rfl, h0⟩ := h0
            go_wp2
            exact hQ _ _ _ rfl rfl (EM.refl _ _ _) hR
          case s15_16 =>
            intro w' m hE hR
            intro Q hQ
            go_wp2
            exact hQ _ _ _ rfl rfl (EM.refl _ _ _) hR
          case s15_17 =>
            intro w' m hE hR
            intro Q hQ
            go_wp2
            exact hQ _ _ _ rfl rfl (EM.refl _ _ _) hR
          case s15_18 =>
            intro w' m hE hR
            intro v17 h17 Q hQ
            obtain rfl : v17 = _ := h17
            have z : w'.cell? ⟨w.heap.size, 3, none⟩ = some _ := (hE.1.cell (p := ⟨w.heap.size, 3, none⟩) hslt).trans c3
            go_wp2
            exact hQ _ _ _ rfl rfl (EM.refl _ _ _) hR
          case s15_19 =>
            intro w' m hE hR
            intro v16 h16 v18 h18 Q hQ
            obtain rfl : v16 = _ := h16
            obtain rfl : v18 = _ := h18
            go_wp2
            exact hQ _ _ _ rfl (by first | rfl | (show Value.bool (decide (am ≤ x)) = _; rw [hge])) (EM.refl _ _ _) hR
          case s15_20 =>
            intro w' m hE hR
            intro v19 h19 Q hQ
            obtain rfl : v19 = _ := h19
            go_wp2
            exact hQ _ _ _ rfl rfl (EM.refl _ _ _) hR
          case s15_21 =>
            intro w' m hE hR
            intro v20 h20 Q hQ
            obtain rfl : v20 = _ := h20
            go_wp2
            exact hQ undef _ _ rfl trivial (EM.refl _ _ _) hR
          case s15_22 =>
            intro w' m hE hR
            intro v20 h20 Q hQ
            obtain rfl : v20 = _ := h20
            go_wp2
            exact hQ undef _ _ rfl trivial (EM.refl _ _ _) hR
          case s15_23 =>
            intro w' m hE hR
            intro v20 h20 v22 h22 Q hQ
            obtain rfl : v20 = _ := h20
            go_wp2
            exact hQ undef _ _ rfl trivial (EM.refl _ _ _) hR
          case s15_24 =>
            intro w' m hE hR
            intro v20 h20 v21 h21 v23 h23 Q hQ
            obtain rfl : v20 = _ := h20
            go_wp2
            exact hQ undef _ _ rfl trivial (EM.refl _ _ _) hR
          case s15_25 =>
            intro w' m hE hR
            intro v20 h20 v24 h24 Q hQ
            obtain rfl : v20 = _ := h20
            go_wp2
            exact hQ undef _ _ rfl trivial (EM.refl _ _ _) hR
          case s15_26 =>
            intro w' m hE hR
            intro v20 h20 v25 h25 Q hQ
            obtain rfl : v20 = _ := h20
            go_wp2
            exact hQ _ _ _ rfl rfl (EM.refl _ _ _) hR
          case s15_27 =>
            intro w' m hE hR
            intro v15 h15 Q hQ
            obtain rfl : v15 = _ := h15
            go_wp2
            exact hQ _ _ _ rfl rfl (EM.refl _ _ _) hR
        intro w3 hE hR
        rintro v0 ⟨rfl, m0⟩ v1 - v2 - v3 - v4 - v5 - v6 - v7 m7 v8 - v9 - v10 - v11 - v12 - v13 - v14 m14 v15 - v16 - v17 - v18 - v19 - v20 - v21 - v22 - v23 - v24 - v25 - v26 h26 v27 h27
        obtain rfl : v26 = _ := h26
        obtain rfl : v27 = _ := h27
        change wpList _ _ _ [_] _ _
        simp only [Go.Act.put, List.setIfInBounds_toArray, List.set_cons_succ, List.set_cons_zero]
        go_wp2
        go_ret2
        have hb3 : Below w.heap.size w w3 := hb0.trans ⟨hE.1.os, hE.1.tape, hE.1.output, hE.1.size, fun k hk => hE.1.block k (by omega)⟩
        exact ⟨W2.heap.size, by (rw [unhide HDN]; try rfl), ((MapAt.both m7 m14).sub (fun k hk => by rcases unhide HKS k hk with h | h <;> simp [h])), by omega, hb3⟩
      · rw [hge] at HDN
        go_wp2
        have hF : StML f W2.heap.size [mMap f W2.heap.size [], mV (.pointer (some ⟨w.heap.size, 1, none⟩)), mV (.int .i64 (p : Int)), mV (.int .i64 x), mV (.pointer (some ⟨w.heap.size, 3, none⟩)), mV (.int .i64 am), mV (.int .i64 (x - am)), mHas f W2.heap.size [(p : Int)], mV (.pointer (some ⟨w.heap.size, 2, none⟩)), mV (.int .i64 (q : Int)), mV (.int .i64 y), mV (.pointer (some ⟨w.heap.size, 3, none⟩)), mV (.int .i64 am), mV (.int .i64 (y + am)), mHas f W2.heap.size [(q : Int)], mV (.map (some W2.heap.size)), mV (.int .i64 x), mV (.pointer (some ⟨w.heap.size, 3, none⟩)), mV (.int .i64 am), mV (.bool true), mV (.bool true), mV (.int .i64 y), mV (.pointer (some ⟨w.heap.size, 3, none⟩)), mV (.int .i64 am), mV (.int .i64 (y + am)), mV (.bool (decide (y + am ≤ 1000000))), mV (.bool (decide (y + am ≤ 1000000))), mV (.map (some W2.heap.size))] := ⟨sm_Map f _ _, sm_V f _ _, sm_V f _ _, sm_V f _ _, sm_V f _ _, sm_V f _ _, sm_V f _ _, sm_Has f _ _, sm_V f _ _, sm_V f _ _, sm_V f _ _, sm_V f _ _, sm_V f _ _, sm_V f _ _, sm_Has f _ _, sm_V f _ _, sm_V f _ _, sm_V f _ _, sm_V f _ _, sm_V f _ _, sm_V f _ _, sm_V f _ _, sm_V f _ _, sm_V f _ _, sm_V f _ _, sm_V f _ _, sm_V f _ _, sm_V f _ _, trivial⟩
        refine wp_region_loc (by kernel_rfl) [(0, some 81), (1, some 82), (2, some 83), (3, some 84), (4, some 85), (5, some 86), (6, some 87), (7, none), (8, some 88), (9, some 89), (10, some 90), (11, some 91), (12, some 92), (13, some 93), (14, none), (15, some 94), (16, some 95), (17, some 96), (18, some 97), (19, some 98), (20, some 99), (21, some 100), (22, some 101), (23, some 102), (24, some 103), (25, some 104), (26, some 105), (27, some 4)] [[], [], [(1, some 82)], [], [], [(4, some 85)], [(3, some 84), (5, some 86)], [(0, some 81), (2, some 83), (6, some 87)], [], [(8, some 88)], [], [], [(11, some 91)], [(10, some 90), (12, some 92)], [(0, some 81), (9, some 89), (13, some 93)], [(0, some 81)], [], [], [(17, some 96)], [(16, some 95), (18, some 97)], [(19, some 98)], [(20, some 99)], [(20, some 99)], [(20, some 99), (22, some 101)], [(20, some 99), (21, some 100), (23, some 102)], [(20, some 99), (24, some 103)], [(20, some 99), (25, some 104)], [(15, some 94)]] (by kernel_rfl)
          (locM [mMap f W2.heap.size [], mV (.pointer (some ⟨w.heap.size, 1, none⟩)), mV (.int .i64 (p : Int)), mV (.int .i64 x), mV (.pointer (some ⟨w.heap.size, 3, none⟩)), mV (.int .i64 am), mV (.int .i64 (x - am)), mHas f W2.heap.size [(p : Int)], mV (.pointer (some ⟨w.heap.size, 2, none⟩)), mV (.int .i64 (q : Int)), mV (.int .i64 y), mV (.pointer (some ⟨w.heap.size, 3, none⟩)), mV (.int .i64 am), mV (.int .i64 (y + am)), mHas f W2.heap.size [(q : Int)], mV (.map (some W2.heap.size)), mV (.int .i64 x), mV (.pointer (some ⟨w.heap.size, 3, none⟩)), mV (.int .i64 am), mV (.bool true), mV (.bool true), mV (.int .i64 y), mV (.pointer (some ⟨w.heap.size, 3, none⟩)), mV (.int .i64 am), mV (.int .i64 (y + am)), mV (.bool (decide (y + am ≤ 1000000))), mV (.bool (decide (y + am ≤ 1000000))), mV (.map (some W2.heap.size))]) (EM f W2.heap.size) (RM W2.heap.size) [4, 0, 0, 0, 0, 0, 0, 1, 0, 0, 0, 0, 0, 0, 1, 0, 0, 0, 0, 0, 0, 0, 0, 0, 0, 0, 0, 0] 6 (by kernel_rfl) (EM.refl f _) EM.trans (locM_st hF _) hR0 ?_ ?_
        · refine steps_cons ?s15_0 (steps_cons ?s15_1 (steps_cons ?s15_2 (steps_cons ?s15_3 (steps_cons ?s15_4 (steps_cons ?s15_5 (steps_cons ?s15_6 (steps_cons ?s15_7 (steps_cons ?s15_8 (steps_cons ?s15_9 (steps_cons ?s15_10 (steps_cons ?s15_11 (steps_cons ?s15_12 (steps_cons ?s15_13 (steps_cons ?s15_14 (steps_cons ?s15_15 (steps_cons ?s15_16 (steps_cons ?s15_17 (steps_cons ?s15_18 (steps_cons ?s15_19 (steps_cons ?s15_20 (steps_cons ?s15_21 (steps_cons ?s15_22 (steps_cons ?s15_23 (steps_cons ?s15_24 (steps_cons ?s15_25 (steps_cons ?s15_26 (steps_cons ?s15_27 (steps_nil))))))))))))))))))))))))))))
          case s15_0 =>
            intro w' m hE hR
            intro Q hQ
            obtain ⟨hs, hR2⟩ := rm_made hR
            go_wp2
            exact hQ _ _ _ rfl ⟨by first | rfl | rw [hs], by rw [← hs]; exact MapAt.made f w'⟩ (em_made hs) hR2
          case s15_1 =>
            intro w' m hE hR
            intro Q hQ
            go_wp2
            exact hQ _ _ _ rfl rfl (EM.refl _ _ _) hR
          case s15_2 =>
            intro w' m hE hR
            intro v1 h1 Q hQ
            obtain rfl : v1 = _ := h1
            have z : w'.cell? ⟨w.heap.size, 1, none⟩ = some _ := (hE.1.cell (p := ⟨w.heap.size, 1, none⟩) hslt).trans c1
            go_wp2
            exact hQ _ _ _ rfl rfl (EM.refl _ _ _) hR
          case s15_3 =>
            intro w' m hE hR
            intro Q hQ
            go_wp2
            exact hQ _ _ _ rfl rfl (EM.refl _ _ _) hR
          case s15_4 =>
            intro w' m hE hR
            intro Q hQ
            go_wp2
            exact hQ _ _ _ rfl rfl (EM.refl _ _ _) hR
          case s15_5 =>
            intro w' m hE hR
            intro v4 h4 Q hQ
            obtain rfl : v4 = _ := h4
            have z : w'.cell? ⟨w.heap.size, 3, none⟩ = some _ := (hE.1.cell (p := ⟨w.heap.size, 3, none⟩) hslt).trans c3
            go_wp2
            exact hQ _ _ _ rfl rfl (EM.refl _ _ _) hR
          case s15_6 =>
            intro w' m hE hR
            intro v3 h3 v5 h5 Q hQ
            obtain rfl : v3 = _ := h3
            obtain rfl : v5 = _ := h5
            go_wp2
            exact hQ _ _ _ rfl rfl (EM.refl _ _ _) hR
          case s15_7 =>
            intro w' m hE hR
            intro v0 h0 v2 h2 v6 h6 Q hQ
            obtain ⟨rfl, h0⟩ := h0
            obtain rfl : v2 = _ := h2
            obtain rfl : v6 = _ := h6
            refine wpList_insert (f := f) rfl (.tmp 81) (.tmp 83) (.tmp 87) rfl p rfl rfl (congrArg (Value.int .i64) (unhide HFP).symm) h0 wp_ (by rw [unhide HFP]; unfold wfi; omega) (rm_cnt hR) ?_
            intro w2 i1 i2 i3 i4 i5
            go_wp2
            exact hQ undef _ _ rfl (i1.sub (by simp)) (em_insert hR.1 i3 i5) (rm_insert hR i4 i2).2
          case s15_8 =>
            intro w' m hE hR
            intro Q hQ
            go_wp2
            exact hQ _ _ _ rfl rfl (EM.refl _ _ _) hR
          case s15_9 =>
            intro w' m hE hR
            intro v8 h8 Q hQ
            obtain rfl : v8 = _ := h8
            have z : w'.cell? ⟨w.heap.size, 2, none⟩ = some _ := (hE.1.cell (p := ⟨w.heap.size, 2, none⟩) hslt).trans c2
            go_wp2
            exact hQ _ _ _ rfl rfl (EM.refl _ _ _) hR
          case s15_10 =>
            intro w' m hE hR
            intro Q hQ
            go_wp2
            exact hQ _ _ _ rfl rfl (EM.refl _ _ _) hR
          case s15_11 =>
            intro w' m hE hR
            intro Q hQ
            go_wp2
            exact hQ _ _ _ rfl rfl (EM.refl _ _ _) hR
          case s15_12 =>
            intro w' m hE hR
            intro v11 h11 Q hQ
            obtain rfl : v11 = _ := h11
            have z : w'.cell? ⟨w.heap.size, 3, none⟩ = some _ := (hE.1.cell (p := ⟨w.heap.size, 3, none⟩) hslt).trans c3
            go_wp2
            exact hQ _ _ _ rfl rfl (EM.refl _ _ _) hR
          case s15_13 =>
            intro w' m hE hR
            intro v10 h10 v12 h12 Q hQ
            obtain rfl : v10 = _ := h10
            obtain rfl : v12 = _ := h12
            go_wp2
            exact hQ _ _ _ rfl rfl (EM.refl _ _ _) hR
          case s15_14 =>
            intro w' m hE hR
            intro v0 h0 v9 h9 v13 h13 Q hQ
            obtain ⟨rfl, h0⟩ := h0
            obtain rfl : v9 = _ := h9
            obtain rfl : v13 = _ := h13
            refine wpList_insert (f := f) rfl (.tmp 81) (.tmp 89) (.tmp 93) rfl q rfl rfl (congrArg (Value.int .i64) (unhide HFQ).symm) h0 wq_ (by rw [unhide HFQ]; unfold wfi; omega) (rm_cnt hR) ?_
            intro w2 i1 i2 i3 i4 i5
            go_wp2
            exact hQ undef _ _ rfl (i1.sub (by simp)) (em_insert hR.1 i3 i5) (rm_insert hR i4 i2).2
          case s15_15 =>
            intro w' m hE hR
            intro v0 h0 Q hQ
            obtain ⟨rfl, h0⟩ := h0
            go_wp2
            exact hQ _ _ _ rfl rfl (EM.refl _ _ _) hR
          case s15_16 =>
            intro w' m hE hR
            intro Q hQ
            go_wp2
            exact hQ _ _ _ rfl rfl (EM.refl _ _ _) hR
          case s15_17 =>
            intro w' m hE hR
            intro Q hQ
            go_wp2
            exact hQ _ _ _ rfl rfl (EM.refl _ _ _) hR
          case s15_18 =>
            intro w' m hE hR
            intro v17 h17 Q hQ
            obtain rfl : v17 = _ := h17
            have z : w'.cell? ⟨w.heap.size, 3, none⟩ = some _ := (hE.1.cell (p := ⟨w.heap.size, 3, none⟩) hslt).trans c3
            go_wp2
            exact hQ _ _ _ rfl rfl (EM.refl _ _ _) hR
          case s15_19 =>
            intro w' m hE hR
            intro v16 h16 v18 h18 Q hQ
            obtain rfl : v16 = _ := h16
            obtain rfl : v18 = _ := h18
            go_wp2
            exact hQ _ _ _ rfl (by first | rfl | (show Value.bool (decide (am ≤ x)) = _; rw [hge])) (EM.refl _ _ _) hR
          case s15_20 =>
            intro w' m hE hR
            intro v19 h19 Q hQ
            obtain rfl : v19 = _ := h19
            go_wp2
            exact hQ _ _ _ rfl rfl (EM.refl _ _ _) hR
          case s15_21 =>
            intro w' m hE hR
            intro v20 h20 Q hQ
            obtain rfl : v20 = _ := h20
            go_wp2
            exact hQ _ _ _ rfl rfl (EM.refl _ _ _) hR
          case s15_22 =>
            intro w' m hE hR
            intro v20 h20 Q hQ
            obtain rfl : v20 = _ := h20
            go_wp2
            exact hQ _ _ _ rfl rfl (EM.refl _ _ _) hR
          case s15_23 =>
            intro w' m hE hR
            intro v20 h20 v22 h22 Q hQ
            obtain rfl : v20 = _ := h20
            obtain rfl : v22 = _ := h22
            have z : w'.cell? ⟨w.heap.size, 3, none⟩ = some _ := (hE.1.cell (p := ⟨w.heap.size, 3, none⟩) hslt).trans c3
            go_wp2
            exact hQ _ _ _ rfl rfl (EM.refl _ _ _) hR
          case s15_24 =>
            intro w' m hE hR
            intro v20 h20 v21 h21 v23 h23 Q hQ
            obtain rfl : v20 = _ := h20
            obtain rfl : v21 = _ := h21
            obtain rfl : v23 = _ := h23
            go_wp2
            exact hQ _ _ _ rfl rfl (EM.refl _ _ _) hR
          case s15_25 =>
            intro w' m hE hR
            intro v20 h20 v24 h24 Q hQ
            obtain rfl : v20 = _ := h20
            obtain rfl : v24 = _ := h24
            go_wp2
            exact hQ _ _ _ rfl rfl (EM.refl _ _ _) hR
          case s15_26 =>
            intro w' m hE hR
            intro v20 h20 v25 h25 Q hQ
            obtain rfl : v20 = _ := h20
            obtain rfl : v25 = _ := h25
            go_wp2
            exact hQ _ _ _ rfl rfl (EM.refl _ _ _) hR
          case s15_27 =>
            intro w' m hE hR
            intro v15 h15 Q hQ
            obtain rfl : v15 = _ := h15
            go_wp2
            exact hQ _ _ _ rfl rfl (EM.refl _ _ _) hR
        intro w3 hE hR
        rintro v0 ⟨rfl, m0⟩ v1 - v2 - v3 - v4 - v5 - v6 - v7 m7 v8 - v9 - v10 - v11 - v12 - v13 - v14 m14 v15 - v16 - v17 - v18 - v19 - v20 - v21 - v22 - v23 - v24 - v25 - v26 h26 v27 h27
        obtain rfl : v26 = _ := h26
        obtain rfl : v27 = _ := h27
        change wpList _ _ _ [_] _ _
        simp only [Go.Act.put, List.setIfInBounds_toArray, List.set_cons_succ, List.set_cons_zero]
        go_wp2
        go_ret2
        have hb3 : Below w.heap.size w w3 := hb0.trans ⟨hE.1.os, hE.1.tape, hE.1.output, hE.1.size, fun k hk => hE.1.block k (by omega)⟩
        exact ⟨W2.heap.size, by (rw [unhide HDN]; try rfl), ((MapAt.both m7 m14).sub (fun k hk => by rcases unhide HKS k hk with h | h <;> simp [h])), by omega, hb3⟩
end Go.Proofs.YtefdhlfljpppfaaGreat
