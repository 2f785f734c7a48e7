/- The law FnEffectsStore. -/
import Derived.Test.YtiaodcjocogkkaaDrawEf
import Derived.Test.YtiaodcjocogkkaaEffD
import Derived.Test.YtiaodcjocogkkaaSameS
import Derived.Test.YtiaodcjocogkkaaLocB
import Derived.Test.YtiaodcjocogkkaaSums
namespace Go.Proofs.Ytiaodcjocogkkaa
open Go.RowKit
set_option linter.unusedVariables false
set_option linter.unusedSimpArgs false

theorem effGo_no (s : List Ent) (es : List Eff) (h : es.all (fun x => diffB x.writes) = false) : effGo s es = [] := by
  induction es generalizing s with
  | nil => simp at h
  | cons e es ih =>
    rw [effGo]
    split
    · rename_i hd
      exact ih _ (by simpa [hd] using h)
    · rfl
theorem effGo_app (s : List Ent) (es fs : List Eff) (h : es.all (fun x => diffB x.writes) = true) : effGo s (es ++ fs) = effGo (effGo s es) fs := by
  induction es generalizing s with
  | nil => rfl
  | cons e es ih =>
    rw [List.all_cons, Bool.and_eq_true] at h
    rw [List.cons_append, effGo, effGo, if_pos h.1, if_pos h.1]
    exact ih _ h.2
theorem effGo_ok (s : List Ent) (es : List Eff) (hs : storeB s = true) (h : es.all (fun x => diffB x.writes) = true) : storeB (effGo s es) = true := by
  induction es generalizing s with
  | nil => exact hs
  | cons e es ih =>
    rw [List.all_cons, Bool.and_eq_true] at h
    rw [effGo, if_pos h.1]
    exact ih _ (applyL_storeB hs h.1) h.2
theorem effStore_split {s : List Ent} {es : List Eff} (h : effStore s es ≠ []) (n : Nat) : storeB (effStore s es) = true ∧ effStore (effStore s (es.take n)) (es.drop n) = effStore s es := by
  have hs : storeB s = true := by
    cases hb : storeB s
    · exact absurd (by unfold effStore; simp [hb]) h
    · rfl
  have e1 : ∀ xs, effStore s xs = effGo s xs := fun xs => by unfold effStore; rw [if_pos hs]
  have ha : es.all (fun x => diffB x.writes) = true := by
    cases hb : es.all (fun x => diffB x.writes)
    · exact absurd ((e1 es).trans (effGo_no s es hb)) h
    · rfl
  have ht : (es.take n).all (fun x => diffB x.writes) = true := by
    rw [List.all_eq_true] at ha ⊢
    exact fun x hx => ha x (List.mem_of_mem_take hx)
  refine ⟨by rw [e1]; exact effGo_ok s es hs ha, ?_⟩
  rw [e1, e1, show effStore (effGo s (es.take n)) (es.drop n) = effGo (effGo s (es.take n)) (es.drop n) by unfold effStore; rw [if_pos (effGo_ok _ _ hs ht)], ← effGo_app _ _ _ ht, List.take_append_drop]
def bStore (s : List Ent) (v : Value) (w : World) : Prop := ∃ A c, v = .slice A s.length c ∧ Rd w A (s.flatMap encE)
theorem sb_Store (s : List Ent) : StB (bStore s) := fun _ _ _ hb ⟨A, c, h1, h2⟩ => ⟨A, c, h1, h2.new hb⟩
def bEffs (es : List Eff) (v : Value) (w : World) : Prop := ∃ A c, v = .slice A es.length c ∧ RdD effR (fun _ => True) w A es
theorem sb_Effs (es : List Eff) : StB (bEffs es) := fun _ _ _ hb ⟨A, c, h1, h2⟩ => ⟨A, c, h1, h2.new eff_good hb⟩
set_option maxRecDepth 100000 in
set_option maxHeartbeats 4000000 in
theorem law_FnEffectsStore (A : Option Addr) (c : Nat) (bs : List Int) (w : World) (h : Rd w A (bs.map (.int .u8))) (hw : ∀ b ∈ bs, 0 ≤ b ∧ b ≤ 255) (hc : bs.length ≤ c) (hm : c ≤ maxLen) :
    Calls Try.prog 7 #[.slice A bs.length c] w fun e w' => e = .returned (.bool true) ∧ Below w.heap.size w w' := by
  have hm2 : bs.length ≤ 9223372036854775807 := by simp only [maxLen] at hm; omega
  by_cases hl : (1048576 : Int) < (bs.length : Int)
  · clear hw
    go_enter Try.func7, Try.ntmps7
    go_wp2
    go_ret
    exact ⟨rfl, Below.refl _ _⟩
  have HW := hide hw
  have HC := hide hc
  have HM := hide hm
  clear hw hc hm
  go_enter Try.func7, Try.ntmps7
  go_wp2_with fail
  refine (DrawEffectsStore_any A c bs w h (unhide HW) (unhide HC) (unhide HM)).mono ?_
  rintro e w1 ⟨A1, c1, s, C, cc, es, hl1, hl2, hsm, hcc, rfl, r1, r2, hB⟩
  have HBS := hide (fun x (hx : x ∈ es) => show x.reads.length ≤ 1048576 ∧ x.writes.length ≤ 1048576 by have := hsm x hx; omega)
  have HCC := hide hcc
  clear hsm hcc
  go_wp2_with fail
  refine (effectsStore_impl A1 c1 s C cc es _ w1 r1 (by omega) r2 (by omega) (unhide HBS)).mono ?_
  rintro e w2 ⟨A2, c2, rfl, o2, b2⟩
  replace hB := bthen hB b2
  replace r1 := r1.new b2
  replace r2 := r2.new eff_good b2
  have q2 := own_rd o2
  clear o2 b2
  go_wp2_with fail
  refine (effectsStore_spec A1 c1 s C cc es _ w2 r1 (by omega) r2 (by omega) (unhide HBS)).mono ?_
  rintro e w3 ⟨A3, c3, rfl, o3, b3⟩
  replace hB := bthen hB b3
  replace r1 := r1.new b3
  replace r2 := r2.new eff_good b3
  replace q2 := q2.new b3
  have hel := effStore_len s es
  go_wp2_with fail
  refine (sameStore_any A2 A3 c2 c3 _ _ w3 q2 (own_rd o3) (by omega)).mono ?_
  rintro e w' ⟨rfl, m, rfl⟩
  rw [show decide (effStore s es = effStore s es) = true by simp]
  replace hB := below_drewN hB m
  replace r1 := r1.drewN m
  replace r2 := r2.drewN eff_good m
  replace q2 := q2.drewN m
  clear o3 b3
  generalize w3.drewN m = w4 at *
  clear w3 w2
  by_cases hz : (effStore s es).length = 0
  · have hz3 : (((effStore s es).length : Int) == 0) = true := by simpa using hz
    rw [hz]
    go_wp2_with fail
    refine (alive_any _).mono ?_
    rintro e w8 ⟨rfl, b8⟩
    go_wp2
    go_ret
    exact ⟨rfl, bthen hB b8⟩
  have hz3 : (((effStore s es).length : Int) == 0) = false := by simpa using hz
  have HSP := hide (effStore_split (s := s) (es := es) (fun e => hz (by rw [e]; rfl)) (es.length / 2))
  generalize hx : effStore s es = x at *
  clear hz
  have hHB := hide hB
  clear hB
  obtain ⟨hn, hhn⟩ : ∃ hn, hn = es.length / 2 := ⟨_, rfl⟩
  have hh2 : hn ≤ es.length := by omega
  have hh3 : 2 * hn ≤ es.length := by omega
  have hdv : (es.length : Int) / 2 = (hn : Int) := by omega
  have hcc1 := (unhide HCC).1
  have HTL := hide (show (es.take hn).length = hn by rw [List.length_take]; omega)
  have HDL := hide (show (es.drop hn).length = es.length - hn by rw [List.length_drop])
  have RT := hide (r2.take eff_good hn)
  rw [← hhn] at HSP
  have HHN := hide hhn
  have HBA := hide (fun y (hy : y ∈ es.take hn) => unhide HBS y (List.mem_of_mem_take hy))
  have HBB := hide (fun y (hy : y ∈ es.drop hn) => unhide HBS y (List.mem_of_mem_drop hy))
  have HDN := hide (show es.length = 0 → es.drop hn = [] from fun h => by rw [List.drop_eq_nil_iff]; omega)
  have HDR := hide (fun (w' : World) (b off : Nat) (h : RdD effR (fun _ => True) w' (some ⟨b, off, none⟩) es) => h.drop eff_good hn hh2)
  generalize es.take hn = ea at *
  generalize es.drop hn = eb at *
  have HDV := hide hdv
  clear hhn hdv
  have hF : StBL [bV (.slice A2 x.length c2), bV (.bool true), bV (.bool true), bV (.slice A1 s.length c1), bV (.slice C es.length cc), bV (.int .i64 (hn : Int)), bEffs ea, bStore (effStore s ea), bV (.slice C es.length cc), bV (.int .i64 (hn : Int)), bEffs eb, bStore x, bV (.slice A2 x.length c2)] :=
    ⟨sb_V _, sb_V _, sb_V _, sb_V _, sb_V _, sb_V _, sb_Effs _, sb_Store _, sb_V _, sb_V _, sb_Effs _, sb_Store _, sb_V _, trivial⟩
  go_upto_region 10 with fail
  rw [unhide HDV]
  refine wp_region_loc (by kernel_rfl) [(0, some 31), (1, some 32), (2, some 33), (3, some 34), (4, some 35), (5, some 36), (6, some 37), (7, some 38), (8, some 39), (9, some 40), (10, some 41), (11, some 42), (12, some 43)] [[], [(0, some 31)], [(1, some 32)], [(2, some 33)], [(2, some 33)], [(2, some 33)], [(2, some 33), (4, some 35), (5, some 36)], [(2, some 33), (3, some 34), (6, some 37)], [(2, some 33)], [(2, some 33)], [(2, some 33), (8, some 39), (9, some 40)], [(2, some 33), (7, some 38), (10, some 41)], [(2, some 33)]] (by kernel_rfl)
    (locB _) (fun a b => Below a.heap.size a b) noR [0, 0, 0, 0, 0, 0, 0, 0, 0, 0, 0, 0, 0] 0 (by kernel_rfl) (fun _ => Below.refl _ _) (fun _ _ _ => bthen) (locB_st hF _) trivial ?_ ?_
  · refine steps_cons ?s0 (steps_cons ?s1 (steps_cons ?s2 (steps_cons ?s3 (steps_cons ?s4 (steps_cons ?s5 (steps_cons ?s6 (steps_cons ?s7 (steps_cons ?s8 (steps_cons ?s9 (steps_cons ?s10 (steps_cons ?s11 (steps_cons ?s12 steps_nil))))))))))))
    case s0 =>
      intro w' m hE hR Q hQ
      go_wp2
      exact hQ _ _ _ rfl rfl (Below.refl _ _) trivial
    case s1 =>
      intro w' m hE hR
      rintro _ rfl Q hQ
      have K := storeB_impl A2 c2 x w' (q2.new (below_undrew hE)) (by omega)
      rw [(unhide HSP).1] at K
      go_wp2_with fail
      refine K.mono ?_
      rintro e w1 ⟨rfl, b1⟩
      go_wp2
      exact hQ _ _ _ rfl rfl b1 trivial
    case s2 =>
      intro w' m hE hR
      rintro _ rfl Q hQ
      go_wp2
      exact hQ _ _ _ rfl rfl (Below.refl _ _) trivial
    case s3 =>
      intro w' m hE hR
      rintro _ rfl Q hQ
      go_wp2
      exact hQ _ _ _ rfl rfl (Below.refl _ _) trivial
    case s4 =>
      intro w' m hE hR
      rintro _ rfl Q hQ
      go_wp2
      exact hQ _ _ _ rfl rfl (Below.refl _ _) trivial
    case s5 =>
      intro w' m hE hR
      rintro _ rfl Q hQ
      go_wp2
      exact hQ _ _ _ rfl rfl (Below.refl _ _) trivial
    case s6 =>
      intro w' m hE hR
      rintro _ rfl _ rfl _ rfl Q hQ
      have i1 : (hn : Int) ≤ (cc : Int) := by omega
      have RT' := hide ((unhide RT).new eff_good (below_undrew hE))
      go_wp2
      exact hQ _ _ _ rfl ⟨C, cc, by rw [unhide HTL], unhide RT'⟩ (Below.refl _ _) trivial
    case s7 =>
      intro w' m hE hR
      rintro _ rfl _ rfl _ ⟨D, cd, rfl, rD⟩ Q hQ
      have htl : ea.length ≤ 10 := by rw [unhide HTL]; omega
      go_wp2_with fail
      refine (effectsStore_impl A1 c1 s D cd ea _ w' (r1.new (below_undrew hE)) (by omega) rD (by omega) (unhide HBA)).mono ?_
      rintro e w1 ⟨A5, c5, rfl, o5, b5⟩
      go_wp2
      exact hQ _ _ _ rfl ⟨A5, c5, rfl, own_rd o5⟩ b5 trivial
    case s8 =>
      intro w' m hE hR
      rintro _ rfl Q hQ
      go_wp2
      exact hQ _ _ _ rfl rfl (Below.refl _ _) trivial
    case s9 =>
      intro w' m hE hR
      rintro _ rfl Q hQ
      go_wp2
      exact hQ _ _ _ rfl rfl (Below.refl _ _) trivial
    case s10 =>
      intro w' m hE hR
      rintro _ rfl _ rfl _ rfl Q hQ
      have i1 : (hn : Int) ≤ (es.length : Int) := by omega
      have i2 : (es.length : Int) ≤ (cc : Int) := by omega
      rcases Nat.eq_zero_or_pos es.length with h0 | h0
      · have HE0 := hide (unhide HDN h0)
        clear h0
        by_cases hcn : cc = hn
        all_goals
          rcases hC : C with _ | aC
          all_goals
            subst hC
            try subst hcn
            go_wp2
        all_goals
          refine hQ _ _ _ rfl ?_ (Below.refl _ _) trivial
          rw [unhide HE0] at HDL ⊢
          first
          | exact ⟨_, _, rfl, RdD.nil _ _ _ _⟩
          | exact ⟨_, _, congrArg (fun n => Value.slice _ n _) (unhide HDL).symm, RdD.nil _ _ _ _⟩
      · obtain ⟨b, off, _, rfl, -, -, -, -⟩ := r2.get eff_good (by omega) h0
        have HRD := hide (unhide HDR w' b off (r2.new eff_good (below_undrew hE)))
        go_wp2
        · refine hQ _ _ _ rfl ?_ (Below.refl _ _) trivial
          exact ⟨_, _, congrArg (fun n => Value.slice _ n _) (unhide HDL).symm, unhide HRD⟩
    case s11 =>
      intro w' m hE hR
      rintro _ rfl _ ⟨A5, c5, rfl, r5⟩ _ ⟨D, cd, rfl, rD⟩ Q hQ
      have hdl : eb.length ≤ 10 := by rw [unhide HDL]; omega
      have hel5 := effStore_len s ea
      have K := effectsStore_impl A5 c5 (effStore s ea) D cd eb _ w' r5 (by omega) rD (by omega) (unhide HBB)
      rw [(unhide HSP).2] at K
      go_wp2_with fail
      refine K.mono ?_
      rintro e w1 ⟨A6, c6, rfl, o6, b6⟩
      go_wp2
      exact hQ _ _ _ rfl ⟨A6, c6, rfl, own_rd o6⟩ b6 trivial
    case s12 =>
      intro w' m hE hR
      rintro _ rfl Q hQ
      go_wp2
      exact hQ _ _ _ rfl rfl (Below.refl _ _) trivial
  intro w9 hE _
  rintro v0 - v1 - v2 hv2 v3 - v4 - v5 - v6 - v7 - v8 - v9 - v10 - v11 ⟨A6, c6, rfl, r6⟩ v12 hv12
  obtain rfl : v2 = _ := hv2
  obtain rfl : v12 = _ := hv12
  have b9 := below_undrew hE
  have hB := bthen (unhide hHB) b9
  replace q2 := q2.new b9
  clear b9 hE RT r1 r2
  change wpList _ _ _ [_, _, _] _ _
  simp only [Act.put, List.setIfInBounds_toArray, List.set_cons_succ, List.set_cons_zero]
  go_wp2_with fail
  refine (sameStore_any A6 A2 c6 c2 x x w9 r6 q2 (by omega)).mono ?_
  rintro e w10 ⟨rfl, m2, rfl⟩
  rw [show decide (x = x) = true by simp]
  go_wp2
  go_ret
  exact ⟨rfl, below_drewN hB m2⟩
end Go.Proofs.Ytiaodcjocogkkaa
