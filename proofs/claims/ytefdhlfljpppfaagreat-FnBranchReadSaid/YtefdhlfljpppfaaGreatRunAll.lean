/- Serial runs of the program: runAll, RunSerial, RunAction. -/
import Derived.Test.YtefdhlfljpppfaaGreatActRun
import Derived.Test.YtefdhlfljpppfaaGreatEffD
namespace Go.Proofs.YtefdhlfljpppfaaGreat
open Go.RowKit
set_option linter.unusedVariables false
set_option linter.unusedSimpArgs false
attribute [local go_sem ↓] Go.wp_at_zero Go.wp_at_succ

def runAllV : List Int → List Act → List Int
  | v, [] => v
  | v, a :: al => runAllV (setAll v (runV v a).writes) al
def runAllE : List Int → List Act → List Eff
  | _, [] => []
  | v, a :: al => runV v a :: runAllE (setAll v (runV v a).writes) al
theorem runAllV_snoc (v : List Int) (al : List Act) (a : Act) : runAllV v (al ++ [a]) = setAll (runAllV v al) (runV (runAllV v al) a).writes := by
  induction al generalizing v with
  | nil => rfl
  | cons b al ih => exact ih _
theorem runAllE_snoc (v : List Int) (al : List Act) (a : Act) : runAllE v (al ++ [a]) = runAllE v al ++ [runV (runAllV v al) a] := by
  induction al generalizing v with
  | nil => rfl
  | cons b al ih => rw [List.cons_append, runAllE, ih]; rfl
theorem runAllE_len (v : List Int) (al : List Act) : (runAllE v al).length = al.length := by
  induction al generalizing v with
  | nil => rfl
  | cons b al ih => rw [runAllE, List.length_cons, ih, List.length_cons]
/-- what is written is in bounds -/
theorem runV_writes {v : List Int} {a : Act} (hv : valOk v) (ha : actB a = true) : ∀ e ∈ (runV v a).writes, (0 ≤ e.k ∧ e.k ≤ 31) ∧ 0 ≤ e.v ∧ e.v ≤ 1000000 := by
  intro e he
  obtain ⟨hs, hd, hm, hk⟩ := actB_bd ha
  have hkk := actK_kind hk
  have hx := atV_bd hv a.src
  have hy := atV_bd hv a.dst
  cases hdn : actDone a (atV v a.src) (atV v a.dst)
  · rw [runV_no hdn] at he; cases he
  · rw [runV_yes hdn] at he
    obtain ⟨k, hkm, rfl⟩ := List.mem_map.1 he
    have hkey : 0 ≤ k ∧ k ≤ 31 := by
      rcases actWrites_mem hkm with rfl | rfl
      · exact hs
      · exact hd
    refine ⟨hkey, ?_⟩
    simp only
    unfold actDone at hdn
    unfold wAt
    generalize atV v a.src = x at *
    generalize atV v a.dst = y at *
    rcases hkk with h | h | h | h | h | h
    · rw [if_pos h]; exact hm
    · rw [if_neg (by omega), if_pos h]; omega
    · rw [if_neg (by omega), if_neg (by omega), if_pos h]; exact hx
    · rw [if_neg (by omega), if_neg (by omega), if_neg (by omega), if_pos h]
      split <;> assumption
    · rw [if_pos h, decide_eq_true_eq] at hdn
      rw [if_neg (by omega), if_neg (by omega), if_neg (by omega), if_neg (by omega), if_pos h]
      omega
    · rw [if_neg (by omega), if_pos h, Bool.and_eq_true, Bool.or_eq_true, decide_eq_true_eq, decide_eq_true_eq, decide_eq_true_eq] at hdn
      rw [if_neg (by omega), if_neg (by omega), if_neg (by omega), if_neg (by omega), if_neg (by omega)]
      split
      · exact hx
      · rename_i hne
        split
        · omega
        · have := hdn.2
          omega
theorem valOk_setAll {v : List Int} (hv : valOk v) {es : List Ent} (h : ∀ e ∈ es, (0 ≤ e.k ∧ e.k ≤ 31) ∧ 0 ≤ e.v ∧ e.v ≤ 1000000) : valOk (setAll v es) := by
  induction es generalizing v with
  | nil => exact hv
  | cons e es ih =>
    have h1 := h e (by simp)
    exact ih (valOk_set hv h1.1.1 h1.2.1 h1.2.2) fun x hx => h x (by simp [hx])
theorem valOk_runAll {v : List Int} (hv : valOk v) {al : List Act} (ha : ∀ a ∈ al, actB a = true) : valOk (runAllV v al) := by
  induction al generalizing v with
  | nil => exact hv
  | cons a al ih => exact ih (valOk_setAll hv (runV_writes hv (ha a (by simp)))) fun x hx => ha x (by simp [hx])
theorem runV_len (v : List Int) (a : Act) : (runV v a).reads.length ≤ 2 ∧ (runV v a).writes.length ≤ 2 := by
  constructor
  · rw [runV_reads, List.length_map]; exact actReads_len a
  · cases h : actDone a (atV v a.src) (atV v a.dst)
    · rw [runV_no h]; simp
    · rw [runV_yes h, List.length_map]; exact actWrites_len a
theorem runAllE_small (v : List Int) (al : List Act) : ∀ x ∈ runAllE v al, x.reads.length ≤ 2 ∧ x.writes.length ≤ 2 := by
  induction al generalizing v with
  | nil => intro x hx; cases hx
  | cons a al ih =>
    intro x hx
    rcases List.mem_cons.1 hx with rfl | hx
    · exact runV_len v a
    · exact ih _ x hx
theorem results_cell_tmp {P : Program} {fn : Func} {p q : Tmp} {ty : TypeId} (h : fn.results = #[.cell p ty, .tmp q]) (tmps : Array Value) (w : World) (g : Nat) (t : TypeId) (cs : Array Value) (fr : Nat × Nat) (d : TypeDesc)
    (hp : tmps.getD p undef = .pointer (some ⟨g, 0, none⟩)) (hg : w.heap[g]? = some (.cells cs t fr))
    (hu : P.underlying ty = some d) (hd : (match d with | .struct _ | .array _ _ => true | _ => false) = true) (hi : (P.info? ty).map (·.size) = some cs.size) :
    (results fn tmps).run P w = .ok (.tuple #[.agg cs, tmps.getD q undef]) w := by
  have hp' : tmps[p]?.getD undef = .pointer (some ⟨g, 0, none⟩) := by simpa using hp
  simp [results, h, hp', asAddr, run_loadVar_row w g t ty cs fr d hg hu hd hi]
theorem one_effs (x : Eff) (A1 : Option Addr) (c1 : Nat) (A2 : Option Addr) (c2 : Nat) : ∀ u ∈ effV x A1 c1 A2 c2, u.oneCell' = true := by
  intro u hu
  simp [effV] at hu
  rcases hu with rfl | rfl | rfl <;> rfl
set_option maxRecDepth 100000 in
set_option maxHeartbeats 4000000 in
theorem runAll_any (v : List Int) (A : Option Addr) (c : Nat) (al : List Act) (w : World) (hv : valOk v) (h : Rd w A (al.flatMap encA)) (ha : ∀ a ∈ al, actB a = true) (hb : al.length ≤ 1000000) :
    Calls Tryz.prog 48 #[.agg (vA v), .slice A al.length c] w fun e w' => ∃ A' c', e = .returned (.tuple #[.agg (vA (runAllV v al)), .slice A' (runAllE v al).length c']) ∧ ((runAllE v al).length ≤ c' ∧ c' ≤ maxLen) ∧ RdD effR (fun k => w.heap.size ≤ k) w' A' (runAllE v al) ∧ Below w.heap.size w w' := by
  have HA := hide ha
  have HV := hide hv
  have hvl := hv.1
  have hb0 : Below w.heap.size w ((w.alloc (.cells (vA v) 76)).alloc (.cells zA 76)) := ((Below.refl _ _).alloc (Nat.le_refl _) _).alloc (by simp) _
  have k0 := (Blk.new w 76 (vA v)).alloc (.cells zA 76)
  have k1 : Blk ((w.alloc (.cells (vA v) 76)).alloc (.cells zA 76)) (w.heap.size + 1) 76 zA := by
    have := Blk.new (w.alloc (.cells (vA v) 76)) 76 zA
    simpa using this
  have hsz : ((w.alloc (.cells (vA v) 76)).alloc (.cells zA 76)).heap.size = w.heap.size + 1 + 1 := by simp
  clear ha hv
  go_enter Tryz.func48, Tryz.ntmps48
  go_wp2
  refine at_world (C := fun w => Code.wp _ _ _ _ w) (F := fun W => Blk W w.heap.size 76 (vA v) ∧ Blk W (w.heap.size + 1) 76 zA ∧ Below w.heap.size w W ∧ W.heap.size = w.heap.size + 1 + 1) ⟨k0, k1, hb0, hsz⟩ ?_
  clear k0 k1 hb0 hsz
  rintro W ⟨k0, k1, hB, hsz⟩
  have HSZ := hide hsz
  have hWs : w.heap.size + 1 + 1 ≤ W.heap.size := by omega
  clear hsz
  go_loopw [6, 8, 9, 11, 14] (fun ef _ _ _ i wr => ∃ (k : Nat) (A' : Option Addr) (c' : Nat) (vs : List (List Value)) (cur : List Int), k ≤ al.length ∧ i = .int .i64 k ∧ ef = .slice A' k c' ∧ Hid (cur = runAllV v (al.take k) ∧ valOk cur) ∧ AllR effR (Off (w.heap.size + 1 + 1) A') wr (runAllE v (al.take k)) vs ∧ wr.ownsRow (w.heap.size + 1 + 1) 83 3 (.slice A' k c') k vs.flatten ∧ Blk wr w.heap.size 76 (vA cur) ∧ Chg (fun q => q = w.heap.size) W wr) (fun _ _ _ _ i _ => al.length - (intOf i).toNat)
  case atStart => exact ⟨0, none, 0, [], v, Nat.zero_le _, rfl, rfl, hide ⟨rfl, unhide HV⟩, trivial, own_nil _ _ _ _, k0, Chg.refl _ _⟩
  case round =>
    clear k0
    obtain ⟨k, A', c', vs, cur, hk, rfl, rfl, HC, hall, hown, kv, hch⟩ := hrel
    have hB1 := hB.trans (hch.below (fun q hq e => by omega) hB.size)
    have hsr := hch.size
    have hcl := (unhide HC).2.1
    have hsV : (vA cur).size = 32 := by rw [vA_size, hcl]
    by_cases hlt : k < al.length
    · obtain ⟨b, off, rfl, hbb, d0, d1, d2, d3⟩ := (h.new hB1).act hlt
      have hact := unhide HA al[k] (List.getElem_mem hlt)
      have HT := hide (List.take_succ_eq_append_getElem hlt)
      have HEB := hide (runV_writes (unhide HC).2 hact)
      generalize al[k] = a at *
      have HACT := hide hact
      clear hact
      have i1 : (k : Int) < (al.length : Int) := by omega
      have hgv := kv.lt
      have kvx := kv.alloc (.cells #[.int .i64 a.kind, .int .i64 a.src, .int .i64 a.dst, .int .i64 a.amt] 101)
      have hba : Below wr.heap.size wr (wr.alloc (.cells #[.int .i64 a.kind, .int .i64 a.src, .int .i64 a.dst, .int .i64 a.amt] 101)) := (Below.refl _ _).alloc (Nat.le_refl _) _
      go_wp2_with (refine wpList_load_row rfl 76 (.tmp 2) rfl w.heap.size rfl 76 (vA cur) (0, 0) _ kvx Tryz.underlying76 rfl (by rw [hsV]; exact info_vals) ?_)
      refine (run_any a cur _ (unhide HACT) (unhide HC).2).mono ?_
      rintro e w3 ⟨A1, c1, A2, c2, rfl, heff, b3⟩
      have b13 := bthen hba b3
      have hx3 : effR (fun q => wr.heap.size ≤ q) (runV cur a) w3 (effV (runV cur a) A1 c1 A2 c2) := eff_good.mono heff fun q hq _ => by simp at hq; omega
      have hall3 := hall.keep eff_good (Kp.below b13)
      have o3 := own_new hown b13
      have kv3 := kv.new_ b13
      have hch3 := hch.trans (Chg.of_new (S := fun q => q = w.heap.size) b13)
      have hrg := own_rng hown
      have hs3 := b13.size
      clear heff hall hown kv hch kvx hba b3 d0 d1 d2 d3
      have hrx : RdP (fun q => wr.heap.size ≤ q) w3 A2 ((runV cur a).writes.flatMap encE) := by
        obtain ⟨B1, e1, B2, e2, he, _, _, _, h4⟩ := hx3
        simp only [effV, List.cons.injEq, Value.slice.injEq, and_true, true_and] at he
        obtain ⟨-, rfl, -⟩ := he
        exact h4
      have hwl := (runV_len cur a).2
      have HSN := hide (runAllV_snoc v (al.take k) a)
      have HSE := hide (runAllE_snoc v (al.take k) a)
      generalize hxe : runV cur a = x at *
      have HXE := hide hxe
      clear hxe
      have hgw : w.heap.size ≠ w3.heap.size := by omega
      have kx := Blk.new w3 83 #[.bool x.done, .slice A1 x.reads.length c1, .slice A2 x.writes.length c2]
      have hbx : Below w3.heap.size w3 (w3.alloc (.cells #[.bool x.done, .slice A1 x.reads.length c1, .slice A2 x.writes.length c2] 83)) := (Below.refl _ _).alloc (Nat.le_refl _) _
      go_wp2
      have hW : ∃ w4 : World, w4 = (w3.alloc (.cells #[.bool x.done, .slice A1 x.reads.length c1, .slice A2 x.writes.length c2] 83)) := ⟨_, rfl⟩
      obtain ⟨w4, hw4⟩ := hW
      rw [← hw4] at kx hbx ⊢
      clear hw4
      have kv4 := kv3.new_ hbx
      have hs4 := hbx.size
      have hkl := kx.lt
      go_loopw [11, 24] (fun _ i wq => ∃ (j : Nat), j ≤ x.writes.length ∧ i = .int .i64 j ∧ Blk wq w.heap.size 76 (vA (setAll cur (x.writes.take j))) ∧ Chg (fun q => q = w.heap.size) w4 wq) (fun _ i _ => x.writes.length - (intOf i).toNat)
      case atStart => exact ⟨0, Nat.zero_le _, rfl, kv4, Chg.refl _ _⟩
      case round =>
        obtain ⟨j, hj, rfl, kq, hcq⟩ := hrel
        have hsq := hcq.size
        have hrq := (hrx.keep ((Kp.below hbx).trans (Kp.chg hcq fun q hq e => by omega))).rd
        by_cases hlt2 : j < x.writes.length
        · obtain ⟨b2, off2, rfl, hbb2, q0, q1⟩ := hrq.ent hlt2
          have hyb := unhide HEB x.writes[j] (List.getElem_mem hlt2)
          have HSS := hide (show setAll cur (x.writes.take (j + 1)) = (setAll cur (x.writes.take j)).set x.writes[j].k.toNat x.writes[j].v by rw [List.take_succ_eq_append_getElem hlt2, setAll_snoc]; rfl)
          have hlen : (setAll cur (x.writes.take j)).length = 32 := (setAll_len _ _).trans hcl
          generalize setAll cur (x.writes.take j) = u at *
          generalize x.writes[j] = y at *
          obtain ⟨key, val⟩ := y
          simp only at q0 q1 hyb HSS
          obtain ⟨q, rfl⟩ := Int.eq_ofNat_of_zero_le hyb.1.1
          have i3 : (j : Int) < (x.writes.length : Int) := by omega
          have i4 : (q : Int) < 32 := by omega
          have i5 : q < 32 := by omega
          have cv := vA_get kq (show q < u.length by omega)
          have zv := kq.frozen q
          have hgl := kq.lt
          have hne : w.heap.size ≠ wr.heap.size := by omega
          go_wp2
          go_roundw
          case rel => exact ⟨j + 1, by omega, by go_num, by rw [unhide HSS]; exact (vA_set kq q val).alloc _, (hcq.setCell (p := ⟨w.heap.size, q, none⟩) (.inl rfl) _).alloc _⟩
          case measure => simp [intOf]; omega
        · obtain rfl : j = x.writes.length := by omega
          rw [List.take_length] at kq
          have kpq : ∀ {P : Nat → Prop}, (∀ q, P q → q ≠ w.heap.size) → Kp P w3 wr := fun hP => (Kp.below hbx).trans (Kp.chg hcq fun q hq e => hP q hq e)
          have kxq := kx.chg hcq (by omega)
          have z0 : wr.cell? ⟨w3.heap.size, 0, none⟩ = some (.bool x.done) := kxq.cell 0
          have z1 : wr.cell? ⟨w3.heap.size, 1, none⟩ = some (.slice A1 x.reads.length c1) := kxq.cell 1
          have z2 : wr.cell? ⟨w3.heap.size, 2, none⟩ = some (.slice A2 x.writes.length c2) := kxq.cell 2
          have hall5 := hall3.keep eff_good (kpq fun q (hq : Off _ _ q) => by have := hq.1; omega)
          have hx5 := eff_good.keep hx3 (kpq fun q hq => by omega)
          have o5 := own_chg (own_new o3 hbx) hcq (fun g hA e => by have := hrg g hA; omega)
          have hch5 := (hch3.trans (Chg.of_new (S := fun q => q = w.heap.size) hbx)).trans hcq
          have hs5 := hch5.size
          clear hall3 hx3 o3 kxq
          go_wp2_with (at_builtin; refine wpList_app rfl (.tmp 34) (.tmp 36) 78 rfl el_eff rfl (own_alloc o5 _) rfl (rd_lit wr (effV x A1 c1 A2 c2) _) rfl (one_effs x A1 c1 A2 c2) (by simp only [maxLen]; omega) (by omega) (by simp; omega) ?_; intro A6 c6 w6 o6 ch6 d6 _)
          have hall6 := deep_app eff_good hall5 hx5 (show w.heap.size + 1 + 1 ≤ _ by omega) (fun g hA => hrg g hA) ch6 d6
          have o6' : w6.ownsRow (w.heap.size + 1 + 1) 83 3 (.slice A6 (k + 1) c6) (k + 1) (vs ++ [effV x A1 c1 A2 c2]).flatten := by simpa using o6
          have hgne : ∀ q, A' = some ⟨q, 0, none⟩ → q ≠ w.heap.size := fun q e => by have := hrg q e; omega
          have kv6 : Blk w6 w.heap.size 76 (vA (setAll cur x.writes)) := (kq.alloc _).chg ch6 (fun e => hgne _ e rfl)
          have hch6 := chg_app (hch5.alloc _) ch6 (fun q e => .inr (by have := hrg q e; have := unhide HSZ; omega))
          have HCN := hide (show setAll cur x.writes = runAllV v (al.take (k + 1)) ∧ valOk (setAll cur x.writes) from ⟨by rw [unhide HT, unhide HSN, ← (unhide HC).1, unhide HXE], valOk_setAll (unhide HC).2 (unhide HEB)⟩)
          have HEN := hide (show runAllE v (al.take (k + 1)) = runAllE v (al.take k) ++ [x] by rw [unhide HT, unhide HSE, ← (unhide HC).1, unhide HXE])
          go_roundw
          case rel => exact ⟨k + 1, A6, c6, _, _, by omega, by go_num, rfl, HCN, by rw [unhide HEN]; exact hall6, o6', kv6, hch6⟩
          case measure => simp [intOf]; omega
    · obtain rfl : k = al.length := by omega
      have hcp := own_cap hown
      have kR := k1.chg hch (by omega)
      have HC2 := hide (show cur = runAllV v al by rw [(unhide HC).1, List.take_length])
      have hel := runAllE_len v al
      rw [List.take_length] at hall
      have hgz : zA.size = 32 := rfl
      have hc := (Chg.refl (fun q => q = w.heap.size + 1) wr)
      have hkr := blk_setRow (ds := vA cur) kR
      have hcR : Chg (fun q => q = w.heap.size + 1) wr (wr.setRow (w.heap.size + 1) (vA cur)) := ⟨rfl, rfl, rfl, by rw [size_setRow]; exact Nat.le_refl _, fun q _ hq => setRow_other wr (w.heap.size + 1) q _ (by omega)⟩
      rw [unhide HC2] at hkr hcR kv hsV
      have HKR := hide hkr
      have HCR := hide hcR
      go_wp2_with (first | (refine wpList_load_row rfl 76 (.tmp 2) rfl w.heap.size rfl 76 (vA (runAllV v al)) (0, 0) _ kv Tryz.underlying76 rfl (by rw [hsV]; exact info_vals) ?_) | (refine wpList_store_row rfl 76 (.tmp 4) (.tmp 39) rfl (w.heap.size + 1) (vA (runAllV v al)) rfl rfl 76 zA kR (by rw [hsV]; exact info_vals) (by rw [hsV]; rfl) (vA_one _) ?_))
      refine bodyPost_ret (v := .tuple #[.agg (vA (runAllV v al)), .slice A' al.length c']) (results_cell_tmp (p := 4) (q := 5) (ty := 76) rfl _ _ (w.heap.size + 1) 76 (vA (runAllV v al)) (0, 0) _ rfl hkr Tryz.underlying76 rfl (by rw [hsV]; exact info_vals)) rfl ⟨A', c', ?_, ?_, ?_, ?_⟩
      · rw [hel]
      · rw [hel]; exact hcp
      · refine ⟨vs, ?_, ?_⟩
        · exact ((hall.keep eff_good (Kp.chg (unhide HCR) fun q (hq : Off _ _ q) e => by have := hq.1; omega))).mono eff_good fun q hq _ => by have := hq.1; omega
        · exact ((own_rdB hown (Nat.le_refl _)).keep (Kp.chg (unhide HCR) fun q hq e => by omega)).mono fun q hq _ => by omega
      · exact hB1.trans (hcR.below (fun q hq e => by omega) hB1.size)
end Go.Proofs.YtefdhlfljpppfaaGreat
